/- BytesFlags: the law's walk. -/
import Derived.Test.YtgkpeeilmknmfaaDoorBytes7
import Derived.Test.YtgkpeeilmknmfaaDoorAs
namespace Go.Proofs.YtgkpeeilmknmfaaDoor
open Go.ChangeShapes Go.WideShapes Go.ChangeAt Go.RowKit

theorem flagsG_len : ∀ (l : List Bool) (now : Bool) (c : Int), (flagsG now c l).length ≤ l.length + 1
  | [], _, _ => by simp [flagsG]
  | x :: l, now, c => by
    simp only [flagsG]
    split
    · have := flagsG_len l now (c + 1); simp; omega
    · have := flagsG_len l x 1; simp; omega
theorem flagsL_len (l : List Bool) : (flagsL l).length ≤ l.length + 1 := by
  cases l with
  | nil => simp [flagsL]
  | cons x l => exact flagsG_len (x :: l) false 0
theorem unflag_err {l : List Int} {e : Int} (h : unflagG 0 [] l = .error e) : unflagF l = .error e := by rw [unflagF, h]
theorem unflag_three {l : List Int} {x : List Bool} (h : unflagG 0 [] l = .ok x) (h0 : l = [0]) : unflagF l = .error 3 := by rw [unflagF, h]; simp only [if_pos h0]
theorem unflag_fine {l : List Int} {x : List Bool} (h : unflagG 0 [] l = .ok x) (h0 : ¬ l = [0]) : unflagF l = .ok x := by rw [unflagF, h]; simp only [if_neg h0]
section
variable {l : List Int} {k : Nat} {acc : List Bool} {n : Int}
theorem UnflagAt.g1 (h : UnflagAt l k acc) (hx : Hid (l[k]? = some n)) (hm : n < 0 ∨ n < 1 ∧ 0 < k) : unflagG 0 [] l = .error 1 := by rw [h.open_ hx, if_pos hm]
theorem UnflagAt.g4 (h : UnflagAt l k acc) (hx : Hid (l[k]? = some n)) (hm : ¬ (n < 0 ∨ n < 1 ∧ 0 < k)) (h4 : 400 - (acc.length : Int) < n) : unflagG 0 [] l = .error 4 := by rw [h.open_ hx, if_neg hm, if_pos h4]
end
/-- where the second loop of the law stands -/
def UL (l : List Int) (B : Nat) (w : World) (s10 s11 s12 : Value) (k : Nat) (wr : World) : Prop :=
  s12 = .int .i64 k ∧ k ≤ l.length ∧ Below B w wr ∧
  ((∃ acc, s10 = .int .i64 0 ∧ UnflagAt l k acc ∧ wr.ownsRow B 4 1 s11 acc.length (boolsC acc)) ∨
   (∃ e : Nat, ∃ acc : List Bool, s10 = .int .i64 e ∧ (e = 1 ∨ e = 4) ∧ unflagG 0 [] l = .error (e : Int) ∧ acc.length ≤ 400 ∧ wr.ownsRow B 4 1 s11 acc.length (boolsC acc)))

set_option maxRecDepth 20000 in
set_option maxHeartbeats 8000000 in
theorem bytesFlags_walk (f : List Bool) (l : List Int) (Af Al : Option Addr) (cf cl : Nat) (w : World) (hE : Hid (ErrT w))
    (hf : f.length ≤ 1048576) (hl : l.length ≤ 1048576)
    (HRf : Hid (Reads (· < w.heap.size) w 1 Af f.length (boolsC f))) (HRl : Hid (Reads (· < w.heap.size) w 1 Al l.length (intsC l))) :
    Calls Tryd.prog 4 #[.slice Af f.length cf, .slice Al l.length cl] w fun e w' => e = .returned (.bool true) ∧ Below w.heap.size w w' := by
  go_enter Tryd.func4, Tryd.ntmps4
  go_wp2
  go_loopw [5, 6, 7] (fun v s6 i wr => ∃ (k : Nat) (now : Bool), k ≤ f.length ∧ i = .int .i64 k ∧ s6 = .bool now ∧ FlagsRel f v now k w.heap.size wr ∧ Below w.heap.size w wr) (fun _ _ i _ => f.length - (intOf i).toNat)
  case atStart => exact ⟨0, false, by omega, rfl, rfl, .inl ⟨rfl, rfl, rfl⟩, Below.refl _ _⟩
  obtain ⟨k, now, hk, rfl, rfl, hrel, hb⟩ := hrel
  by_cases hlt : k < f.length
  · obtain ⟨b, off, hA, hDb, hcell⟩ := HRf.out.at_ (by omega) (by omega)
    obtain ⟨x, hx⟩ := get_lt hlt
    have HC : Hid (∀ w', Below w.heap.size w w' → w'.cell? ⟨b, off + k, none⟩ = some (.bool x)) := fun w' hb' => (hb'.cell (p := ⟨b, off + k, none⟩) hDb).trans (hcell k _ (bools_at hx))
    have hc := HC.out wr hb
    have HX := Lib.hid hx
    clear hx
    subst hA
    rcases hrel with ⟨hk0, rfl, rfl⟩ | ⟨done, cc, hk1, hat, hown⟩
    · subst hk0
      have hcz : wr.cell? ⟨b, off, none⟩ = some (.bool x) := hc
      have HS : Hid (FlagsAt f 0 [] false 0) := FlagsAt.start (by omega)
      clear hcell
      cases x
      · have HE := Lib.hid (HS.out.same HX)
        go_wp2_with (at_builtin; refine wpList_append_one 39 3 (.int .i64 0) 1 8 Tryd.underlying39 infoInt rfl (by omega) rfl (.tmp 44) (.tmp 45) rfl (w.heap.size) (.slice none 0 0) (0) ([]) rfl (own_nil _ _ _ _) (wr.heap.size) 1 ([.int .i64 0]) rfl ?c1 ?c2 ?c3 ?c4 ?c5 ?c6 ?_)
        try case c1 => rfl
        try case c2 => intro j u hj; exact new_cells _ _ _ hj
        try case c3 => first | exact intsC_one [0] | exact ⟨rfl, rfl⟩ | rfl
        try case c4 => omega
        try case c5 => omega
        try case c6 => have := hb.size; simp; omega
        intro v1 w1 hown1 hg1 hat1
        have hb1 : Below (w.heap.size) w w1 := (hb.alloc hb.size _).grown hg1 (by have := hb.size; simp; omega) (fun g hg => (own_lt (own_nil wr w.heap.size 3 1) hg).1)
        clear hat1 hg1
        obtain ⟨g, cap, hv, hgb, hgl⟩ := hown1.form (by omega)
        subst hv
        have hc0 : w1.cell? ⟨g, 0, none⟩ = some (.int .i64 0) := hown1.cellAt 0 (by omega)
        have hfz := hown1.frozenAt 0
        have hcy : w1.cell? ⟨b, off, none⟩ = some (.bool false) := HC.out w1 hb1
        go_wp2
        have hst := hown1.stored 0 (.int .i64 1)
        exact ⟨⟨1, false, by omega, by go_num, rfl, .inr ⟨[], 1, by omega, HE.out, hst.1⟩, hb1.setCell (by exact hgb) _⟩, by simp [intOf]; omega⟩
      · have HE := Lib.hid (HS.out.other HX (by decide))
        go_wp2_with (at_builtin; refine wpList_append_one 39 3 (.int .i64 0) 1 8 Tryd.underlying39 infoInt rfl (by omega) rfl (.tmp 31) (.tmp 32) rfl (w.heap.size) (.slice none 0 0) (0) ([]) rfl (own_nil _ _ _ _) (wr.heap.size) 1 ([.int .i64 0]) rfl ?c1 ?c2 ?c3 ?c4 ?c5 ?c6 ?_)
        try case c1 => rfl
        try case c2 => intro j u hj; exact new_cells _ _ _ hj
        try case c3 => first | exact intsC_one [0] | exact ⟨rfl, rfl⟩ | rfl
        try case c4 => omega
        try case c5 => omega
        try case c6 => have := hb.size; simp; omega
        intro v1 w1 hown1 hg1 hat1
        have hb1 : Below (w.heap.size) w w1 := (hb.alloc hb.size _).grown hg1 (by have := hb.size; simp; omega) (fun g hg => (own_lt (own_nil wr w.heap.size 3 1) hg).1)
        clear hat1 hg1
        go_wp2_with (at_builtin; refine wpList_append_one 39 3 (.int .i64 0) 1 8 Tryd.underlying39 infoInt rfl (by omega) rfl (.tmp 44) (.tmp 45) rfl (w.heap.size) (v1) (1) ([.int .i64 0]) rfl (hown1.alloc _) (w1.heap.size) 1 ([.int .i64 0]) rfl ?c1 ?c2 ?c3 ?c4 ?c5 ?c6 ?_)
        try case c1 => rfl
        try case c2 => intro j u hj; exact new_cells _ _ _ hj
        try case c3 => first | exact intsC_one [0] | exact ⟨rfl, rfl⟩ | rfl
        try case c4 => omega
        try case c5 => omega
        try case c6 => have := hb1.size; simp; omega
        intro v2 w2 hown2 hg2 hat2
        have hb2 : Below w.heap.size w w2 := (hb1.alloc hb1.size _).grown hg2 (by have := hb1.size; simp; omega) (fun g hg => (own_lt hown1 hg).1)
        clear hat2 hg2
        obtain ⟨g, cap, hv, hgb, hgl⟩ := hown2.form (by omega)
        subst hv
        have hc0 : w2.cell? ⟨g, 1, none⟩ = some (.int .i64 0) := hown2.cellAt 1 (by omega)
        have hfz := hown2.frozenAt 1
        have hcy : w2.cell? ⟨b, off, none⟩ = some (.bool true) := HC.out w2 hb2
        go_wp2
        have hst := hown2.stored 1 (.int .i64 1)
        exact ⟨⟨1, true, by omega, by go_num, rfl, .inr ⟨[0], 1, by omega, HE.out, hst.1⟩, hb2.setCell (by exact hgb) _⟩, by simp [intOf]; omega⟩
    · have hbd := hat.bd
      have hk0 : ((k : Int) == 0) = false := by simp; omega
      clear hcell
      by_cases hxn : x = now
      · subst hxn
        obtain ⟨g, cap, hv, hgb, hgl⟩ := hown.form (by omega)
        have HE := Lib.hid (hat.same HX)
        subst hv
        have hc0 := hown.cellAt done.length (by omega)
        rw [intsC_last] at hc0
        have hfz := hown.frozenAt done.length
        go_wp2
        have hst := hown.stored done.length (.int .i64 (cc + 1))
        rw [intsC_set] at hst
        exact ⟨⟨k + 1, x, by omega, by go_num, rfl, .inr ⟨done, cc + 1, by omega, HE.out, hst.1⟩, hb.setCell (by exact hgb) _⟩, by simp [intOf]; omega⟩
      · have HE := Lib.hid (hat.other HX hxn)
        obtain ⟨g, cap, hv, hgb, hgl⟩ := hown.form (by omega)
        have hne : (x == now) = false := by simpa using hxn
        clear hxn
        subst hv
        go_wp2_with (at_builtin; refine wpList_append_one 39 3 (.int .i64 0) 1 8 Tryd.underlying39 infoInt rfl (by omega) rfl (.tmp 44) (.tmp 45) rfl (w.heap.size) (.slice (some ⟨g, 0, none⟩) (done.length + 1) cap) (done.length + 1) (intsC (done ++ [cc])) rfl (hown.alloc _) (wr.heap.size) 1 ([.int .i64 0]) rfl ?c1 ?c2 ?c3 ?c4 ?c5 ?c6 ?_)
        try case c1 => rfl
        try case c2 => intro j u hj; exact new_cells _ _ _ hj
        try case c3 => first | exact intsC_one [0] | exact ⟨rfl, rfl⟩ | rfl
        try case c4 => omega
        try case c5 => omega
        try case c6 => have := hb.size; simp; omega
        intro v1 w1 hown1 hg1 hat1
        have hb1 : Below (w.heap.size) w w1 := (hb.alloc hb.size _).grown hg1 (by have := hb.size; simp; omega) (fun g hg => (own_lt (hown) hg).1)
        clear hat1 hg1
        obtain ⟨g', cap', hv', hgb', hgl'⟩ := hown1.form (by omega)
        subst hv'
        obtain ⟨q, hq⟩ : ∃ q, q = done ++ [cc] := ⟨_, rfl⟩
        have hql : q.length = done.length + 1 := by rw [hq]; simp
        have ho2 : w1.ownsRow w.heap.size 3 1 (.slice (some ⟨g', 0, none⟩) (done.length + 1 + 1) cap') (done.length + 1 + 1) (intsC (q ++ [0])) := by rw [hq, intsC_append]; exact hown1
        have hc0 := ho2.cellAt (done.length + 1) (by omega)
        rw [← hql, intsC_last, hql] at hc0
        have hfz := ho2.frozenAt (done.length + 1)
        have hst := ho2.stored (done.length + 1) (.int .i64 1)
        rw [← hql, intsC_set, hql] at hst
        have HST := Lib.hid hst
        have HQ := Lib.hid hq
        have HQL := Lib.hid hql
        have hcy : w1.cell? ⟨b, off + k, none⟩ = some (.bool x) := HC.out w1 hb1
        clear hst hq hql
        go_wp2
        exact ⟨⟨k + 1, x, by omega, by go_num, rfl, .inr ⟨q, 1, by omega, by rw [HQ.out]; exact HE.out, by rw [HQL.out]; exact HST.out.1⟩, hb1.setCell (by exact hgb') _⟩, by simp [intOf]; omega⟩
  have hown : Hid (wr.ownsRow w.heap.size 3 1 u5 (flagsL f).length (intsC (flagsL f))) := by
    rcases hrel with ⟨hk0, rfl, rfl⟩ | ⟨done, cc, hk1, hat, hown⟩
    · have : f.length = 0 := by omega
      rw [List.length_eq_zero_iff] at this
      subst this
      exact own_nil _ _ _ _
    · have := hat.fin hlt
      show World.ownsRow _ _ _ _ _ _ _
      rw [this, List.length_append]; exact hown
  clear hrel
  have HB := Lib.hid hb
  clear hb
  go_wp2_with fail
  refine (flags_any f (· < w.heap.size) Af cf wr (HRf.out.keep (Below.keeps HB.out)) (fun k hk => Nat.lt_of_lt_of_le hk HB.out.size) (by omega)).mono ?_
  rintro e w1 ⟨v1, rfl, ho1, hb1⟩
  have HB1 : Hid (Below w.heap.size w w1) := HB.out.trans (hb1.mono HB.out.size)
  have hfl := flagsL_len f
  obtain ⟨A1, c1, hv1, _, _, hr1⟩ := Reads.of_own ho1
  subst hv1
  have HR1 := Lib.hid (hr1.more (D' := (· < w1.heap.size)) fun k hk => (own_lt ho1 hk).2)
  have hown1 : w1.ownsRow w.heap.size 3 1 u5 (flagsL f).length (intsC (flagsL f)) := own_keep hown.out fun g hg => hb1.block g (own_lt hown.out hg).2
  obtain ⟨A2, c2, hv2, _, _, hr2⟩ := Reads.of_own hown1
  subst hv2
  have HR2 := Lib.hid (hr2.more (D' := (· < w1.heap.size)) fun k hk => (own_lt hown1 hk).2)
  clear hr1 hr2 ho1 hb1 hown hown1 HB
  go_wp2_with fail
  refine (ints_yes (flagsL f) _ _ A1 A2 c1 c2 w1 HR1.out HR2.out (fun k hk => hk) (fun k hk => hk) (by omega)).mono ?_
  rintro e w2 ⟨rfl, hb2⟩
  have HB2 : Hid (Below w.heap.size w w2) := HB1.out.trans (hb2.mono HB1.out.size)
  clear hb2 HB1 HR1 HR2 hfl
  go_wp2_with fail
  go_loopw [10, 11, 12, 13] (fun s10 s11 s12 _ wr => ∃ k, UL l w.heap.size w s10 s11 s12 k wr) (fun _ _ s12 _ _ => l.length - (intOf s12).toNat)
  case atStart => exact ⟨0, rfl, by omega, HB2.out, .inl ⟨[], rfl, ⟨rfl, by simp⟩, own_nil _ _ _ _⟩⟩
  obtain ⟨k, rfl, hk, hb, hrel⟩ := hrel
  rcases hrel with ⟨acc, rfl, hat, hown⟩ | ⟨e, acc, rfl, he14, herr, ha4, hown⟩
  · have ha400 := hat.2
    obtain ⟨ao, cap, hv, hnc, hcm, hro⟩ := Reads.of_own hown
    clear hro
    by_cases hlt2 : k < l.length
    · obtain ⟨b, off, hA, hDb, hcell⟩ := HRl.out.at_ (by omega) (by omega)
      obtain ⟨n, hx⟩ := get_lt hlt2
      have HC : Hid (∀ w', Below w.heap.size w w' → w'.cell? ⟨b, off + k, none⟩ = some (.int .i64 n)) := fun w' hb' => (hb'.cell (p := ⟨b, off + k, none⟩) hDb).trans (hcell k _ (ints_at hx))
      have hc := HC.out wr hb
      have HX := Lib.hid hx
      clear hcell hx
      subst hA
      by_cases hm : n < 0
      · have HF := Lib.hid (hat.g1 HX (.inl hm))
        subst hv
        go_wp2_with fail
        go_loopw [11, 13] (fun v i wr' => v = .slice ao acc.length cap ∧ i = .int .i64 0 ∧ wr' = wr) (fun _ _ _ => 0)
        case atStart => exact ⟨rfl, rfl, rfl⟩
        case round =>
          obtain ⟨rfl, rfl, rfl⟩ := hrel
          go_wp2_with fail
          exact ⟨⟨k + 1, by go_num, by omega, hb, .inr ⟨1, acc, rfl, by omega, HF.out, ha400, hown⟩⟩, by simp [intOf]; omega⟩
      · by_cases hm1 : n < 1
        · by_cases hk0 : 0 < k
          · have HF := Lib.hid (hat.g1 HX (.inr ⟨hm1, hk0⟩))
            subst hv
            go_wp2_with fail
            go_loopw [11, 13] (fun v i wr' => v = .slice ao acc.length cap ∧ i = .int .i64 0 ∧ wr' = wr) (fun _ _ _ => 0)
            case atStart => exact ⟨rfl, rfl, rfl⟩
            case round =>
              obtain ⟨rfl, rfl, rfl⟩ := hrel
              go_wp2_with fail
              exact ⟨⟨k + 1, by go_num, by omega, hb, .inr ⟨1, acc, rfl, by omega, HF.out, ha400, hown⟩⟩, by simp [intOf]; omega⟩
          · have HF := Lib.hid (hat.step HX (by omega) (by omega))
            have HN : Hid (n.toNat = 0) := by show n.toNat = 0; omega
            have HO := Lib.hid hown
            clear hown
            subst hv
            go_wp2_with fail
            go_loopw [11, 13] (fun v i wr' => v = .slice ao acc.length cap ∧ i = .int .i64 0 ∧ wr' = wr) (fun _ _ _ => 0)
            case atStart => exact ⟨rfl, rfl, rfl⟩
            case round =>
              obtain ⟨rfl, rfl, rfl⟩ := hrel
              go_wp2_with fail
              exact ⟨⟨k + 1, by go_num, by omega, hb, .inl ⟨acc, rfl, by have := HF.out; rw [HN.out] at this; simpa using this, HO.out⟩⟩, by simp [intOf]; omega⟩
        · have hkk : 0 < k ∨ ¬ 0 < k := by omega
          rcases hkk with hk0 | hk0
          all_goals
            by_cases h4 : 400 - (acc.length : Int) < n
            · have HF := Lib.hid (hat.g4 HX (by omega) h4)
              subst hv
              go_wp2_with fail
              go_loopw [11, 13] (fun v i wr' => v = .slice ao acc.length cap ∧ i = .int .i64 0 ∧ wr' = wr) (fun _ _ _ => 0)
              case atStart => exact ⟨rfl, rfl, rfl⟩
              case round =>
                obtain ⟨rfl, rfl, rfl⟩ := hrel
                go_wp2_with fail
                exact ⟨⟨k + 1, by go_num, by omega, hb, .inr ⟨4, acc, rfl, by omega, HF.out, ha400, hown⟩⟩, by simp [intOf]; omega⟩
            · have HF := Lib.hid (hat.step HX (by omega) h4)
              obtain ⟨pb, hpb⟩ : ∃ pb, decide (k % 2 = 1) = pb := ⟨_, rfl⟩
              have hpq : ((k : Int) % 2 == 1) = pb := by rw [← hpb, Bool.eq_iff_iff]; simp; omega
              rw [hpb] at HF
              clear hpb
              subst hv
              obtain ⟨wo, rfl⟩ : ∃ wo : World, wo = wr := ⟨_, rfl⟩
              go_wp2_with fail
              go_loopw [11, 13] (fun v i wr => ∃ (j : Nat) (cur : List Bool), (j : Int) ≤ n ∧ i = .int .i64 j ∧ Hid (cur = acc ++ List.replicate j pb) ∧ wr.ownsRow w.heap.size 4 1 v cur.length (boolsC cur) ∧ Below w.heap.size w wr)
                (fun _ i _ => (n - intOf i).toNat)
              case atStart => exact ⟨0, acc, by omega, rfl, Lib.hid (by simp), hown, hb⟩
              case round =>
                obtain ⟨j, cur, hj, rfl, hcur, hown', hb'⟩ := hrel
                have hjl : cur.length ≤ 400 := by rw [hcur.out]; simp; omega
                have hc' := HC.out wr hb'
                by_cases hjm : (j : Int) < n
                · go_wp2_with (at_builtin; refine wpList_append_one 38 4 (.bool false) 1 1 Tryd.underlying38 infoBool rfl (by omega) rfl (.tmp 112) (.tmp 116) rfl (w.heap.size) (u11) (cur.length) (boolsC cur) rfl (hown'.alloc _) (wr.heap.size) 1 ([.bool pb]) rfl ?c1 ?c2 ?c3 ?c4 ?c5 ?c6 ?_)
                  try case c1 => rfl
                  try case c2 => intro j u hj; exact new_cells _ _ _ hj
                  try case c3 => first | exact boolsC_one [pb] | exact ⟨rfl, rfl⟩ | rfl
                  try case c4 => omega
                  try case c5 => omega
                  try case c6 => have := hb'.size; simp; omega
                  intro v1 w1 hown1 hg1 hat1
                  have hb1 : Below (w.heap.size) w w1 := (hb'.alloc hb'.size _).grown hg1 (by have := hb'.size; simp; omega) (fun g hg => (own_lt (hown') hg).1)
                  clear hat1 hg1
                  go_wp2_with fail
                  exact ⟨⟨j + 1, cur ++ [pb], by omega, by go_num, Lib.hid (by rw [hcur.out, replicate_snocB]), by rw [List.length_append, boolsC_append]; exact hown1, hb1⟩, by simp [intOf]; omega⟩
                · have hje : n.toNat = j := by omega
                  have HJ := Lib.hid hje
                  clear hje
                  go_wp2_with fail
                  exact ⟨⟨k + 1, by go_num, by omega, hb', .inl ⟨acc ++ List.replicate n.toNat pb, rfl, HF.out, by rw [HJ.out, ← hcur.out]; exact hown'⟩⟩, by simp [intOf]; omega⟩
    · have HF := Lib.hid (hat.fin hlt2)
      subst hv
      have HO := Lib.hid hown
      have HB3 := Lib.hid hb
      by_cases h1 : l.length = 1
      · obtain ⟨b, off, hA, hDb, hcell⟩ := HRl.out.at_ (by omega) (by omega)
        obtain ⟨n, hx⟩ := get_lt (l := l) (k := 0) (by omega)
        have hc0 : wr.cell? ⟨b, off, none⟩ = some (.int .i64 n) := (hb.cell (p := ⟨b, off + 0, none⟩) hDb).trans (hcell 0 _ (ints_at hx))
        have hl1 : l = [n] := by
          match l, h1, hx with
          | [a], _, hx => simp at hx; rw [hx]
        have H1 := Lib.hid hl1
        clear hcell hx hl1
        subst hA
        have hle : ((l.length : Int) == 1) = true := by simp; omega
        have hl0 : (0 : Int) < (l.length : Int) := by omega
        clear h1
        by_cases hn0 : n = 0
        · subst hn0
          have HE : Hid (unflagF l = .error 3) := unflag_three HF.out H1.out
          clear hown hb
          go_wp2_with fail
          refine (unflag_any l (· < w.heap.size) _ cl wr (HRl.out.keep (Below.keeps HB3.out)) (fun k hk => Nat.lt_of_lt_of_le hk HB3.out.size) (by omega)).mono ?_
          rw [HE.out]
          rintro e w4 ⟨rfl, hb4⟩
          have HB4 : Hid (Below w.heap.size w w4) := HB3.out.trans (hb4.mono HB3.out.size)
          clear hb4
          go_wp2_with fail
          refine (same_error 3 3 w4 (hE.out.keep HB4.out)).mono ?_
          rintro e w5 ⟨rfl, hb5⟩
          have HB5 : Hid (Below w.heap.size w w5) := HB4.out.trans (hb5.mono HB4.out.size)
          clear hb5
          go_wp2_with fail
          go_loopw [17] (fun i wr => i = .int .i64 0 ∧ wr = w5) (fun _ _ => 0)
          case atStart => exact ⟨rfl, rfl⟩
          obtain ⟨rfl, rfl⟩ := hrel
          go_wp2_with fail
          go_ret
          exact ⟨rfl, HB5.out⟩
        · have HE : Hid (unflagF l = .ok acc) := unflag_fine HF.out (by rw [H1.out]; simpa using hn0)
          have hn00 : (n == 0) = false := by simpa using hn0
          clear hn0 hown hb
          go_wp2_with fail
          refine (unflag_any l (· < w.heap.size) _ cl wr (HRl.out.keep (Below.keeps HB3.out)) (fun k hk => Nat.lt_of_lt_of_le hk HB3.out.size) (by omega)).mono ?_
          rw [HE.out]
          rintro e w4 ⟨⟨v4, rfl, ho4⟩, hb4⟩
          have HB4 : Hid (Below w.heap.size w w4) := HB3.out.trans (hb4.mono HB3.out.size)
          obtain ⟨A4, c4, hv4, _, _, hr4⟩ := Reads.of_own ho4
          subst hv4
          have hr5 := hr4.more (D' := (· < w4.heap.size)) fun k hk => (own_lt ho4 hk).2
          have hownw4 : w4.ownsRow w.heap.size 4 1 (.slice ao acc.length cap) acc.length (boolsC acc) := own_keep HO.out fun g hg => hb4.block g (own_lt HO.out hg).2
          obtain ⟨A6, c6, hv6, _, _, hr6⟩ := Reads.of_own hownw4
          injection hv6 with hv6 _ hv7
          subst hv6 hv7
          have hr7 := hr6.more (D' := (· < w4.heap.size)) fun k hk => (own_lt hownw4 hk).2
          clear hb4 ho4 hr4 hr6 hownw4
          have HR5 := Lib.hid hr5
          have HR7 := Lib.hid hr7
          clear hr5 hr7
          go_wp2_with fail
          refine (same_error 0 0 w4 (hE.out.keep HB4.out)).mono ?_
          rintro e w5 ⟨rfl, hb5⟩
          have HB5 : Hid (Below w.heap.size w w5) := HB4.out.trans (hb5.mono HB4.out.size)
          have HR5' := Lib.hid (HR5.out.keep (Below.keeps hb5))
          have HR7' := Lib.hid (HR7.out.keep (Below.keeps hb5))
          clear hb5 HR5 HR7
          have ha4 := ha400
          go_wp2_with fail
          go_loopw [17] (fun i wr => ∃ k : Nat, k ≤ acc.length ∧ i = .int .i64 k ∧ Hid (∃ n, wr = w5.drewN n)) (fun i _ => acc.length - (intOf i).toNat)
          case atStart => exact ⟨0, by omega, rfl, 0, rfl⟩
          obtain ⟨k9, hk9, rfl, HW⟩ := hrel
          obtain ⟨n9, hw9⟩ := HW.out
          by_cases hlt9 : k9 < acc.length
          focus
            obtain ⟨b1, o1, hA1, _, hcell1⟩ := HR5'.out.at_ (by omega) (by omega)
            obtain ⟨b2, o2, hA2, _, hcell2⟩ := HR7'.out.at_ (by omega) (by omega)
            obtain ⟨x, hx⟩ := get_lt hlt9
            have hc1 : wr.cell? ⟨b1, o1 + k9, none⟩ = some (.bool x) := by rw [hw9]; exact hcell1 k9 _ (bools_at hx)
            have hc2 : wr.cell? ⟨b2, o2 + k9, none⟩ = some (.bool x) := by rw [hw9]; exact hcell2 k9 _ (bools_at hx)
            subst hA1 hA2
            clear hcell1 hcell2 hx hw9
            go_wp2_with fail
            go_quiet (fail)
            go_wp2_with fail
            obtain ⟨n9, hw9⟩ := HW.out
            exact ⟨⟨k9 + 1, by omega, by go_num, n9 + nq, by rw [hw9, World.drewN_drewN]⟩, by simp [intOf]; omega⟩
          clear hw9
          go_wp2_with fail
          go_ret
          obtain ⟨n9, hw9⟩ := HW.out
          exact ⟨rfl, by rw [hw9]; exact below_drewN HB5.out _⟩
      · have hle : ((l.length : Int) == 1) = false := by simp; omega
        have HE : Hid (unflagF l = .ok acc) := unflag_fine HF.out (fun e => h1 (by rw [e]; rfl))
        clear h1 hown hb
        go_wp2_with fail
        refine (unflag_any l (· < w.heap.size) _ cl wr (HRl.out.keep (Below.keeps HB3.out)) (fun k hk => Nat.lt_of_lt_of_le hk HB3.out.size) (by omega)).mono ?_
        rw [HE.out]
        rintro e w4 ⟨⟨v4, rfl, ho4⟩, hb4⟩
        have HB4 : Hid (Below w.heap.size w w4) := HB3.out.trans (hb4.mono HB3.out.size)
        obtain ⟨A4, c4, hv4, _, _, hr4⟩ := Reads.of_own ho4
        subst hv4
        have hr5 := hr4.more (D' := (· < w4.heap.size)) fun k hk => (own_lt ho4 hk).2
        have hownw4 : w4.ownsRow w.heap.size 4 1 (.slice ao acc.length cap) acc.length (boolsC acc) := own_keep HO.out fun g hg => hb4.block g (own_lt HO.out hg).2
        obtain ⟨A6, c6, hv6, _, _, hr6⟩ := Reads.of_own hownw4
        injection hv6 with hv6 _ hv7
        subst hv6 hv7
        have hr7 := hr6.more (D' := (· < w4.heap.size)) fun k hk => (own_lt hownw4 hk).2
        clear hb4 ho4 hr4 hr6 hownw4
        have HR5 := Lib.hid hr5
        have HR7 := Lib.hid hr7
        clear hr5 hr7
        go_wp2_with fail
        refine (same_error 0 0 w4 (hE.out.keep HB4.out)).mono ?_
        rintro e w5 ⟨rfl, hb5⟩
        have HB5 : Hid (Below w.heap.size w w5) := HB4.out.trans (hb5.mono HB4.out.size)
        have HR5' := Lib.hid (HR5.out.keep (Below.keeps hb5))
        have HR7' := Lib.hid (HR7.out.keep (Below.keeps hb5))
        clear hb5 HR5 HR7
        have ha4 := ha400
        go_wp2_with fail
        go_loopw [17] (fun i wr => ∃ k : Nat, k ≤ acc.length ∧ i = .int .i64 k ∧ Hid (∃ n, wr = w5.drewN n)) (fun i _ => acc.length - (intOf i).toNat)
        case atStart => exact ⟨0, by omega, rfl, 0, rfl⟩
        obtain ⟨k9, hk9, rfl, HW⟩ := hrel
        obtain ⟨n9, hw9⟩ := HW.out
        by_cases hlt9 : k9 < acc.length
        focus
          obtain ⟨b1, o1, hA1, _, hcell1⟩ := HR5'.out.at_ (by omega) (by omega)
          obtain ⟨b2, o2, hA2, _, hcell2⟩ := HR7'.out.at_ (by omega) (by omega)
          obtain ⟨x, hx⟩ := get_lt hlt9
          have hc1 : wr.cell? ⟨b1, o1 + k9, none⟩ = some (.bool x) := by rw [hw9]; exact hcell1 k9 _ (bools_at hx)
          have hc2 : wr.cell? ⟨b2, o2 + k9, none⟩ = some (.bool x) := by rw [hw9]; exact hcell2 k9 _ (bools_at hx)
          subst hA1 hA2
          clear hcell1 hcell2 hx hw9
          go_wp2_with fail
          go_quiet (fail)
          go_wp2_with fail
          obtain ⟨n9, hw9⟩ := HW.out
          exact ⟨⟨k9 + 1, by omega, by go_num, n9 + nq, by rw [hw9, World.drewN_drewN]⟩, by simp [intOf]; omega⟩
        clear hw9
        go_wp2_with fail
        go_ret
        obtain ⟨n9, hw9⟩ := HW.out
        exact ⟨rfl, by rw [hw9]; exact below_drewN HB5.out _⟩
  · have HB3 := Lib.hid hb
    have HO := Lib.hid hown
    obtain ⟨ao, cap, hv, hnc, hcm, hro⟩ := Reads.of_own hown
    clear hro
    subst hv
    rcases he14 with rfl | rfl
    · have HE : Hid (unflagF l = .error 1) := unflag_err herr
      clear hown hb herr
      by_cases hlt2 : k < l.length
      · go_wp2_with fail
        refine (unflag_any l (· < w.heap.size) _ cl wr (HRl.out.keep (Below.keeps HB3.out)) (fun k hk => Nat.lt_of_lt_of_le hk HB3.out.size) (by omega)).mono ?_
        rw [HE.out]
        rintro e w4 ⟨rfl, hb4⟩
        have HB4 : Hid (Below w.heap.size w w4) := HB3.out.trans (hb4.mono HB3.out.size)
        clear hb4
        go_wp2_with fail
        refine (same_error 1 1 w4 (hE.out.keep HB4.out)).mono ?_
        rintro e w5 ⟨rfl, hb5⟩
        have HB5 : Hid (Below w.heap.size w w5) := HB4.out.trans (hb5.mono HB4.out.size)
        clear hb5
        go_wp2_with fail
        go_loopw [17] (fun i wr => i = .int .i64 0 ∧ wr = w5) (fun _ _ => 0)
        case atStart => exact ⟨rfl, rfl⟩
        obtain ⟨rfl, rfl⟩ := hrel
        go_wp2_with fail
        go_ret
        exact ⟨rfl, HB5.out⟩
      · go_wp2_with fail
        refine (unflag_any l (· < w.heap.size) _ cl wr (HRl.out.keep (Below.keeps HB3.out)) (fun k hk => Nat.lt_of_lt_of_le hk HB3.out.size) (by omega)).mono ?_
        rw [HE.out]
        rintro e w4 ⟨rfl, hb4⟩
        have HB4 : Hid (Below w.heap.size w w4) := HB3.out.trans (hb4.mono HB3.out.size)
        clear hb4
        go_wp2_with fail
        refine (same_error 1 1 w4 (hE.out.keep HB4.out)).mono ?_
        rintro e w5 ⟨rfl, hb5⟩
        have HB5 : Hid (Below w.heap.size w w5) := HB4.out.trans (hb5.mono HB4.out.size)
        clear hb5
        go_wp2_with fail
        go_loopw [17] (fun i wr => i = .int .i64 0 ∧ wr = w5) (fun _ _ => 0)
        case atStart => exact ⟨rfl, rfl⟩
        obtain ⟨rfl, rfl⟩ := hrel
        go_wp2_with fail
        go_ret
        exact ⟨rfl, HB5.out⟩
    · have HE : Hid (unflagF l = .error 4) := unflag_err herr
      clear hown hb herr
      by_cases hlt2 : k < l.length
      · go_wp2_with fail
        refine (unflag_any l (· < w.heap.size) _ cl wr (HRl.out.keep (Below.keeps HB3.out)) (fun k hk => Nat.lt_of_lt_of_le hk HB3.out.size) (by omega)).mono ?_
        rw [HE.out]
        rintro e w4 ⟨rfl, hb4⟩
        have HB4 : Hid (Below w.heap.size w w4) := HB3.out.trans (hb4.mono HB3.out.size)
        clear hb4
        go_wp2_with fail
        refine (same_error 4 4 w4 (hE.out.keep HB4.out)).mono ?_
        rintro e w5 ⟨rfl, hb5⟩
        have HB5 : Hid (Below w.heap.size w w5) := HB4.out.trans (hb5.mono HB4.out.size)
        clear hb5
        go_wp2_with fail
        go_loopw [17] (fun i wr => i = .int .i64 0 ∧ wr = w5) (fun _ _ => 0)
        case atStart => exact ⟨rfl, rfl⟩
        obtain ⟨rfl, rfl⟩ := hrel
        go_wp2_with fail
        go_ret
        exact ⟨rfl, HB5.out⟩
      · go_wp2_with fail
        refine (unflag_any l (· < w.heap.size) _ cl wr (HRl.out.keep (Below.keeps HB3.out)) (fun k hk => Nat.lt_of_lt_of_le hk HB3.out.size) (by omega)).mono ?_
        rw [HE.out]
        rintro e w4 ⟨rfl, hb4⟩
        have HB4 : Hid (Below w.heap.size w w4) := HB3.out.trans (hb4.mono HB3.out.size)
        clear hb4
        go_wp2_with fail
        refine (same_error 4 4 w4 (hE.out.keep HB4.out)).mono ?_
        rintro e w5 ⟨rfl, hb5⟩
        have HB5 : Hid (Below w.heap.size w w5) := HB4.out.trans (hb5.mono HB4.out.size)
        clear hb5
        go_wp2_with fail
        go_loopw [17] (fun i wr => i = .int .i64 0 ∧ wr = w5) (fun _ _ => 0)
        case atStart => exact ⟨rfl, rfl⟩
        obtain ⟨rfl, rfl⟩ := hrel
        go_wp2_with fail
        go_ret
        exact ⟨rfl, HB5.out⟩
end Go.Proofs.YtgkpeeilmknmfaaDoor
