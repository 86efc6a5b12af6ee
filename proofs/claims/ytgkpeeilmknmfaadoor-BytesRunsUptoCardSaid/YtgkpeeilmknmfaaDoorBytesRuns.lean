/- BytesRuns: the law's walk. -/
import Derived.Test.YtgkpeeilmknmfaaDoorBytesQ
import Derived.Test.YtgkpeeilmknmfaaDoorAs
namespace Go.Proofs.YtgkpeeilmknmfaaDoor
open Go.ChangeShapes Go.WideShapes Go.ChangeAt Go.RowKit

theorem kwrap {x : Int} (h : -9223372036854775808 ≤ x) (h2 : x < 9223372036854775808) : IntKind.i64.wrap x = x := by
  simp [IntKind.wrap, IntKind.bits, IntKind.signed]; omega
/-- where the first loop of the law stands -/
def RnAt (l : List Int) (i at_ : Nat) (o : Option Int) : Prop :=
  Adj o ((runsL l).drop i) ∧ expandL ((runsL l).drop i) = l.drop at_ ∧ at_ ≤ l.length ∧ i ≤ (runsL l).length ∧ (∀ j, i = j + 1 → ∃ m y, (runsL l)[j]? = some (m, y) ∧ o = some y)
theorem RnAt.start (l : List Int) : RnAt l 0 0 none := ⟨runsL_adj l, expand_runs l, by omega, by omega, fun j h => by omega⟩
section
variable {l : List Int} {i at_ : Nat} {o : Option Int} {m x : Int}
theorem RnAt.fin (h : RnAt l i at_ o) (hi : ¬ i < (runsL l).length) : at_ = l.length := by
  obtain ⟨_, h2, h3, _, _⟩ := h
  rw [List.drop_eq_nil_of_le (by omega)] at h2
  have : (l.drop at_).length = 0 := by rw [← h2]; rfl
  rw [List.length_drop] at this; omega
theorem RnAt.step (h : RnAt l i at_ o) (hx : (runsL l)[i]? = some (m, x)) : 1 ≤ m ∧ o ≠ some x ∧ m.toNat ≤ l.length - at_ ∧ (∀ k, k < m.toNat → l[at_ + k]? = some x) ∧ RnAt l (i + 1) (at_ + m.toNat) (some x) := by
  obtain ⟨h1, h2, h3, h4, h5⟩ := h
  obtain ⟨hlt, hx'⟩ := List.getElem?_eq_some_iff.1 hx
  rw [List.drop_eq_getElem_cons hlt, hx'] at h1 h2
  rw [expandL_cons] at h2
  have hlen : m.toNat + (expandL ((runsL l).drop (i + 1))).length = l.length - at_ := by
    have := congrArg List.length h2
    simpa using this
  refine ⟨h1.1, h1.2.1, by omega, fun k hk => ?_, h1.2.2, ?_, by omega, by omega, fun j hj => ?_⟩
  · rw [← List.getElem?_drop, ← h2, List.getElem?_append_left (by simpa using hk)]
    simp [hk]
  · have e : l.drop (at_ + m.toNat) = (l.drop at_).drop m.toNat := by rw [List.drop_drop]
    rw [e, ← h2, List.drop_append_of_le_length (by simp)]
    simp
  · obtain rfl : j = i := by omega
    exact ⟨m, x, hx, rfl⟩
end
/-- where the second loop of the law stands -/
def SL (p : List (Int × Int)) (B : Nat) (w : World) (s9 s10 s11 : Value) (k : Nat) (wr : World) : Prop :=
  s11 = .int .i64 k ∧ k ≤ p.length ∧ Below B w wr ∧
  ((∃ acc, s9 = .int .i64 0 ∧ SpreadAt p k acc ∧ wr.ownsRow B 3 1 s10 acc.length (intsC acc)) ∨
   (∃ e : Nat, ∃ acc : List Int, s9 = .int .i64 e ∧ (e = 1 ∨ e = 4) ∧ spreadF [] p = .error (e : Int) ∧ acc.length ≤ 400 ∧ wr.ownsRow B 3 1 s10 acc.length (intsC acc)))
theorem deltas_at {l : List Int} {k : Nat} {a x : Int} (h : (deltasF 0 l).drop k = deltasF a (l.drop k)) (hx : l[k]? = some x) : (deltasF 0 l)[k]? = some (wrap64 (x - a)) ∧ (deltasF 0 l).drop (k + 1) = deltasF x (l.drop (k + 1)) := by
  obtain ⟨hlt, rfl⟩ := List.getElem?_eq_some_iff.1 hx
  rw [List.drop_eq_getElem_cons hlt, deltasF] at h
  have hl : k < (deltasF 0 l).length := by rw [deltasF_length]; exact hlt
  rw [List.drop_eq_getElem_cons hl] at h
  injection h with h1 h2
  exact ⟨by rw [List.getElem?_eq_getElem hl, h1], h2⟩
theorem sums_at {l : List Int} {k : Nat} {a x : Int} (h : (sumsF 0 l).drop k = sumsF a (l.drop k)) (hx : l[k]? = some x) : (sumsF 0 l)[k]? = some (wrap64 (a + x)) ∧ (sumsF 0 l).drop (k + 1) = sumsF (wrap64 (a + x)) (l.drop (k + 1)) := by
  obtain ⟨hlt, rfl⟩ := List.getElem?_eq_some_iff.1 hx
  rw [List.drop_eq_getElem_cons hlt, sumsF] at h
  have hl : k < (sumsF 0 l).length := by rw [sumsF_length]; exact hlt
  rw [List.drop_eq_getElem_cons hl] at h
  injection h with h1 h2
  exact ⟨by rw [List.getElem?_eq_getElem hl, h1], h2⟩

set_option maxRecDepth 20000 in
set_option maxHeartbeats 8000000 in
theorem bytesRuns_walk (l : List Int) (p : List (Int × Int)) (Al Ap : Option Addr) (cl cp : Nat) (w : World) (hE : Hid (ErrT w))
    (hl : l.length ≤ 1048576) (hp : p.length ≤ 1048576)
    (HRl : Hid (Reads (· < w.heap.size) w 1 Al l.length (intsC l))) (HRp : Hid (Reads (· < w.heap.size) w 2 Ap p.length (pairsC p))) :
    Calls Tryd.prog 5 #[.slice Al l.length cl, .slice Ap p.length cp] w fun e w' => e = .returned (.bool true) ∧ Below w.heap.size w w' := by
  go_enter Tryd.func5, Tryd.ntmps5
  go_wp2_with fail
  refine (runs_any l (· < w.heap.size) Al cl w HRl.out (fun k hk => hk) (by omega)).mono ?_
  rintro e w1 ⟨v1, rfl, ho1, hb1⟩
  have hrl := runsL_length l
  obtain ⟨A1, c1, hv1, _, _, hr1⟩ := Reads.of_own ho1
  subst hv1
  have HR1 := Lib.hid (hr1.more (D' := (· < w1.heap.size)) fun k hk => (own_lt ho1 hk).2)
  have HB1 := Lib.hid hb1
  have HRl1 := Lib.hid (HRl.out.keep (Below.keeps HB1.out))
  obtain ⟨rn, hrn⟩ : ∃ rn, rn = (runsL l).length := ⟨_, rfl⟩
  rw [← hrn] at hrl HR1 ⊢
  have HRN := Lib.hid hrn
  clear hr1 ho1 hb1 hrn
  go_wp2_with fail
  go_loopw [6, 7, 8] (fun s6 s7 _ wr => ∃ (i at_ : Nat) (o : Option Int), s6 = .int .i64 at_ ∧ s7 = .int .i64 i ∧ i ≤ rn ∧ at_ ≤ l.length ∧ Hid (RnAt l i at_ o) ∧ Hid (∃ n, wr = w1.drewN n)) (fun _ s7 _ _ => rn - (intOf s7).toNat)
  case atStart => exact ⟨0, 0, none, rfl, rfl, by omega, by omega, RnAt.start l, 0, rfl⟩
  obtain ⟨i, at_, o, rfl, rfl, hi, hat, HRn, HW⟩ := hrel
  by_cases hlt : i < rn
  · obtain ⟨⟨m, x⟩, hx⟩ := get_lt (l := runsL l) (k := i) (by rw [← HRN.out]; exact hlt)
    obtain ⟨hm1, hox, hml, hlx, hnext⟩ := HRn.out.step hx
    obtain ⟨M, rfl⟩ : ∃ M : Nat, m = (M : Int) := ⟨m.toNat, by omega⟩
    rw [Int.toNat_natCast] at hml hlx hnext
    obtain ⟨n0, hw0⟩ := HW.out
    obtain ⟨b, off, hA, _, hcell⟩ := HR1.out.at_ (by omega) (by omega)
    obtain ⟨bl, ol, hAl, _, hcl⟩ := HRl1.out.at_ (by omega) (by omega)
    have HC0 : Hid (∀ n, (w1.drewN n).cell? ⟨b, off + i * 2, none⟩ = some (.int .i64 (M : Int))) := fun n => hcell _ _ (pairsC_fst _ _ _ hx)
    have HC1 : Hid (∀ n, (w1.drewN n).cell? ⟨b, off + i * 2 + 1, none⟩ = some (.int .i64 x)) := fun n => by rw [Nat.add_assoc]; exact hcell _ _ (pairsC_snd _ _ _ hx)
    have HCL : Hid (∀ n k, k < M → (w1.drewN n).cell? ⟨bl, ol + (at_ + k), none⟩ = some (.int .i64 x)) := fun n k hk => hcl _ _ (ints_at (hlx k hk))
    have hc0 : wr.cell? ⟨b, off + i * 2, none⟩ = some (.int .i64 (M : Int)) := by rw [hw0]; exact HC0.out _
    have hc1 : wr.cell? ⟨b, off + i * 2 + 1, none⟩ = some (.int .i64 x) := by rw [hw0]; exact HC1.out _
    have dm : decide ((M : Int) < 1) = false := by simp; omega
    have dl : decide ((l.length : Int) - (at_ : Int) < (M : Int)) = false := by simp; omega
    have HNX := Lib.hid hnext
    have hwl : IntKind.i64.wrap ((l.length : Int) - (at_ : Int)) = (l.length : Int) - (at_ : Int) := kwrap (by omega) (by omega)
    have hM1 : 1 ≤ M := by omega
    rcases Nat.eq_zero_or_pos i with hi0 | hi0
    · have d0 : decide ((0 : Int) < (i : Int)) = false := by simp; omega
      have HI := Lib.hid hi0
      have hni : ¬ 0 < i := by omega
      have d0' : decide (0 < i) = false := by simp; omega
      subst hA
      subst hAl
      clear hcell hcl hx hox hlx hnext hw0 hi0 hm1
      go_wp2_with fail
      go_quiet (fail)
      obtain ⟨w2, hw2⟩ : ∃ w2, w2 = wr.drewN nq := ⟨_, rfl⟩
      rw [← hw2]
      have HW2 : Hid (∃ n, w2 = w1.drewN n) := by
        obtain ⟨n, hn⟩ := HW.out
        exact ⟨n + nq, by rw [hw2, hn, World.drewN_drewN]⟩
      clear hw2 hc0 hc1
      go_wp2_with fail
      go_loopw [8] (fun s8 w3 => ∃ k : Nat, s8 = .int .i64 k ∧ k ≤ M ∧ Hid (∃ n, w3 = w1.drewN n)) (fun s8 _ => M - (intOf s8).toNat)
      case atStart => exact ⟨0, rfl, by omega, HW2⟩
      obtain ⟨k, rfl, hkM, HW3⟩ := hrel
      obtain ⟨n3, hw3⟩ := HW3.out
      have hc0 : wr.cell? ⟨b, off + i * 2, none⟩ = some (.int .i64 (M : Int)) := by rw [hw3]; exact HC0.out _
      have hc1 : wr.cell? ⟨b, off + i * 2 + 1, none⟩ = some (.int .i64 x) := by rw [hw3]; exact HC1.out _
      by_cases hlk : k < M
      · have hwk : IntKind.i64.wrap ((at_ : Int) + (k : Int)) = (at_ : Int) + (k : Int) := kwrap (by omega) (by omega)
        have hcl : wr.cell? ⟨bl, ol + (at_ + k), none⟩ = some (.int .i64 x) := by rw [hw3]; exact HCL.out _ k hlk
        clear hw3
        go_wp2_with fail
        go_quiet (fail)
        go_wp2_with fail
        exact ⟨⟨k + 1, by go_num, by omega, by
          obtain ⟨n, hn⟩ := HW3.out
          exact ⟨n + nq, by rw [hn, World.drewN_drewN]⟩⟩, by simp [intOf]; omega⟩
      · obtain rfl : k = M := by omega
        clear hw3
        go_wp2_with fail
        exact ⟨⟨i + 1, at_ + k, some x, by go_num, by go_num, by omega, by omega, HNX, HW3⟩, by simp [intOf]; omega⟩
    · have d0 : decide ((0 : Int) < (i : Int)) = true := by simp; omega
      have d0' : decide (0 < i) = true := by simp; omega
      obtain ⟨j, hj⟩ : ∃ j, i = j + 1 := ⟨i - 1, by omega⟩
      obtain ⟨m', y, hy, ho⟩ := HRn.out.2.2.2.2 j hj
      have hxy : (x == y) = false := by
        have : y ≠ x := fun e => hox (by rw [ho, e])
        simpa using this.symm
      have hcp : wr.cell? ⟨b, off + j * 2 + 1, none⟩ = some (.int .i64 y) := by rw [hw0, Nat.add_assoc]; exact hcell _ _ (pairsC_snd _ _ _ hy)
      have hj1 : (i : Int) - 1 = (j : Int) := by omega
      have hj2 : IntKind.i64.wrap ((i : Int) - 1) = (j : Int) := by rw [kwrap (by omega) (by omega)]; omega
      have hjl : j < rn := by omega
      have HJ := Lib.hid hj
      subst hA
      subst hAl
      clear hcell hcl hx hox hlx hnext hw0 hi0 hj hy ho hm1
      go_wp2_with fail
      go_quiet (fail)
      obtain ⟨w2, hw2⟩ : ∃ w2, w2 = wr.drewN nq := ⟨_, rfl⟩
      rw [← hw2]
      have HW2 : Hid (∃ n, w2 = w1.drewN n) := by
        obtain ⟨n, hn⟩ := HW.out
        exact ⟨n + nq, by rw [hw2, hn, World.drewN_drewN]⟩
      clear hw2 hc0 hc1
      go_wp2_with fail
      go_loopw [8] (fun s8 w3 => ∃ k : Nat, s8 = .int .i64 k ∧ k ≤ M ∧ Hid (∃ n, w3 = w1.drewN n)) (fun s8 _ => M - (intOf s8).toNat)
      case atStart => exact ⟨0, rfl, by omega, HW2⟩
      obtain ⟨k, rfl, hkM, HW3⟩ := hrel
      obtain ⟨n3, hw3⟩ := HW3.out
      have hc0 : wr.cell? ⟨b, off + i * 2, none⟩ = some (.int .i64 (M : Int)) := by rw [hw3]; exact HC0.out _
      have hc1 : wr.cell? ⟨b, off + i * 2 + 1, none⟩ = some (.int .i64 x) := by rw [hw3]; exact HC1.out _
      by_cases hlk : k < M
      · have hwk : IntKind.i64.wrap ((at_ : Int) + (k : Int)) = (at_ : Int) + (k : Int) := kwrap (by omega) (by omega)
        have hcl : wr.cell? ⟨bl, ol + (at_ + k), none⟩ = some (.int .i64 x) := by rw [hw3]; exact HCL.out _ k hlk
        clear hw3
        go_wp2_with fail
        go_quiet (fail)
        go_wp2_with fail
        exact ⟨⟨k + 1, by go_num, by omega, by
          obtain ⟨n, hn⟩ := HW3.out
          exact ⟨n + nq, by rw [hn, World.drewN_drewN]⟩⟩, by simp [intOf]; omega⟩
      · obtain rfl : k = M := by omega
        clear hw3
        go_wp2_with fail
        exact ⟨⟨i + 1, at_ + k, some x, by go_num, by go_num, by omega, by omega, HNX, HW3⟩, by simp [intOf]; omega⟩
  · have hfin := HRn.out.fin (by rw [← HRN.out]; exact hlt)
    have HB2 : Hid (Below w.heap.size w wr) := by
      obtain ⟨n, hn⟩ := HW.out
      rw [hn]; exact below_drewN HB1.out _
    subst hfin
    clear HRn HW HR1 HRl1 HRN
    go_wp2_with fail
    go_loopw [9, 10, 11, 12] (fun s9 s10 s11 _ wr => ∃ k, SL p w.heap.size w s9 s10 s11 k wr) (fun _ _ s11 _ _ => p.length - (intOf s11).toNat)
    case atStart => exact ⟨0, rfl, by omega, HB2.out, .inl ⟨[], rfl, ⟨rfl, by simp⟩, own_nil _ _ _ _⟩⟩
    obtain ⟨k, rfl, hk, hb, hrel⟩ := hrel
    rcases hrel with ⟨acc, rfl, hat, hown⟩ | ⟨e, acc, rfl, he14, herr, ha4, hown⟩
    · have ha400 := hat.2
      obtain ⟨ao, cap, hv, hnc, hcm, hro⟩ := Reads.of_own hown
      clear hro
      by_cases hlt2 : k < p.length
      · obtain ⟨b, off, hA, hDb, hcell⟩ := HRp.out.at_ (by omega) (by omega)
        obtain ⟨⟨m, nn⟩, hx⟩ := get_lt hlt2
        have HC0 : Hid (∀ w', Below w.heap.size w w' → w'.cell? ⟨b, off + k * 2, none⟩ = some (.int .i64 m)) := fun w' hb' => (hb'.cell (p := ⟨b, off + k * 2, none⟩) hDb).trans (hcell _ _ (pairsC_fst _ _ _ hx))
        have HC1 : Hid (∀ w', Below w.heap.size w w' → w'.cell? ⟨b, off + k * 2 + 1, none⟩ = some (.int .i64 nn)) := fun w' hb' => (hb'.cell (p := ⟨b, off + k * 2 + 1, none⟩) hDb).trans (by rw [Nat.add_assoc]; exact hcell _ _ (pairsC_snd _ _ _ hx))
        have hc0 := HC0.out wr hb
        have HX := Lib.hid hx
        clear hcell hx
        subst hA
        by_cases hm : m < 1
        · have HF := Lib.hid (hat.e1 HX hm)
          subst hv
          go_wp2_with fail
          go_loopw [10, 12] (fun v i wr' => v = .slice ao acc.length cap ∧ i = .int .i64 0 ∧ wr' = wr) (fun _ _ _ => 0)
          case atStart => exact ⟨rfl, rfl, rfl⟩
          case round =>
            obtain ⟨rfl, rfl, rfl⟩ := hrel
            go_wp2_with fail
            exact ⟨⟨k + 1, by go_num, by omega, hb, .inr ⟨1, acc, rfl, by omega, HF.out, ha400, hown⟩⟩, by simp [intOf]; omega⟩
        · by_cases h4 : 400 - (acc.length : Int) < m
          · have HF := Lib.hid (hat.e4 HX hm h4)
            subst hv
            go_wp2_with fail
            go_loopw [10, 12] (fun v i wr' => v = .slice ao acc.length cap ∧ i = .int .i64 0 ∧ wr' = wr) (fun _ _ _ => 0)
            case atStart => exact ⟨rfl, rfl, rfl⟩
            case round =>
              obtain ⟨rfl, rfl, rfl⟩ := hrel
              go_wp2_with fail
              exact ⟨⟨k + 1, by go_num, by omega, hb, .inr ⟨4, acc, rfl, by omega, HF.out, ha400, hown⟩⟩, by simp [intOf]; omega⟩
          · have HF := Lib.hid (hat.step HX hm h4)
            subst hv
            obtain ⟨wo, rfl⟩ : ∃ wo : World, wo = wr := ⟨_, rfl⟩
            go_wp2_with fail
            go_loopw [10, 12] (fun v i wr => ∃ (j : Nat) (cur : List Int), (j : Int) ≤ m ∧ i = .int .i64 j ∧ Hid (cur = acc ++ List.replicate j nn) ∧ wr.ownsRow w.heap.size 3 1 v cur.length (intsC cur) ∧ Below w.heap.size w wr)
              (fun _ i _ => (m - intOf i).toNat)
            case atStart => exact ⟨0, acc, by omega, rfl, Lib.hid (by simp), hown, hb⟩
            case round =>
              obtain ⟨j, cur, hj, rfl, hcur, hown', hb'⟩ := hrel
              have hjl : cur.length ≤ 400 := by rw [hcur.out]; simp; omega
              have hc0' := HC0.out wr hb'
              have hc1' := HC1.out wr hb'
              by_cases hjm : (j : Int) < m
              · go_wp2_with (at_builtin; refine wpList_append_one 39 3 (.int .i64 0) 1 8 Tryd.underlying39 infoInt rfl (by omega) rfl (.tmp 136) (.tmp 142) rfl (w.heap.size) (u10) (cur.length) (intsC cur) rfl (hown'.alloc _) (wr.heap.size) 1 ([.int .i64 nn]) rfl ?c1 ?c2 ?c3 ?c4 ?c5 ?c6 ?_)
                try case c1 => rfl
                try case c2 => intro j u hj; exact new_cells _ _ _ hj
                try case c3 => first | exact intsC_one [nn] | exact ⟨rfl, rfl⟩ | rfl
                try case c4 => omega
                try case c5 => omega
                try case c6 => have := hb'.size; simp; omega
                intro v1 w1 hown1 hg1 hat1
                have hb1 : Below (w.heap.size) w w1 := (hb'.alloc hb'.size _).grown hg1 (by have := hb'.size; simp; omega) (fun g hg => (own_lt (hown') hg).1)
                clear hat1 hg1
                go_wp2_with fail
                exact ⟨⟨j + 1, cur ++ [nn], by omega, by go_num, Lib.hid (by rw [hcur.out, replicate_snoc]), by rw [List.length_append, intsC_append]; exact hown1, hb1⟩, by simp [intOf]; omega⟩
              · have hje : m.toNat = j := by omega
                have HJ := Lib.hid hje
                clear hje
                go_wp2_with fail
                exact ⟨⟨k + 1, by go_num, by omega, hb', .inl ⟨acc ++ List.replicate m.toNat nn, rfl, HF.out, by rw [HJ.out, ← hcur.out]; exact hown'⟩⟩, by simp [intOf]; omega⟩
      · have HF := Lib.hid (hat.fin hlt2)
        subst hv
        have HO := Lib.hid hown
        have HB3 := Lib.hid hb
        clear hown hb hat
        go_wp2_with fail
        refine (spread_any p (· < w.heap.size) _ cp wr (HRp.out.keep (Below.keeps HB3.out)) (fun k hk => Nat.lt_of_lt_of_le hk HB3.out.size) (by omega)).mono ?_
        rw [HF.out]
        rintro e w4 ⟨⟨v4, rfl, ho4⟩, hb4⟩
        have HB4 : Hid (Below w.heap.size w w4) := HB3.out.trans (hb4.mono HB3.out.size)
        obtain ⟨A4, c4, hv4, _, _, hr4⟩ := Reads.of_own ho4
        subst hv4
        have hr5 := hr4.more (D' := (· < w4.heap.size)) fun k hk => (own_lt ho4 hk).2
        have hownw4 : w4.ownsRow w.heap.size 3 1 (.slice ao acc.length cap) acc.length (intsC acc) := own_keep HO.out fun g hg => hb4.block g (own_lt HO.out hg).2
        obtain ⟨A6, c6, hv6, _, _, hr6⟩ := Reads.of_own hownw4
        injection hv6 with hv6 _ hv7
        subst hv6 hv7
        have hr7 := hr6.more (D' := (· < w4.heap.size)) fun k hk => (own_lt hownw4 hk).2
        clear hb4 ho4 hr4 hr6 hownw4
        have HR5 := Lib.hid hr5
        have HR7 := Lib.hid hr7
        clear hr5 hr7
        go_wp2_with fail
        refine (same_error 0 0 w4 (hE.out.keep HB4.out)).mono ?_
        rintro e w5 ⟨rfl, hb5⟩
        have HB5 : Hid (Below w.heap.size w w5) := HB4.out.trans (hb5.mono HB4.out.size)
        have HR5' := Lib.hid (HR5.out.keep (Below.keeps hb5))
        have HR7' := Lib.hid (HR7.out.keep (Below.keeps hb5))
        have HS5 : Hid (w4.heap.size ≤ w5.heap.size) := hb5.size
        clear hb5 HR5 HR7
        go_wp2_with fail
        refine (ints_yes acc _ _ _ _ _ _ w5 HR5'.out HR7'.out (fun k hk => Nat.lt_of_lt_of_le hk HS5.out) (fun k hk => Nat.lt_of_lt_of_le hk HS5.out) (by omega)).mono ?_
        rintro e w6 ⟨rfl, hb6⟩
        have HB6 : Hid (Below w.heap.size w w6) := HB5.out.trans (hb6.mono HB5.out.size)
        clear hb6 HR5' HR7' HS5
        go_wp2_with fail
        refine (deltas_any l (· < w.heap.size) _ cl w6 (HRl.out.keep (Below.keeps HB6.out)) (fun k hk => Nat.lt_of_lt_of_le hk HB6.out.size) (by omega)).mono ?_
        rintro e w7 ⟨v7, rfl, ho7, hb7⟩
        have HB7 : Hid (Below w.heap.size w w7) := HB6.out.trans (hb7.mono HB6.out.size)
        obtain ⟨A7, c7, hv7, _, _, hr7⟩ := Reads.of_own ho7
        subst hv7
        have HR7 := Lib.hid (hr7.more (D' := (· < w7.heap.size)) fun k hk => (own_lt ho7 hk).2)
        clear hb7 ho7 hr7
        rw [deltasF_length] at HR7 ⊢
        go_wp2_with fail
        refine (sums_any l (· < w.heap.size) _ cl w7 (HRl.out.keep (Below.keeps HB7.out)) (fun k hk => Nat.lt_of_lt_of_le hk HB7.out.size) (by omega)).mono ?_
        rintro e w8 ⟨v8, rfl, ho8, hb8⟩
        have HB8 : Hid (Below w.heap.size w w8) := HB7.out.trans (hb8.mono HB7.out.size)
        obtain ⟨A8, c8, hv8, _, _, hr8⟩ := Reads.of_own ho8
        subst hv8
        have HR8 := Lib.hid (hr8.more (D' := (· < w8.heap.size)) fun k hk => (own_lt ho8 hk).2)
        have HR7' := Lib.hid (HR7.out.keep (Below.keeps hb8))
        clear hb8 ho8 hr8 HR7
        rw [sumsF_length] at HR8 ⊢
        have HRl8 := Lib.hid (HRl.out.keep (Below.keeps HB8.out))
        go_wp2_with fail
        go_loopw [19, 20, 21] (fun s19 s20 s21 wr => ∃ (k : Nat) (la su : Int), k ≤ l.length ∧ s19 = .int .i64 la ∧ s20 = .int .i64 su ∧ s21 = .int .i64 k ∧ Hid ((deltasF 0 l).drop k = deltasF la (l.drop k)) ∧ Hid ((sumsF 0 l).drop k = sumsF su (l.drop k)) ∧ Hid (∃ n, wr = w8.drewN n)) (fun _ _ s21 _ => l.length - (intOf s21).toNat)
        case atStart => exact ⟨0, 0, 0, by omega, rfl, rfl, rfl, rfl, rfl, 0, rfl⟩
        obtain ⟨k9, la, su, hk9, rfl, rfl, rfl, HD9, HS9, HW9⟩ := hrel
        by_cases hlt9 : k9 < l.length
        focus
          obtain ⟨n9, hw9⟩ := HW9.out
          obtain ⟨b7, o7, hA7, _, hcell7⟩ := HR7'.out.at_ (by omega) (by omega)
          obtain ⟨b8, o8, hA8, _, hcell8⟩ := HR8.out.at_ (by omega) (by omega)
          obtain ⟨b9, o9, hA9, _, hcell9⟩ := HRl8.out.at_ (by omega) (by omega)
          obtain ⟨x, hx⟩ := get_lt hlt9
          obtain ⟨hd1, hd2⟩ := deltas_at HD9.out hx
          obtain ⟨hs1, hs2⟩ := sums_at HS9.out hx
          have hc7 : wr.cell? ⟨b7, o7 + k9, none⟩ = some (.int .i64 (wrap64 (x - la))) := by rw [hw9]; exact hcell7 k9 _ (ints_at hd1)
          have hc8 : wr.cell? ⟨b8, o8 + k9, none⟩ = some (.int .i64 (wrap64 (su + x))) := by rw [hw9]; exact hcell8 k9 _ (ints_at hs1)
          have hc9 : wr.cell? ⟨b9, o9 + k9, none⟩ = some (.int .i64 x) := by rw [hw9]; exact hcell9 k9 _ (ints_at hx)
          have hdv : IntKind.i64.wrap (x - la) = wrap64 (x - la) := by rw [IntKind.wrap_i64, wrap_i64]
          have HD2 := Lib.hid hd2
          have HS2 := Lib.hid hs2
          subst hA7 hA8 hA9
          clear hcell7 hcell8 hcell9 hx hd1 hd2 hs1 hs2 hw9
          go_wp2_with fail
          go_quiet (fail)
          go_wp2_with fail
          exact ⟨⟨k9 + 1, x, wrap64 (su + x), by omega, rfl, rfl, by go_num, HD2, HS2, by
            obtain ⟨n, hn⟩ := HW9.out
            exact ⟨n + nq, by rw [hn, World.drewN_drewN]⟩⟩, by simp [intOf]; omega⟩
        go_wp2_with fail
        go_ret
        obtain ⟨n9, hw9⟩ := HW9.out
        exact ⟨rfl, by rw [hw9]; exact below_drewN HB8.out _⟩
    · have HB3 := Lib.hid hb
      have HO := Lib.hid hown
      obtain ⟨ao, cap, hv, hnc, hcm, hro⟩ := Reads.of_own hown
      clear hro
      subst hv
      rcases he14 with rfl | rfl
      · have HE : Hid (spreadF [] p = .error 1) := herr
        clear hown hb herr
        by_cases hlt2 : k < p.length
        · go_wp2_with fail
          refine (spread_any p (· < w.heap.size) _ cp wr (HRp.out.keep (Below.keeps HB3.out)) (fun k hk => Nat.lt_of_lt_of_le hk HB3.out.size) (by omega)).mono ?_
          rw [HE.out]
          rintro e w4 ⟨rfl, hb4⟩
          have HB4 : Hid (Below w.heap.size w w4) := HB3.out.trans (hb4.mono HB3.out.size)
          clear hb4
          go_wp2_with fail
          refine (same_error 1 1 w4 (hE.out.keep HB4.out)).mono ?_
          rintro e w5 ⟨rfl, hb5⟩
          have HB5 : Hid (Below w.heap.size w w5) := HB4.out.trans (hb5.mono HB4.out.size)
          clear hb5
          go_wp2_with fail
          refine (ints_yes [] (fun _ => False) (fun _ => False) none none 0 0 w5 Reads.none_ Reads.none_ (fun _ h => h.elim) (fun _ h => h.elim) (by simp)).mono ?_
          rintro e w6 ⟨rfl, hb6⟩
          have HB6 : Hid (Below w.heap.size w w6) := HB5.out.trans (hb6.mono HB5.out.size)
          clear hb6
          go_wp2_with fail
          refine (deltas_any l (· < w.heap.size) _ cl w6 (HRl.out.keep (Below.keeps HB6.out)) (fun k hk => Nat.lt_of_lt_of_le hk HB6.out.size) (by omega)).mono ?_
          rintro e w7 ⟨v7, rfl, ho7, hb7⟩
          have HB7 : Hid (Below w.heap.size w w7) := HB6.out.trans (hb7.mono HB6.out.size)
          obtain ⟨A7, c7, hv7, _, _, hr7⟩ := Reads.of_own ho7
          subst hv7
          have HR7 := Lib.hid (hr7.more (D' := (· < w7.heap.size)) fun k hk => (own_lt ho7 hk).2)
          clear hb7 ho7 hr7
          rw [deltasF_length] at HR7 ⊢
          go_wp2_with fail
          refine (sums_any l (· < w.heap.size) _ cl w7 (HRl.out.keep (Below.keeps HB7.out)) (fun k hk => Nat.lt_of_lt_of_le hk HB7.out.size) (by omega)).mono ?_
          rintro e w8 ⟨v8, rfl, ho8, hb8⟩
          have HB8 : Hid (Below w.heap.size w w8) := HB7.out.trans (hb8.mono HB7.out.size)
          obtain ⟨A8, c8, hv8, _, _, hr8⟩ := Reads.of_own ho8
          subst hv8
          have HR8 := Lib.hid (hr8.more (D' := (· < w8.heap.size)) fun k hk => (own_lt ho8 hk).2)
          have HR7' := Lib.hid (HR7.out.keep (Below.keeps hb8))
          clear hb8 ho8 hr8 HR7
          rw [sumsF_length] at HR8 ⊢
          have HRl8 := Lib.hid (HRl.out.keep (Below.keeps HB8.out))
          go_wp2_with fail
          go_loopw [19, 20, 21] (fun s19 s20 s21 wr => ∃ (k : Nat) (la su : Int), k ≤ l.length ∧ s19 = .int .i64 la ∧ s20 = .int .i64 su ∧ s21 = .int .i64 k ∧ Hid ((deltasF 0 l).drop k = deltasF la (l.drop k)) ∧ Hid ((sumsF 0 l).drop k = sumsF su (l.drop k)) ∧ Hid (∃ n, wr = w8.drewN n)) (fun _ _ s21 _ => l.length - (intOf s21).toNat)
          case atStart => exact ⟨0, 0, 0, by omega, rfl, rfl, rfl, rfl, rfl, 0, rfl⟩
          obtain ⟨k9, la, su, hk9, rfl, rfl, rfl, HD9, HS9, HW9⟩ := hrel
          by_cases hlt9 : k9 < l.length
          focus
            obtain ⟨n9, hw9⟩ := HW9.out
            obtain ⟨b7, o7, hA7, _, hcell7⟩ := HR7'.out.at_ (by omega) (by omega)
            obtain ⟨b8, o8, hA8, _, hcell8⟩ := HR8.out.at_ (by omega) (by omega)
            obtain ⟨b9, o9, hA9, _, hcell9⟩ := HRl8.out.at_ (by omega) (by omega)
            obtain ⟨x, hx⟩ := get_lt hlt9
            obtain ⟨hd1, hd2⟩ := deltas_at HD9.out hx
            obtain ⟨hs1, hs2⟩ := sums_at HS9.out hx
            have hc7 : wr.cell? ⟨b7, o7 + k9, none⟩ = some (.int .i64 (wrap64 (x - la))) := by rw [hw9]; exact hcell7 k9 _ (ints_at hd1)
            have hc8 : wr.cell? ⟨b8, o8 + k9, none⟩ = some (.int .i64 (wrap64 (su + x))) := by rw [hw9]; exact hcell8 k9 _ (ints_at hs1)
            have hc9 : wr.cell? ⟨b9, o9 + k9, none⟩ = some (.int .i64 x) := by rw [hw9]; exact hcell9 k9 _ (ints_at hx)
            have hdv : IntKind.i64.wrap (x - la) = wrap64 (x - la) := by rw [IntKind.wrap_i64, wrap_i64]
            have HD2 := Lib.hid hd2
            have HS2 := Lib.hid hs2
            subst hA7 hA8 hA9
            clear hcell7 hcell8 hcell9 hx hd1 hd2 hs1 hs2 hw9
            go_wp2_with fail
            go_quiet (fail)
            go_wp2_with fail
            exact ⟨⟨k9 + 1, x, wrap64 (su + x), by omega, rfl, rfl, by go_num, HD2, HS2, by
              obtain ⟨n, hn⟩ := HW9.out
              exact ⟨n + nq, by rw [hn, World.drewN_drewN]⟩⟩, by simp [intOf]; omega⟩
          go_wp2_with fail
          go_ret
          obtain ⟨n9, hw9⟩ := HW9.out
          exact ⟨rfl, by rw [hw9]; exact below_drewN HB8.out _⟩
        · go_wp2_with fail
          refine (spread_any p (· < w.heap.size) _ cp wr (HRp.out.keep (Below.keeps HB3.out)) (fun k hk => Nat.lt_of_lt_of_le hk HB3.out.size) (by omega)).mono ?_
          rw [HE.out]
          rintro e w4 ⟨rfl, hb4⟩
          have HB4 : Hid (Below w.heap.size w w4) := HB3.out.trans (hb4.mono HB3.out.size)
          clear hb4
          go_wp2_with fail
          refine (same_error 1 1 w4 (hE.out.keep HB4.out)).mono ?_
          rintro e w5 ⟨rfl, hb5⟩
          have HB5 : Hid (Below w.heap.size w w5) := HB4.out.trans (hb5.mono HB4.out.size)
          clear hb5
          go_wp2_with fail
          refine (ints_yes [] (fun _ => False) (fun _ => False) none none 0 0 w5 Reads.none_ Reads.none_ (fun _ h => h.elim) (fun _ h => h.elim) (by simp)).mono ?_
          rintro e w6 ⟨rfl, hb6⟩
          have HB6 : Hid (Below w.heap.size w w6) := HB5.out.trans (hb6.mono HB5.out.size)
          clear hb6
          go_wp2_with fail
          refine (deltas_any l (· < w.heap.size) _ cl w6 (HRl.out.keep (Below.keeps HB6.out)) (fun k hk => Nat.lt_of_lt_of_le hk HB6.out.size) (by omega)).mono ?_
          rintro e w7 ⟨v7, rfl, ho7, hb7⟩
          have HB7 : Hid (Below w.heap.size w w7) := HB6.out.trans (hb7.mono HB6.out.size)
          obtain ⟨A7, c7, hv7, _, _, hr7⟩ := Reads.of_own ho7
          subst hv7
          have HR7 := Lib.hid (hr7.more (D' := (· < w7.heap.size)) fun k hk => (own_lt ho7 hk).2)
          clear hb7 ho7 hr7
          rw [deltasF_length] at HR7 ⊢
          go_wp2_with fail
          refine (sums_any l (· < w.heap.size) _ cl w7 (HRl.out.keep (Below.keeps HB7.out)) (fun k hk => Nat.lt_of_lt_of_le hk HB7.out.size) (by omega)).mono ?_
          rintro e w8 ⟨v8, rfl, ho8, hb8⟩
          have HB8 : Hid (Below w.heap.size w w8) := HB7.out.trans (hb8.mono HB7.out.size)
          obtain ⟨A8, c8, hv8, _, _, hr8⟩ := Reads.of_own ho8
          subst hv8
          have HR8 := Lib.hid (hr8.more (D' := (· < w8.heap.size)) fun k hk => (own_lt ho8 hk).2)
          have HR7' := Lib.hid (HR7.out.keep (Below.keeps hb8))
          clear hb8 ho8 hr8 HR7
          rw [sumsF_length] at HR8 ⊢
          have HRl8 := Lib.hid (HRl.out.keep (Below.keeps HB8.out))
          go_wp2_with fail
          go_loopw [19, 20, 21] (fun s19 s20 s21 wr => ∃ (k : Nat) (la su : Int), k ≤ l.length ∧ s19 = .int .i64 la ∧ s20 = .int .i64 su ∧ s21 = .int .i64 k ∧ Hid ((deltasF 0 l).drop k = deltasF la (l.drop k)) ∧ Hid ((sumsF 0 l).drop k = sumsF su (l.drop k)) ∧ Hid (∃ n, wr = w8.drewN n)) (fun _ _ s21 _ => l.length - (intOf s21).toNat)
          case atStart => exact ⟨0, 0, 0, by omega, rfl, rfl, rfl, rfl, rfl, 0, rfl⟩
          obtain ⟨k9, la, su, hk9, rfl, rfl, rfl, HD9, HS9, HW9⟩ := hrel
          by_cases hlt9 : k9 < l.length
          focus
            obtain ⟨n9, hw9⟩ := HW9.out
            obtain ⟨b7, o7, hA7, _, hcell7⟩ := HR7'.out.at_ (by omega) (by omega)
            obtain ⟨b8, o8, hA8, _, hcell8⟩ := HR8.out.at_ (by omega) (by omega)
            obtain ⟨b9, o9, hA9, _, hcell9⟩ := HRl8.out.at_ (by omega) (by omega)
            obtain ⟨x, hx⟩ := get_lt hlt9
            obtain ⟨hd1, hd2⟩ := deltas_at HD9.out hx
            obtain ⟨hs1, hs2⟩ := sums_at HS9.out hx
            have hc7 : wr.cell? ⟨b7, o7 + k9, none⟩ = some (.int .i64 (wrap64 (x - la))) := by rw [hw9]; exact hcell7 k9 _ (ints_at hd1)
            have hc8 : wr.cell? ⟨b8, o8 + k9, none⟩ = some (.int .i64 (wrap64 (su + x))) := by rw [hw9]; exact hcell8 k9 _ (ints_at hs1)
            have hc9 : wr.cell? ⟨b9, o9 + k9, none⟩ = some (.int .i64 x) := by rw [hw9]; exact hcell9 k9 _ (ints_at hx)
            have hdv : IntKind.i64.wrap (x - la) = wrap64 (x - la) := by rw [IntKind.wrap_i64, wrap_i64]
            have HD2 := Lib.hid hd2
            have HS2 := Lib.hid hs2
            subst hA7 hA8 hA9
            clear hcell7 hcell8 hcell9 hx hd1 hd2 hs1 hs2 hw9
            go_wp2_with fail
            go_quiet (fail)
            go_wp2_with fail
            exact ⟨⟨k9 + 1, x, wrap64 (su + x), by omega, rfl, rfl, by go_num, HD2, HS2, by
              obtain ⟨n, hn⟩ := HW9.out
              exact ⟨n + nq, by rw [hn, World.drewN_drewN]⟩⟩, by simp [intOf]; omega⟩
          go_wp2_with fail
          go_ret
          obtain ⟨n9, hw9⟩ := HW9.out
          exact ⟨rfl, by rw [hw9]; exact below_drewN HB8.out _⟩
      · have HE : Hid (spreadF [] p = .error 4) := herr
        clear hown hb herr
        by_cases hlt2 : k < p.length
        · go_wp2_with fail
          refine (spread_any p (· < w.heap.size) _ cp wr (HRp.out.keep (Below.keeps HB3.out)) (fun k hk => Nat.lt_of_lt_of_le hk HB3.out.size) (by omega)).mono ?_
          rw [HE.out]
          rintro e w4 ⟨rfl, hb4⟩
          have HB4 : Hid (Below w.heap.size w w4) := HB3.out.trans (hb4.mono HB3.out.size)
          clear hb4
          go_wp2_with fail
          refine (same_error 4 4 w4 (hE.out.keep HB4.out)).mono ?_
          rintro e w5 ⟨rfl, hb5⟩
          have HB5 : Hid (Below w.heap.size w w5) := HB4.out.trans (hb5.mono HB4.out.size)
          clear hb5
          go_wp2_with fail
          refine (ints_yes [] (fun _ => False) (fun _ => False) none none 0 0 w5 Reads.none_ Reads.none_ (fun _ h => h.elim) (fun _ h => h.elim) (by simp)).mono ?_
          rintro e w6 ⟨rfl, hb6⟩
          have HB6 : Hid (Below w.heap.size w w6) := HB5.out.trans (hb6.mono HB5.out.size)
          clear hb6
          go_wp2_with fail
          refine (deltas_any l (· < w.heap.size) _ cl w6 (HRl.out.keep (Below.keeps HB6.out)) (fun k hk => Nat.lt_of_lt_of_le hk HB6.out.size) (by omega)).mono ?_
          rintro e w7 ⟨v7, rfl, ho7, hb7⟩
          have HB7 : Hid (Below w.heap.size w w7) := HB6.out.trans (hb7.mono HB6.out.size)
          obtain ⟨A7, c7, hv7, _, _, hr7⟩ := Reads.of_own ho7
          subst hv7
          have HR7 := Lib.hid (hr7.more (D' := (· < w7.heap.size)) fun k hk => (own_lt ho7 hk).2)
          clear hb7 ho7 hr7
          rw [deltasF_length] at HR7 ⊢
          go_wp2_with fail
          refine (sums_any l (· < w.heap.size) _ cl w7 (HRl.out.keep (Below.keeps HB7.out)) (fun k hk => Nat.lt_of_lt_of_le hk HB7.out.size) (by omega)).mono ?_
          rintro e w8 ⟨v8, rfl, ho8, hb8⟩
          have HB8 : Hid (Below w.heap.size w w8) := HB7.out.trans (hb8.mono HB7.out.size)
          obtain ⟨A8, c8, hv8, _, _, hr8⟩ := Reads.of_own ho8
          subst hv8
          have HR8 := Lib.hid (hr8.more (D' := (· < w8.heap.size)) fun k hk => (own_lt ho8 hk).2)
          have HR7' := Lib.hid (HR7.out.keep (Below.keeps hb8))
          clear hb8 ho8 hr8 HR7
          rw [sumsF_length] at HR8 ⊢
          have HRl8 := Lib.hid (HRl.out.keep (Below.keeps HB8.out))
          go_wp2_with fail
          go_loopw [19, 20, 21] (fun s19 s20 s21 wr => ∃ (k : Nat) (la su : Int), k ≤ l.length ∧ s19 = .int .i64 la ∧ s20 = .int .i64 su ∧ s21 = .int .i64 k ∧ Hid ((deltasF 0 l).drop k = deltasF la (l.drop k)) ∧ Hid ((sumsF 0 l).drop k = sumsF su (l.drop k)) ∧ Hid (∃ n, wr = w8.drewN n)) (fun _ _ s21 _ => l.length - (intOf s21).toNat)
          case atStart => exact ⟨0, 0, 0, by omega, rfl, rfl, rfl, rfl, rfl, 0, rfl⟩
          obtain ⟨k9, la, su, hk9, rfl, rfl, rfl, HD9, HS9, HW9⟩ := hrel
          by_cases hlt9 : k9 < l.length
          focus
            obtain ⟨n9, hw9⟩ := HW9.out
            obtain ⟨b7, o7, hA7, _, hcell7⟩ := HR7'.out.at_ (by omega) (by omega)
            obtain ⟨b8, o8, hA8, _, hcell8⟩ := HR8.out.at_ (by omega) (by omega)
            obtain ⟨b9, o9, hA9, _, hcell9⟩ := HRl8.out.at_ (by omega) (by omega)
            obtain ⟨x, hx⟩ := get_lt hlt9
            obtain ⟨hd1, hd2⟩ := deltas_at HD9.out hx
            obtain ⟨hs1, hs2⟩ := sums_at HS9.out hx
            have hc7 : wr.cell? ⟨b7, o7 + k9, none⟩ = some (.int .i64 (wrap64 (x - la))) := by rw [hw9]; exact hcell7 k9 _ (ints_at hd1)
            have hc8 : wr.cell? ⟨b8, o8 + k9, none⟩ = some (.int .i64 (wrap64 (su + x))) := by rw [hw9]; exact hcell8 k9 _ (ints_at hs1)
            have hc9 : wr.cell? ⟨b9, o9 + k9, none⟩ = some (.int .i64 x) := by rw [hw9]; exact hcell9 k9 _ (ints_at hx)
            have hdv : IntKind.i64.wrap (x - la) = wrap64 (x - la) := by rw [IntKind.wrap_i64, wrap_i64]
            have HD2 := Lib.hid hd2
            have HS2 := Lib.hid hs2
            subst hA7 hA8 hA9
            clear hcell7 hcell8 hcell9 hx hd1 hd2 hs1 hs2 hw9
            go_wp2_with fail
            go_quiet (fail)
            go_wp2_with fail
            exact ⟨⟨k9 + 1, x, wrap64 (su + x), by omega, rfl, rfl, by go_num, HD2, HS2, by
              obtain ⟨n, hn⟩ := HW9.out
              exact ⟨n + nq, by rw [hn, World.drewN_drewN]⟩⟩, by simp [intOf]; omega⟩
          go_wp2_with fail
          go_ret
          obtain ⟨n9, hw9⟩ := HW9.out
          exact ⟨rfl, by rw [hw9]; exact below_drewN HB8.out _⟩
        · go_wp2_with fail
          refine (spread_any p (· < w.heap.size) _ cp wr (HRp.out.keep (Below.keeps HB3.out)) (fun k hk => Nat.lt_of_lt_of_le hk HB3.out.size) (by omega)).mono ?_
          rw [HE.out]
          rintro e w4 ⟨rfl, hb4⟩
          have HB4 : Hid (Below w.heap.size w w4) := HB3.out.trans (hb4.mono HB3.out.size)
          clear hb4
          go_wp2_with fail
          refine (same_error 4 4 w4 (hE.out.keep HB4.out)).mono ?_
          rintro e w5 ⟨rfl, hb5⟩
          have HB5 : Hid (Below w.heap.size w w5) := HB4.out.trans (hb5.mono HB4.out.size)
          clear hb5
          go_wp2_with fail
          refine (ints_yes [] (fun _ => False) (fun _ => False) none none 0 0 w5 Reads.none_ Reads.none_ (fun _ h => h.elim) (fun _ h => h.elim) (by simp)).mono ?_
          rintro e w6 ⟨rfl, hb6⟩
          have HB6 : Hid (Below w.heap.size w w6) := HB5.out.trans (hb6.mono HB5.out.size)
          clear hb6
          go_wp2_with fail
          refine (deltas_any l (· < w.heap.size) _ cl w6 (HRl.out.keep (Below.keeps HB6.out)) (fun k hk => Nat.lt_of_lt_of_le hk HB6.out.size) (by omega)).mono ?_
          rintro e w7 ⟨v7, rfl, ho7, hb7⟩
          have HB7 : Hid (Below w.heap.size w w7) := HB6.out.trans (hb7.mono HB6.out.size)
          obtain ⟨A7, c7, hv7, _, _, hr7⟩ := Reads.of_own ho7
          subst hv7
          have HR7 := Lib.hid (hr7.more (D' := (· < w7.heap.size)) fun k hk => (own_lt ho7 hk).2)
          clear hb7 ho7 hr7
          rw [deltasF_length] at HR7 ⊢
          go_wp2_with fail
          refine (sums_any l (· < w.heap.size) _ cl w7 (HRl.out.keep (Below.keeps HB7.out)) (fun k hk => Nat.lt_of_lt_of_le hk HB7.out.size) (by omega)).mono ?_
          rintro e w8 ⟨v8, rfl, ho8, hb8⟩
          have HB8 : Hid (Below w.heap.size w w8) := HB7.out.trans (hb8.mono HB7.out.size)
          obtain ⟨A8, c8, hv8, _, _, hr8⟩ := Reads.of_own ho8
          subst hv8
          have HR8 := Lib.hid (hr8.more (D' := (· < w8.heap.size)) fun k hk => (own_lt ho8 hk).2)
          have HR7' := Lib.hid (HR7.out.keep (Below.keeps hb8))
          clear hb8 ho8 hr8 HR7
          rw [sumsF_length] at HR8 ⊢
          have HRl8 := Lib.hid (HRl.out.keep (Below.keeps HB8.out))
          go_wp2_with fail
          go_loopw [19, 20, 21] (fun s19 s20 s21 wr => ∃ (k : Nat) (la su : Int), k ≤ l.length ∧ s19 = .int .i64 la ∧ s20 = .int .i64 su ∧ s21 = .int .i64 k ∧ Hid ((deltasF 0 l).drop k = deltasF la (l.drop k)) ∧ Hid ((sumsF 0 l).drop k = sumsF su (l.drop k)) ∧ Hid (∃ n, wr = w8.drewN n)) (fun _ _ s21 _ => l.length - (intOf s21).toNat)
          case atStart => exact ⟨0, 0, 0, by omega, rfl, rfl, rfl, rfl, rfl, 0, rfl⟩
          obtain ⟨k9, la, su, hk9, rfl, rfl, rfl, HD9, HS9, HW9⟩ := hrel
          by_cases hlt9 : k9 < l.length
          focus
            obtain ⟨n9, hw9⟩ := HW9.out
            obtain ⟨b7, o7, hA7, _, hcell7⟩ := HR7'.out.at_ (by omega) (by omega)
            obtain ⟨b8, o8, hA8, _, hcell8⟩ := HR8.out.at_ (by omega) (by omega)
            obtain ⟨b9, o9, hA9, _, hcell9⟩ := HRl8.out.at_ (by omega) (by omega)
            obtain ⟨x, hx⟩ := get_lt hlt9
            obtain ⟨hd1, hd2⟩ := deltas_at HD9.out hx
            obtain ⟨hs1, hs2⟩ := sums_at HS9.out hx
            have hc7 : wr.cell? ⟨b7, o7 + k9, none⟩ = some (.int .i64 (wrap64 (x - la))) := by rw [hw9]; exact hcell7 k9 _ (ints_at hd1)
            have hc8 : wr.cell? ⟨b8, o8 + k9, none⟩ = some (.int .i64 (wrap64 (su + x))) := by rw [hw9]; exact hcell8 k9 _ (ints_at hs1)
            have hc9 : wr.cell? ⟨b9, o9 + k9, none⟩ = some (.int .i64 x) := by rw [hw9]; exact hcell9 k9 _ (ints_at hx)
            have hdv : IntKind.i64.wrap (x - la) = wrap64 (x - la) := by rw [IntKind.wrap_i64, wrap_i64]
            have HD2 := Lib.hid hd2
            have HS2 := Lib.hid hs2
            subst hA7 hA8 hA9
            clear hcell7 hcell8 hcell9 hx hd1 hd2 hs1 hs2 hw9
            go_wp2_with fail
            go_quiet (fail)
            go_wp2_with fail
            exact ⟨⟨k9 + 1, x, wrap64 (su + x), by omega, rfl, rfl, by go_num, HD2, HS2, by
              obtain ⟨n, hn⟩ := HW9.out
              exact ⟨n + nq, by rw [hn, World.drewN_drewN]⟩⟩, by simp [intOf]; omega⟩
          go_wp2_with fail
          go_ret
          obtain ⟨n9, hw9⟩ := HW9.out
          exact ⟨rfl, by rw [hw9]; exact below_drewN HB8.out _⟩
end Go.Proofs.YtgkpeeilmknmfaaDoor
