/- Contracts of the document's books: Missing. -/
import Derived.Test.YtclgfcjcpbiadaaGreatDoorSRef11
namespace Go.Proofs.YtclgfcjcpbiadaaGreatDoor
open Go.ChangeShapes Go.WideShapes Go.ChangeAt Go.RowKit

/-- those of a list that stand in neither book, rising -/
def missGo (L W : List ChD) (l : List Rf) : List Rf := l.foldl (fun out r => if r ∈ refsOf L ∨ r ∈ refsOf W then out else putR out r) []
theorem missGo_snoc {L W : List ChD} {l : List Rf} {k : Nat} {x : Rf} (h : l[k]? = some x) : missGo L W (l.take (k + 1)) = if x ∈ refsOf L ∨ x ∈ refsOf W then missGo L W (l.take k) else putR (missGo L W (l.take k)) x := by
  unfold missGo
  rw [List.take_add_one, h, List.foldl_append]
  rfl
theorem miss_fold (L W : List ChD) : ∀ (l out : List Rf), AscR out → AscR (l.foldl (fun out r => if r ∈ refsOf L ∨ r ∈ refsOf W then out else putR out r) out) ∧
    (∀ q, q ∈ l.foldl (fun out r => if r ∈ refsOf L ∨ r ∈ refsOf W then out else putR out r) out ↔ q ∈ out ∨ q ∈ l ∧ q ∉ refsOf L ∧ q ∉ refsOf W) ∧
    (l.foldl (fun out r => if r ∈ refsOf L ∨ r ∈ refsOf W then out else putR out r) out).length ≤ out.length + l.length
  | [], out, h => ⟨h, fun q => by simp, by simp⟩
  | x :: l, out, h => by
    rw [List.foldl_cons]
    split
    · rename_i hx
      obtain ⟨a, b, c⟩ := miss_fold L W l out h
      refine ⟨a, fun q => ?_, by simp only [List.length_cons]; omega⟩
      rw [b q, List.mem_cons]
      constructor
      · rintro (h | ⟨h, h1⟩)
        · exact .inl h
        · exact .inr ⟨.inr h, h1⟩
      · rintro (h | ⟨rfl | h, h1⟩)
        · exact .inl h
        · exact (hx.elim h1.1 h1.2).elim
        · exact .inr ⟨h, h1⟩
    · rename_i hx
      obtain ⟨a, b, c⟩ := miss_fold L W l (putR out x) (putR_asc h)
      refine ⟨a, fun q => ?_, by have := putR_len_le out x; simp only [List.length_cons]; omega⟩
      rw [b q, putR_mem, List.mem_cons]
      constructor
      · rintro ((h | rfl) | ⟨h, h1⟩)
        · exact .inl h
        · exact .inr ⟨.inl rfl, fun e => hx (.inl e), fun e => hx (.inr e)⟩
        · exact .inr ⟨.inr h, h1⟩
      · rintro (h | ⟨rfl | h, h1⟩)
        · exact .inl (.inl h)
        · exact .inl (.inr rfl)
        · exact .inr ⟨h, h1⟩
theorem missGo_asc (L W : List ChD) (l : List Rf) : AscR (missGo L W l) := (miss_fold L W l [] List.Pairwise.nil).1
theorem missGo_mem (L W : List ChD) (l : List Rf) (q : Rf) : q ∈ missGo L W l ↔ q ∈ l ∧ q ∉ refsOf L ∧ q ∉ refsOf W := by
  have := (miss_fold L W l [] List.Pairwise.nil).2.1 q
  unfold missGo
  rw [this]
  simp
theorem missGo_len (L W : List ChD) (l : List Rf) : (missGo L W l).length ≤ l.length := by
  have := (miss_fold L W l [] List.Pairwise.nil).2.2
  unfold missGo
  simpa using this
/-- all that is looked at -/
def missAll (W : List ChD) (hs : List Rf) : List Rf := hs ++ W.flatMap ChD.deps
theorem missAll_snoc {W : List ChD} {hs : List Rf} {k : Nat} {x : ChD} (h : W[k]? = some x) : missAll (W.take (k + 1)) hs = missAll (W.take k) hs ++ x.deps := by
  unfold missAll
  rw [List.take_add_one, h, List.flatMap_append, List.append_assoc]
  simp
theorem missAll_len {W : List ChD} {hs : List Rf} : ∀ {n : Nat}, n ≤ W.length → (∀ c ∈ W, c.deps.length ≤ 12) → (missAll (W.take n) hs).length ≤ hs.length + 12 * n
  | 0, _, _ => by simp [missAll]
  | n + 1, h, hd => by
    obtain ⟨x, hx⟩ : ∃ x, W[n]? = some x := ⟨_, List.getElem?_eq_getElem (by omega)⟩
    rw [missAll_snoc hx, List.length_append]
    have h1 := missAll_len (n := n) (hs := hs) (by omega) hd
    have h2 := hd x (List.mem_of_getElem? hx)
    omega
/-- what the document's Missing answers -/
def SMissR (L W : List ChD) (hs : List Rf) (base : Nat) (e : Ending) (w' : World) : Prop :=
  ((∀ r ∈ hs, isRef r = true) ∧ ∃ v, e = .returned (.tuple #[v, .int .i64 0]) ∧ w'.ownsRow base 25 2 v (missGo L W (missAll W hs)).length (refC (missGo L W (missAll W hs)))) ∨
  ((¬ ∀ r ∈ hs, isRef r = true) ∧ e = .returned (.tuple #[.slice none 0 0, .int .i64 1]))
set_option maxHeartbeats 8000000 in
set_option maxRecDepth 20000 in
theorem sMissing_any (L W : List ChD) (hs : List Rf) (H : Option Addr) (hc : Nat) (g : Nat) (w : World) (hB : BR w g L W) (hr : Reads (fun k => k < w.heap.size) w 2 H hs.length (refC hs)) (hhl : hs.length ≤ 900000)
    (hlL : L.length ≤ 1000) (hlW : W.length ≤ 1000) (hd : ∀ c ∈ W, c.deps.length ≤ 12) :
    Calls Tryz.prog 18 #[.pointer (some ⟨g, 0, none⟩), .slice H hs.length hc] w fun e w' => SMissR L W hs w.heap.size e w' ∧ Below w.heap.size w w' := by
  obtain ⟨nh, hnh⟩ : ∃ n, hs.length = n := ⟨_, rfl⟩
  obtain ⟨nL, hnL⟩ : ∃ n, L.length = n := ⟨_, rfl⟩
  obtain ⟨nW, hnW⟩ : ∃ n, W.length = n := ⟨_, rfl⟩
  have HNH := Lib.hid hnh
  have HNL := Lib.hid hnL
  have HNW := Lib.hid hnW
  have HDL := Lib.hid hd
  have HML : Hid (∀ j, j ≤ nW → (missAll (W.take j) hs).length ≤ 900000 + 12 * j) := fun j hj => by have h1 := missAll_len (hs := hs) (n := j) (by rw [hnW]; exact hj) hd; omega
  obtain ⟨AL, cL, AW, cW, hg, hL, hW⟩ := hB
  have HG := Lib.hid hg
  have HL := Lib.hid hL
  have HWI := Lib.hid hW
  rw [hnh] at hr hhl ⊢
  rw [hnL] at hlL HG
  rw [hnW] at hlW HG
  have HR := Lib.hid hr
  clear hg hL hW hr hnh hnL hnW hd
  obtain ⟨i0, hi, hz0, hz1, hz2⟩ := info_parts infoRef
  go_enter Tryz.func18, Tryz.ntmps18
  go_upto_region 3 with fail
  go_loopw [6, 7, 8] (fun s6 s7 _ wr => ∃ (k : Nat) (v6 : Value), v6 = s6 ∧ s7 = .int .i64 k ∧ k ≤ nh ∧ Hid (wr.ownsRow w.heap.size 25 2 v6 k (refC (hs.take k))) ∧ Hid (∀ r ∈ hs.take k, isRef r = true) ∧ Hid (Below w.heap.size w wr)) (fun _ s7 _ _ => nh - (intOf s7).toNat)
  case atStart => exact ⟨0, _, rfl, rfl, by omega, own_nil _ _ _ _, (by show ∀ r ∈ _, _; simp), Below.refl _ _⟩
  case round =>
    obtain ⟨k, v6, rfl, rfl, hk, HO, HA, HB⟩ := hrel
    by_cases hlt : k < nh
    · obtain ⟨d, hd⟩ : ∃ d, hs[k]? = some d := ⟨_, List.getElem?_eq_getElem (by rw [HNH.out]; exact hlt)⟩
      obtain ⟨b1, o1, rfl, hbl, hc1⟩ := HR.out.at_ (by omega) (by omega)
      have HX : Hid (∀ V, Below w.heap.size w V → V.cell? ⟨b1, o1 + k * 2, none⟩ = some (.int .i64 d.1) ∧ V.cell? ⟨b1, o1 + k * 2 + 1, none⟩ = some (.int .i64 d.2)) := fun V hv => ⟨(World.cell?_of_block (hv.block _ hbl)).trans (hc1 _ _ (refC_at hd).1), (World.cell?_of_block (hv.block _ hbl)).trans (hc1 _ _ (refC_at hd).2)⟩
      have HDI : Hid (d ∈ hs) := List.mem_of_getElem? hd
      have HTK : Hid (hs.take (k + 1) = hs.take k ++ [d]) := by show _ = _; rw [List.take_add_one, hd, Option.toList_some]
      have HLT := Lib.hid hlt
      clear hd hbl hc1
      have x1 := (HX.out wr HB.out).1
      have x2 := (HX.out wr HB.out).2
      have C1 := refRef_any d wr
      obtain ⟨ok, hok⟩ : ∃ b, isRef d = b := ⟨_, rfl⟩
      have HOK := Lib.hid hok
      rw [hok] at C1
      unfold refV at C1
      clear hok
      go_wp2_with fail
      go_at_call 43
      refine C1.mono ?_
      rintro e w2 ⟨rfl, hb⟩
      have HB2 : Hid (Below w.heap.size w w2) := HB.out.trans (hb.mono HB.out.size)
      have HO2 := Lib.hid (own_below HO.out hb)
      clear C1 hb HO HB x1 x2
      cases ok with
      | false =>
        have HNA : Hid (¬ ∀ r ∈ hs, isRef r = true) := fun h => by have := h d HDI.out; rw [HOK.out] at this; cases this
        go_wp2_with fail
        go_ret2
        exact ⟨.inr ⟨HNA.out, rfl⟩, HB2.out⟩
      | true =>
        have x1 := (HX.out w2 HB2.out).1
        have x2 := (HX.out w2 HB2.out).2
        go_wp2_with (at_builtin; refine wpList_append_one 23 25 (.agg #[.int .i64 0, .int .i64 0]) 2 16 Tryz.underlying23 infoRef rfl (by omega) rfl (.tmp 27) (.tmp 32) rfl (w.heap.size) (_) (k) (refC (hs.take k)) rfl (HO2.out.alloc _) (w2.heap.size) 1 ([.int .i64 d.1, .int .i64 d.2]) rfl ?c1 ?c2 ?c3 ?c4 ?c5 ?c6 ?_)
        try case c1 => rfl
        try case c2 => intro j u hj; exact new_cells _ _ _ hj
        try case c3 => first | exact refC_one [d] | exact ⟨rfl, rfl⟩ | rfl
        try case c4 => omega
        try case c5 => omega
        try case c6 => have := HB2.out.size; simp; omega
        intro v1 w1 hown1 hg1 hat1
        have hb1 : Below (w.heap.size) w w1 := (HB2.out.alloc HB2.out.size _).grown hg1 (by have := HB2.out.size; simp; omega) (fun g hg => (own_lt (HO2.out) hg).1)
        have HO3 : Hid (w1.ownsRow w.heap.size 25 2 v1 (k + 1) (refC (hs.take (k + 1)))) := by show World.ownsRow _ _ _ _ _ _ _; rw [HTK.out, refC_append]; simpa [refC] using hown1
        have HB3 := Lib.hid hb1
        have HA3 : Hid (∀ r ∈ hs.take (k + 1), isRef r = true) := by
          rw [HTK.out]
          intro r hr
          rcases List.mem_append.1 hr with h | h
          · exact HA.out r h
          · rw [List.mem_singleton.1 h]; exact HOK.out
        clear hown1 hg1 hat1 hb1 HO2 HB2 HA x1 x2
        go_wp2_with fail
        go_roundw
        case rel => exact ⟨k + 1, _, rfl, by go_num, by have := HLT.out; omega, HO3, HA3, HB3⟩
        case measure => have := HLT.out; simp [intOf]; omega
    · have HAll : Hid (∀ r ∈ hs, isRef r = true) := fun r hr => HA.out r (by rw [List.take_of_length_le (by rw [HNH.out]; omega)]; exact hr)
      obtain rfl : nh = k := by omega
      have HOS : Hid (wr.ownsRow w.heap.size 25 2 v6 (missAll (W.take 0) hs).length (refC (missAll (W.take 0) hs))) := by
        have h1 := HO.out
        rw [List.take_of_length_le (by rw [HNH.out]; omega)] at h1
        show World.ownsRow _ _ _ _ _ _ _
        simp only [missAll, List.take_zero, List.flatMap_nil, List.append_nil]
        rw [HNH.out]
        exact h1
      clear HO HA
      go_upto_region 10 with fail
      go_loopw [6, 9] (fun s6 s9 wr => ∃ (j : Nat) (v6 : Value), v6 = s6 ∧ s9 = .int .i64 j ∧ j ≤ nW ∧ Hid (wr.ownsRow w.heap.size 25 2 v6 (missAll (W.take j) hs).length (refC (missAll (W.take j) hs))) ∧ Hid (Below w.heap.size w wr)) (fun _ s9 _ => nW - (intOf s9).toNat)
      case atStart => exact ⟨0, _, rfl, rfl, by omega, HOS, HB⟩
      case round =>
        clear HOS HB
        obtain ⟨j, v6, rfl, rfl, hj, HO, HB⟩ := hrel
        have g1 : wr.cell? ⟨g, 1, none⟩ = some (.slice AW nW cW) := (HG.out.keep (HB.out.block _ HG.out.lt)).cell 1
        by_cases hlj : j < nW
        · obtain ⟨x, hx⟩ : ∃ x, W[j]? = some x := ⟨_, List.getElem?_eq_getElem (by rw [HNW.out]; exact hlj)⟩
          obtain ⟨b1, o1, rfl, hbl, hc1⟩ := HWI.out.row.at_ (by rw [HNW.out]; omega) (by omega)
          have x3 : wr.cell? ⟨b1, o1 + j * 5 + 3, none⟩ = some (.slice x.DA x.deps.length x.DC) := by
            have h3 := hc1 _ _ (chsC_at hx 3 (by omega))
            rw [← Nat.add_assoc] at h3
            exact (World.cell?_of_block (HB.out.block _ hbl)).trans h3
          have HXM := Lib.hid (List.mem_of_getElem? hx)
          have HRD : Hid (Reads (fun k => k < wr.heap.size) wr 2 x.DA x.deps.length (refC x.deps)) := reads_below (HWI.out.each x HXM.out).hd HB.out
          have hxd : x.deps.length ≤ 12 := HDL.out x HXM.out
          have HMS := Lib.hid (missAll_snoc (hs := hs) hx)
          have hmj := HML.out j hj
          obtain ⟨nm, hnm⟩ : ∃ n, (missAll (W.take j) hs).length = n := ⟨_, rfl⟩
          have HNM := Lib.hid hnm
          rw [hnm] at HO hmj
          have hbs := HB.out.size
          have HLT := Lib.hid hlj
          clear hx hbl hc1 hnm
          go_wp2_with (at_builtin; refine wpList_append_any _ rfl (.tmp 43) (.tmp 51) _ rfl (w.heap.size) 25 i0 _ 2 16 Tryz.underlying23 hi hz0 hz1 hz2 rfl (by omega) (_) (nm) (refC (missAll (W.take j) hs)) rfl (HO.out) _ (x.DA) (x.deps.length) (x.DC) (refC x.deps) rfl (HRD.out) (refC_one _) ?c1 ?c2 ?c3 ?_)
          try case c1 => simp only [maxLen]; omega
          try case c2 => omega
          try case c3 => exact hbs
          intro v5 w5 ho5 hg5 _
          have HB5 : Hid (Below w.heap.size w w5) := HB.out.grown hg5 HB.out.size (fun g hg => (own_lt HO.out hg).1)
          have HO5 : Hid (w5.ownsRow w.heap.size 25 2 v5 (missAll (W.take (j + 1)) hs).length (refC (missAll (W.take (j + 1)) hs))) := by
            show w5.ownsRow _ _ _ _ _ _
            rw [HMS.out, List.length_append, HNM.out, refC_append]; exact ho5
          clear ho5 hg5 HO HB HRD x3 g1 hbs
          go_wp2_with fail
          go_roundw
          case rel => exact ⟨j + 1, _, rfl, by go_num, by have := HLT.out; omega, HO5, HB5⟩
          case measure => have := HLT.out; simp [intOf]; omega
        · obtain rfl : nW = j := by omega
          have HO1 : Hid (wr.ownsRow w.heap.size 25 2 v6 (missAll W hs).length (refC (missAll W hs))) := by
            have h1 := HO.out
            rw [List.take_of_length_le (by rw [HNW.out]; omega)] at h1
            exact h1
          have hna : (missAll W hs).length ≤ 912000 := by
            have h1 := HML.out nW (Nat.le_refl _)
            rw [List.take_of_length_le (by rw [HNW.out]; omega)] at h1
            omega
          clear HO
          obtain ⟨al, hal⟩ : ∃ al, missAll W hs = al := ⟨_, rfl⟩
          have HAL := Lib.hid hal
          rw [hal] at HO1 hna
          clear hal
          obtain ⟨A6, c6, rfl, -, hc62, hr6⟩ := Reads.of_own HO1.out
          have HR6 := Lib.hid (hr6.more (fun k hk => (own_lt HO1.out hk).2))
          obtain ⟨na, hnn⟩ : ∃ n, al.length = n := ⟨_, rfl⟩
          have HNA := Lib.hid hnn
          rw [hnn] at hna HR6 ⊢
          clear hnn hr6 HO1
          obtain ⟨wo, hwo⟩ : ∃ wo, wo = wr := ⟨_, rfl⟩
          subst hwo
          go_upto_region 15 with fail
          go_loopw [10, 11, 12, 13] (fun s10 s11 _ _ wr => ∃ (k : Nat) (v0 : Value), v0 = s10 ∧ s11 = .int .i64 k ∧ k ≤ na ∧ Hid (wr.ownsRow wo.heap.size 25 2 v0 (missGo L W (al.take k)).length (refC (missGo L W (al.take k)))) ∧ Hid (Below wo.heap.size wo wr)) (fun _ s11 _ _ _ => na - (intOf s11).toNat)
          case atStart => exact ⟨0, _, rfl, rfl, by omega, own_nil _ _ _ _, Below.refl _ _⟩
          case round =>
            clear g1
            obtain ⟨k, v0, rfl, rfl, hk, HO, HI⟩ := hrel
            have HW0 : Hid (Below w.heap.size w wr) := HB.out.trans (HI.out.mono HB.out.size)
            by_cases hlk : k < na
            · obtain ⟨x, hx⟩ : ∃ x, al[k]? = some x := ⟨_, List.getElem?_eq_getElem (by rw [HNA.out]; exact hlk)⟩
              obtain ⟨b1, o1, rfl, hbl, hc1⟩ := HR6.out.at_ (by omega) (by omega)
              have HX : Hid (∀ V, Below wo.heap.size wo V → V.cell? ⟨b1, o1 + k * 2, none⟩ = some (.int .i64 x.1) ∧ V.cell? ⟨b1, o1 + k * 2 + 1, none⟩ = some (.int .i64 x.2)) := fun V hv => ⟨(World.cell?_of_block (hv.block _ hbl)).trans (hc1 _ _ (refC_at hx).1), (World.cell?_of_block (hv.block _ hbl)).trans (hc1 _ _ (refC_at hx).2)⟩
              have HSN := Lib.hid (missGo_snoc (L := L) (W := W) hx)
              have HLK := Lib.hid hlk
              have hml : (missGo L W (al.take k)).length ≤ 912000 := by have h1 := missGo_len L W (al.take k); rw [List.length_take] at h1; omega
              clear hx hbl hc1
              have x1 := (HX.out wr HI.out).1
              have x2 := (HX.out wr HI.out).2
              have g0 : wr.cell? ⟨g, 0, none⟩ = some (.slice AL nL cL) := (HG.out.keep (HW0.out.block _ HG.out.lt)).cell 0
              have C2 := sfind_any L x (fun k => k < wr.drew.heap.size) AL cL wr.drew (reads_below HL.out.row HW0.out.drew) (fun _ h => h) (by rw [HNL.out]; omega)
              rw [HNL.out] at C2
              go_wp2_with fail
              refine wp_region_still_tail 8 (by kernel_rfl) (by kernel_rfl) ?_
              simp only [List.take_succ_cons, List.take_zero, List.drop_succ_cons, List.drop_zero]
              repeat (first | (refine wpStill_want rfl (fun K hK => ?_); go_simp; refine hK _ ?_; clear hK K) | (refine wpStill_skip rfl ?_; go_frame))
              refine wpStill_nil ?_
              change wpList _ _ _ _ _ wr.drew
              have HI1 : Hid (Below wo.heap.size wo wr.drew) := HI.out.drew
              have HO1 : Hid (wr.drew.ownsRow wo.heap.size 25 2 v0 (missGo L W (al.take k)).length (refC (missGo L W (al.take k)))) := HO.out.drew
              have HW1 : Hid (Below w.heap.size w wr.drew) := HW0.out.drew
              clear HI HO HW0 x1 x2 g0
              generalize wr.drew = w2 at HI1 HO1 HW1 C2 ⊢
              go_wp2_with fail
              go_at_call 27
              refine C2.mono ?_
              rintro e w3 ⟨i, rfl, hi1, hb⟩
              have HI3 : Hid (Below wo.heap.size wo w3) := HI1.out.trans (hb.mono HI1.out.size)
              have HO3 := Lib.hid (own_below HO1.out hb)
              have HW3 : Hid (Below w.heap.size w w3) := HW1.out.trans (hb.mono HW1.out.size)
              have HF1 := Lib.hid hi1
              clear C2 hb hi1 HI1 HO1 HW1
              have x1 := (HX.out w3 HI3.out).1
              have x2 := (HX.out w3 HI3.out).2
              have g1 : w3.cell? ⟨g, 1, none⟩ = some (.slice AW nW cW) := (HG.out.keep (HW3.out.block _ HG.out.lt)).cell 1
              have C3 := sfind_any W x (fun k => k < w3.drew.heap.size) AW cW w3.drew (reads_below HWI.out.row HW3.out.drew) (fun _ h => h) (by rw [HNW.out]; omega)
              rw [HNW.out] at C3
              go_wp2_with fail
              refine wp_region_still_tail 8 (by kernel_rfl) (by kernel_rfl) ?_
              simp only [List.take_succ_cons, List.take_zero, List.drop_succ_cons, List.drop_zero]
              repeat (first | (refine wpStill_want rfl (fun K hK => ?_); go_simp; refine hK _ ?_; clear hK K) | (refine wpStill_skip rfl ?_; go_frame))
              refine wpStill_nil ?_
              change wpList _ _ _ _ _ w3.drew
              have HI4 : Hid (Below wo.heap.size wo w3.drew) := HI3.out.drew
              have HO4 : Hid (w3.drew.ownsRow wo.heap.size 25 2 v0 (missGo L W (al.take k)).length (refC (missGo L W (al.take k)))) := HO3.out.drew
              clear HI3 HO3 HW3 x1 x2 g1
              generalize w3.drew = w4 at HI4 HO4 C3 ⊢
              go_wp2_with fail
              go_at_call 27
              refine C3.mono ?_
              rintro e w5 ⟨i2, rfl, hi2, hb⟩
              have HI5 : Hid (Below wo.heap.size wo w5) := HI4.out.trans (hb.mono HI4.out.size)
              have HO5 := Lib.hid (own_below HO4.out hb)
              clear C3 hb HI4 HO4
              have hm1 := findI_mem HF1.out
              have hm2 := findI_mem hi2
              clear HF1 hi2
              by_cases hin : x ∈ refsOf L ∨ x ∈ refsOf W
              · have HSS : Hid (missGo L W (al.take (k + 1)) = missGo L W (al.take k)) := by show _ = _; rw [HSN.out, if_pos hin]
                have HOK : Hid (wr.ownsRow wo.heap.size 25 2 v0 0 [] → True) := fun _ => trivial
                rcases hin with hin | hin
                · have hp : decide (i < 0) = false := by
                    rw [decide_eq_true hin] at hm1
                    have := of_decide_eq_true hm1
                    exact decide_eq_false (by omega)
                  clear hm1 hm2 hin HSN
                  go_wp2_with fail
                  go_roundw
                  case rel => exact ⟨k + 1, _, rfl, by go_num, by have := HLK.out; omega, by show World.ownsRow _ _ _ _ _ _ _; rw [HSS.out]; exact HO5.out, HI5⟩
                  case measure => have := HLK.out; simp [intOf]; omega
                · have hp : decide (i2 < 0) = false := by
                    rw [decide_eq_true hin] at hm2
                    have := of_decide_eq_true hm2
                    exact decide_eq_false (by omega)
                  clear hm1 hm2 hin HSN
                  by_cases hp1 : i < 0
                  · go_wp2_with fail
                    go_roundw
                    case rel => exact ⟨k + 1, _, rfl, by go_num, by have := HLK.out; omega, by show World.ownsRow _ _ _ _ _ _ _; rw [HSS.out]; exact HO5.out, HI5⟩
                    case measure => have := HLK.out; simp [intOf]; omega
                  · go_wp2_with fail
                    go_roundw
                    case rel => exact ⟨k + 1, _, rfl, by go_num, by have := HLK.out; omega, by show World.ownsRow _ _ _ _ _ _ _; rw [HSS.out]; exact HO5.out, HI5⟩
                    case measure => have := HLK.out; simp [intOf]; omega
              · have HSS : Hid (missGo L W (al.take (k + 1)) = putR (missGo L W (al.take k)) x) := by show _ = _; rw [HSN.out, if_neg hin]
                have hp1 : decide (i < 0) = true := by
                  rw [decide_eq_false (fun h => hin (.inl h))] at hm1
                  have := of_decide_eq_false hm1
                  exact decide_eq_true (by omega)
                have hp2 : decide (i2 < 0) = true := by
                  rw [decide_eq_false (fun h => hin (.inr h))] at hm2
                  have := of_decide_eq_false hm2
                  exact decide_eq_true (by omega)
                have x1 := (HX.out w5 HI5.out).1
                have x2 := (HX.out w5 HI5.out).2
                have C4 := sPut_any (missGo L W (al.take k)) x wo.heap.size v0 w5 HO5.out (by omega) HI5.out.size
                clear hm1 hm2 hin HSN
                go_wp2_with fail
                go_at_call 40
                refine C4.mono ?_
                rintro e w6 ⟨v6, rfl, ho6, hb6, -⟩
                have HO6 : Hid (w6.ownsRow wo.heap.size 25 2 v6 (missGo L W (al.take (k + 1))).length (refC (missGo L W (al.take (k + 1))))) := by show World.ownsRow _ _ _ _ _ _ _; rw [HSS.out]; exact ho6
                have HI6 : Hid (Below wo.heap.size wo w6) := HI5.out.trans (hb6.mono HI5.out.size)
                clear C4 ho6 hb6 x1 x2 HO5 HI5 hp1 hp2
                go_wp2_with fail
                go_roundw
                case rel => exact ⟨k + 1, _, rfl, by go_num, by have := HLK.out; omega, HO6, HI6⟩
                case measure => have := HLK.out; simp [intOf]; omega
            · obtain rfl : na = k := by omega
              have HOF : Hid (wr.ownsRow w.heap.size 25 2 v0 (missGo L W al).length (refC (missGo L W al))) := by
                have h1 := HO.out
                rw [List.take_of_length_le (by rw [HNA.out]; omega)] at h1
                exact own_base h1 fun g hg => Nat.le_trans HB.out.size (own_lt h1 hg).1
              clear HO
              go_wp2_with fail
              go_ret2
              exact ⟨.inl ⟨HAll.out, v0, rfl, by rw [HAL.out]; exact HOF.out⟩, HW0.out⟩
end Go.Proofs.YtclgfcjcpbiadaaGreatDoor
