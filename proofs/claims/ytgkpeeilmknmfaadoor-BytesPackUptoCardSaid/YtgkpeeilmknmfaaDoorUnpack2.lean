/- Contracts: package bytes, Unpack's walk. -/
import Derived.Test.YtgkpeeilmknmfaaDoorUnpack
namespace Go.Proofs.YtgkpeeilmknmfaaDoor
open Go.ChangeShapes Go.WideShapes Go.ChangeAt Go.RowKit

/-- what the loop keeps -/
structure UpRel (w : World) (D : Nat → Prop) (A : Option Addr) (l : List UInt8) (c left at_ : Nat) (bad : Bool) (p : List (Int × Int)) (v : Value) (wr : World) : Prop where
  rd : RdW wr w.heap.size D A l c at_ bad
  up : UpAt l left at_ bad p
  own : wr.ownsRow (w.heap.size + 1) 48 2 v p.length (pairsC p)
  bel : Below w.heap.size w wr
  siz : w.heap.size < wr.heap.size
theorem cell_keep {wa wb : World} {H j : Nat} (h : wb.heap[H]? = wa.heap[H]?) : wb.cell? ⟨H, j, none⟩ = wa.cell? ⟨H, j, none⟩ := World.cell?_of_block (w := wa) h
theorem okBit_le (w : World) (g : Nat) : okBit w g ≤ 1 := by unfold okBit; split <;> omega

/-- behind an append, the relation stands again -/
theorem UpRel.next {w w5 w6 : World} {D : Nat → Prop} {A : Option Addr} {l : List UInt8} {c left' at' : Nat} {bad' : Bool} {p p' : List (Int × Int)} {v v6 : Value} {o : Obj} {n0 : Nat} (hn0 : p.length = n0)
    (hD : ∀ k, D k → k < w.heap.size) (hrd : RdW w5 w.heap.size D A l c at' bad') (hup : UpAt l left' at' bad' p') (hB : Below w.heap.size w w5) (hs : w.heap.size < w5.heap.size)
    (ho5 : w5.ownsRow (w.heap.size + 1) 48 2 v n0 (pairsC p)) (ho6 : w6.ownsRow (w.heap.size + 1) 48 2 v6 p'.length (pairsC p'))
    (hg : (w5.alloc o).grownBy w6 v.ownBlock) : UpRel w D A l c left' at' bad' p' v6 w6 := by
  have hlow : ∀ g, v.ownBlock = some g → w.heap.size + 1 ≤ g := fun g h => (own_lt ho5 h).1
  have hb6 : Below (w.heap.size + 1) w5 w6 := ((Below.refl _ w5).alloc (by omega) _).grown hg (by simp; omega) hlow
  have hblk : RdAt w6 w.heap.size A l.length c at' bad' := Blk.keep hrd.blk (hb6.block _ (by omega))
  exact ⟨⟨hblk, hrd.reads.keep ((Below.keeps hb6).mono fun k hk => by have := hD k hk; omega), hrd.apart, hrd.le, hrd.cap, hrd.small⟩, hup, ho6, hB.trans (hb6.mono (by omega)), by have := hb6.size; omega⟩
/-- the loop's own box keeps its cells -/
theorem UpRel.box {w5 w6 : World} {H B : Nat} {n : Nat} {v u : Value} {xs : List Value} {o : Obj} {j : Nat} (ho : w5.ownsRow B 48 2 v n xs) (hv : ∀ g, v.ownBlock = some g → g < H) (hH : H < w5.heap.size)
    (hg : (w5.alloc o).grownBy w6 v.ownBlock) (hx : w5.cell? ⟨H, j, none⟩ = some u) : w6.cell? ⟨H, j, none⟩ = some u := by
  rw [← hx]
  refine World.cell?_of_block (w := w5) ?_
  show w6.heap[H]? = w5.heap[H]?
  rw [hg.block H (by simp; omega) (fun e => by have := hv H e.symm; omega)]
  exact Below.heap_alloc w5 o H hH

set_option maxHeartbeats 4000000 in
theorem unpack_any (l : List UInt8) (D : Nat → Prop) (A : Option Addr) (c : Nat) (w : World) (hr : Reads D w 1 A l.length (bytesC l)) (hD : ∀ k, D k → k < w.heap.size) (hl : l.length ≤ 4000000) (hc : l.length ≤ c) :
    Calls Tryd.prog 31 #[.slice A l.length c] w fun e w' => UnOr (unpackL l) w.heap.size e w' ∧ Below w.heap.size w w' := by
  have HR := Lib.hid hr
  have HD := Lib.hid hD
  clear hr hD
  go_enter Tryd.func31, Tryd.ntmps31
  go_wp2_with fail
  have hrd0 : RdW (w.alloc (.cells #[.slice A l.length c, .int .i64 0, .nilIface] 89)) w.heap.size D A l c 0 false :=
    ⟨Blk.new w _ _, HR.out.keep (Keeps.alloc Keeps.refl HD.out _), fun h => by have := HD.out _ h; omega, by omega, hc, hl⟩
  refine (num_any 400 hrd0 (fun k hk => by have := HD.out k hk; simp; omega) (by omega)).mono ?_
  rintro e w1 ⟨rfl, hrd1, hch⟩
  have hn := rdNum_le (l := l) (most := 400) (at_ := 0) (bad := false)
  have HU : Hid (unpackL l = if (rdNum l 400 0 false).2.2 = true then none else (upkG 401 l (rdNum l 400 0 false).1 (rdNum l 400 0 false).2.1 []).map fun x => (sumsF 0 (expandL x.1), x.2)) := rfl
  generalize rdNum l 400 0 false = a at HU hrd1 hn ⊢
  obtain ⟨n, at1, bad1⟩ := a
  simp only at HU hrd1 hn ⊢
  have hup : UpAt l n at1 bad1 [] := by
    cases bad1 with
    | true => simp only [UpAt, if_true]; exact ⟨by rw [HU.out]; rfl, by simp⟩
    | false =>
      simp only [UpAt, Bool.false_eq_true, if_false]
      exact ⟨⟨401, by omega, by rw [HU.out]; simp⟩, by simp, by simp [manys]; omega, by simp⟩
  have hb1 : Below w.heap.size w w1 := ((Below.refl w.heap.size w).alloc (Nat.le_refl _) _).trans (hch.below (by simp) (fun k hk => by omega))
  have hs1 : w.heap.size < w1.heap.size := by have := hch.size; simp at this; omega
  have HREL : Hid (UpRel w D A l c n at1 bad1 [] (.slice none 0 0) w1) := ⟨hrd1, hup, own_nil _ _ _ _, hb1, hs1⟩
  clear hrd1 hup hb1 hs1 hch hrd0 HU HR
  go_wp2_with fail
  go_loopw [7, 8] (fun v i wr => ∃ (left at_ : Nat) (bad : Bool) (p : List (Int × Int)), left ≤ 400 ∧ i = .int .i64 left ∧ Hid (UpRel w D A l c left at_ bad p v wr)) (fun _ i wr => 2 * (intOf i).toNat + okBit wr w.heap.size)
  case atStart => exact ⟨n, at1, bad1, [], hn, rfl, HREL⟩
  case round =>
    obtain ⟨left, at_, bad, p, hleft, rfl, HRL⟩ := hrel
    have hc2 : wr.cell? ⟨w.heap.size, 2, none⟩ = some (rdErr bad) := HRL.out.rd.blk.cell 2
    cases bad with
    | true =>
      have HF := Lib.hid (HRL.out.up.bad_none)
      have HB := Lib.hid HRL.out.bel
      replace hc2 : wr.cell? ⟨w.heap.size, 2, none⟩ = some (.iface 76 (.int .i64 9)) := hc2
      clear HRL
      rcases Nat.eq_zero_or_pos left with rfl | hpos
      all_goals
        go_wp2_with fail
        go_quiet (fail)
        go_wp2_with fail
        go_ret3
        exact ⟨by rw [HF.out]; rfl, below_drewN HB.out _⟩
    | false =>
      replace hc2 : wr.cell? ⟨w.heap.size, 2, none⟩ = some .nilIface := hc2
      rcases Nat.eq_zero_or_pos left with rfl | hpos
      · have hat : wr.cell? ⟨w.heap.size, 1, none⟩ = some (.int .i64 at_) := HRL.out.rd.blk.cell 1
        obtain ⟨hf1, hf2, hf3⟩ := HRL.out.up.fin
        have HF1 := Lib.hid hf1
        have HF2 := Lib.hid hf2
        obtain ⟨A1, c1, hv1, _, _, hr1⟩ := Reads.of_own HRL.out.own
        have HO := Lib.hid HRL.out.own
        subst hv1
        have HR1 := Lib.hid hr1
        have hpl := HRL.out.up.len
        clear hf1 hf2 hr1
        go_wp2_with fail
        refine (spread_any p _ A1 c1 _ HR1.out (fun k hk => (own_lt HO.out hk).2) (by omega)).mono ?_
        rintro e w2 ⟨hok, hb2⟩
        rw [HF2.out] at hok
        obtain ⟨v2, rfl, ho2⟩ := hok
        obtain ⟨A2, c2, hv2, _, _, hr2⟩ := Reads.of_own ho2
        subst hv2
        have HR2 := Lib.hid hr2
        have HO2 := Lib.hid ho2
        have hg1 : w2.cell? ⟨w.heap.size, 1, none⟩ = some (.int .i64 at_) := by rw [← hat]; exact World.cell?_of_block (w := wr) (hb2.block _ HRL.out.siz)
        have HB2 := Lib.hid hb2
        clear hr2 ho2 hb2
        go_wp2_with fail
        have hel : (expandL p).length ≤ 2000000 := by omega
        have HDX : Hid (∀ k, (Value.slice A2 (expandL p).length c2).ownBlock = some k → k < w2.heap.size) := fun k hk => (own_lt HO2.out hk).2
        go_region_held3 (fun w' => w'.cell? ⟨w.heap.size, 1, none⟩ = some (.int .i64 at_)) (first | exact (World.cell?_of_block (w := w2) (hb3.block _ (by have := HRL.out.siz; have := HB2.out.size; simp; omega))).trans hg1 | go_keep) (first | (go_at_call 23; refine (sums_any (expandL p) _ A2 c2 w2.drew HR2.out HDX.out hel).mono ?_; rintro e w3 ⟨v3, rfl, ho3, hb3⟩))
        go_wp2_with fail
        go_ret3
        refine ⟨?_, ?_⟩
        · rw [HF1.out]
          exact ⟨_, rfl, own_base ho3 (fun g hg => Nat.le_trans (Nat.le_trans HRL.out.bel.size HB2.out.size) (own_lt ho3 hg).1)⟩
        · exact (HRL.out.bel.trans (HB2.out.mono HRL.out.bel.size)).trans ((Below.refl _ w2).drew.trans hb3 |>.mono (Nat.le_trans HRL.out.bel.size HB2.out.size))
      · have hle := rdNum_le (l := l) (most := left) (at_ := at_) (bad := false)
        generalize h1 : rdNum l left at_ false = a1 at hle
        obtain ⟨m, at1', bad1'⟩ := a1
        have E1 := Lib.hid h1
        obtain ⟨s, at2, bad2, h2⟩ : ∃ s at2 bad2, rdInt l at1' bad1' = (s, at2, bad2) := ⟨_, _, _, rfl⟩
        have E2 := Lib.hid h2
        simp only at hle
        clear h1 h2
        have hsz := HRL.out.siz
        go_wp2_with fail
        refine (num_any left HRL.out.rd (fun k hk => by have := HD.out k hk; omega) (by omega)).mono ?_
        rw [E1.out]
        rintro e w2 ⟨rfl, hrd2, hch2⟩
        have hs2 := hch2.size
        have HRD2 := Lib.hid hrd2
        have HCH2 := Lib.hid hch2
        clear hrd2 hch2
        simp only
        go_wp2_with fail
        refine (signed_any HRD2.out (fun k hk => by have := HD.out k hk; omega)).mono ?_
        rw [E2.out]
        rintro e w3 ⟨rfl, hrd3, hch3⟩
        simp only at hrd3 ⊢
        have hs3 := hch3.size
        have HRD3 := Lib.hid hrd3
        have HCH3 : Hid (Chg (fun k => k = w.heap.size) wr w3) := HCH2.out.trans hch3 (fun _ _ h => h)
        have HB3 : Hid (Below w.heap.size w w3) := HRL.out.bel.trans (HCH3.out.below HRL.out.bel.size (fun k hk => by omega))
        have HO3 : Hid (w3.ownsRow (w.heap.size + 1) 48 2 u7 p.length (pairsC p)) := own_keep HRL.out.own (fun g hg => by
          have := own_lt HRL.out.own hg
          exact HCH3.out.block g (by omega) (by omega))
        clear hrd3 hch3 HRD2 HCH2
        have hplen := HRL.out.up.len
        have hd1 : decide ((0 : Int) < (left : Int)) = true := by simp; omega
        rcases Nat.eq_zero_or_pos m with rfl | hm1
        · obtain ⟨A7, c7, hv7, _, _, hr7⟩ := Reads.of_own HO3.out
          subst hv7
          have HF : Hid (∀ x left' at', UpAt l left' at' true (p ++ [x])) := HRL.out.up.fall hpos E1 E2 (.inr (.inl (by omega)))
          clear hr7
          have HO4 := HO3
          clear HO3
          go_wp2_with fail
          go_quiet (fail)
          go_wp2_with fail
          refine (fail_any w.heap.size A l.length c at2 bad2 ((w3.alloc (.cells #[.int .i64 0, .int .i64 s] 48)).drewN nq) (RdAt.drewN (Blk.alloc HRD3.out.blk _) nq)).mono ?_
          rintro e w5 ⟨rfl, hrd5, hch5⟩
          have hk5 : ∀ k, k < w3.heap.size + 1 → k ≠ w.heap.size → w5.heap[k]? = (w3.alloc (.cells #[.int .i64 0, .int .i64 s] 48)).heap[k]? := fun k h1 h2 => hch5.block k (by simpa using h1) h2
          have hs5 : w3.heap.size < w5.heap.size := by have := hch5.size; simp at this; omega
          have HB5 : Hid (Below w.heap.size w w5) := (below_drewN (HB3.out.alloc HB3.out.size _) nq).trans (hch5.below (by simp; omega) (fun k hk => Nat.le_of_eq hk.symm))
          have hrd5' : RdAt w5 w.heap.size A l.length c at2 true := hrd5
          clear hrd5 hch5
          have hx0 : w5.cell? ⟨w3.heap.size, 0, none⟩ = some (.int .i64 0) := (cell_keep (hk5 _ (by omega) (by omega))).trans (new_cells _ _ [.int .i64 0, .int .i64 s] rfl)
          have hx1 : w5.cell? ⟨w3.heap.size, 1, none⟩ = some (.int .i64 s) := (cell_keep (hk5 _ (by omega) (by omega))).trans (new_cells _ _ [.int .i64 0, .int .i64 s] rfl)
          have ho5 : w5.ownsRow (w.heap.size + 1) 48 2 (.slice A7 (p.length) c7) (p.length) (pairsC p) := own_keep (HO4.out.alloc _) (fun g hg => by
            have := own_lt HO4.out hg
            exact hk5 g (by omega) (by omega))
          have HRD5 : Hid (RdW w5 w.heap.size D A l c at2 true) := ⟨hrd5', HRD3.out.reads.keep (fun k hk => by
            have h1 := HD.out k hk
            rw [hk5 k (by omega) (by omega)]
            exact Below.heap_alloc w3 _ k (by omega)), HRD3.out.apart, HRD3.out.le, HRD3.out.cap, HRD3.out.small⟩
          clear hrd5' hk5
          have hs6 : w.heap.size + 1 ≤ w5.heap.size := by omega
          go_wp2_with (at_builtin; refine wpList_append_one 45 48 (.agg #[.int .i64 0, .int .i64 0]) 2 16 Tryd.underlying45 infoPiece rfl (by omega) rfl (.tmp 49) (.tmp 51) rfl (w.heap.size + 1) (.slice A7 (p.length) c7) (p.length) (pairsC p) rfl (ho5.alloc _) (w5.heap.size) 1 ([.int .i64 0, .int .i64 s]) rfl ?c1 ?c2 ?c3 ?c4 ?c5 ?c6 ?_)
          try case c1 => rfl
          try case c2 => intro j u hj; exact new_cells _ _ _ hj
          try case c3 => exact pairsC_one [(0, s)]
          try case c4 => omega
          try case c5 => omega
          try case c6 => simp; omega
          intro v6 w6 ho6 hg6 hat6
          have hx6 := UpRel.box ho5 (fun g hg => (own_lt HO4.out hg).2) hs5 hg6 hx0
          have HREL6 : Hid (UpRel w D A l c (left - 0) at2 true (p ++ [(((0 : Nat) : Int), s)]) v6 w6) :=
            UpRel.next (rfl) HD.out HRD5.out (HF.out _ _ _) HB5.out (by omega) ho5 (by rw [List.length_append, pairsC_append]; exact ho6) hg6
          have HM : Hid (okBit w6 w.heap.size = 0 ∧ okBit wr w.heap.size = 1) := ⟨HREL6.out.rd.blk.bad, HRL.out.rd.blk.ok⟩
          clear ho6 hg6 hat6 hx0 hx1 ho5
          go_wp2_with fail
          exact ⟨⟨left - 0, at2, true, _, by omega, by go_num, HREL6⟩, by have := HM.out; simp [intOf]; omega⟩
        · have hdm : decide ((m : Int) < 1) = false := by simp; omega
          rcases Nat.eq_zero_or_pos p.length with hp0 | hp1
          · obtain ⟨A7, c7, hv7, _, _, hr7⟩ := Reads.of_own HO3.out
            rw [hp0] at hv7
            subst hv7
            have HLN := Lib.hid hp0
            have HF := Lib.hid (HRL.out.up.step hpos E1 E2 hm1 (by rw [List.length_eq_zero_iff.1 hp0]; simp))
            clear hr7 hp0
            have HO4 : Hid (w3.ownsRow (w.heap.size + 1) 48 2 (.slice A7 (0) c7) (0) (pairsC p)) := by
              have := HO3.out
              rw [HLN.out] at this
              exact this
            clear HO3
            go_wp2_with fail
            go_quiet (fail)
            obtain ⟨w5, hw5⟩ : ∃ w5, w5 = (w3.alloc (.cells #[.int .i64 (m : Int), .int .i64 s] 48)).drewN nq := ⟨_, rfl⟩
            rw [← hw5]
            have hk5 : ∀ k, k < w3.heap.size + 1 → k ≠ w.heap.size → w5.heap[k]? = (w3.alloc (.cells #[.int .i64 (m : Int), .int .i64 s] 48)).heap[k]? := fun k h1 h2 => by rw [hw5]; rfl
            have hs5 : w3.heap.size < w5.heap.size := by rw [hw5]; simp
            have HB5 : Hid (Below w.heap.size w w5) := by rw [hw5]; exact below_drewN (HB3.out.alloc HB3.out.size _) _
            have hrd5' : RdAt w5 w.heap.size A l.length c at2 bad2 := by rw [hw5]; exact RdAt.drewN (Blk.alloc HRD3.out.blk _) nq
            clear hw5
            have hx0 : w5.cell? ⟨w3.heap.size, 0, none⟩ = some (.int .i64 (m : Int)) := (cell_keep (hk5 _ (by omega) (by omega))).trans (new_cells _ _ [.int .i64 (m : Int), .int .i64 s] rfl)
            have hx1 : w5.cell? ⟨w3.heap.size, 1, none⟩ = some (.int .i64 s) := (cell_keep (hk5 _ (by omega) (by omega))).trans (new_cells _ _ [.int .i64 (m : Int), .int .i64 s] rfl)
            have ho5 : w5.ownsRow (w.heap.size + 1) 48 2 (.slice A7 (0) c7) (0) (pairsC p) := own_keep (HO4.out.alloc _) (fun g hg => by
              have := own_lt HO4.out hg
              exact hk5 g (by omega) (by omega))
            have HRD5 : Hid (RdW w5 w.heap.size D A l c at2 bad2) := ⟨hrd5', HRD3.out.reads.keep (fun k hk => by
              have h1 := HD.out k hk
              rw [hk5 k (by omega) (by omega)]
              exact Below.heap_alloc w3 _ k (by omega)), HRD3.out.apart, HRD3.out.le, HRD3.out.cap, HRD3.out.small⟩
            clear hrd5' hk5
            have hs6 : w.heap.size + 1 ≤ w5.heap.size := by omega
            go_wp2_with (at_builtin; refine wpList_append_one 45 48 (.agg #[.int .i64 0, .int .i64 0]) 2 16 Tryd.underlying45 infoPiece rfl (by omega) rfl (.tmp 49) (.tmp 51) rfl (w.heap.size + 1) (.slice A7 (0) c7) (0) (pairsC p) rfl (ho5.alloc _) (w5.heap.size) 1 ([.int .i64 (m : Int), .int .i64 s]) rfl ?c1 ?c2 ?c3 ?c4 ?c5 ?c6 ?_)
            try case c1 => rfl
            try case c2 => intro j u hj; exact new_cells _ _ _ hj
            try case c3 => exact pairsC_one [((m : Int), s)]
            try case c4 => omega
            try case c5 => omega
            try case c6 => simp; omega
            intro v6 w6 ho6 hg6 hat6
            have hx6 := UpRel.box ho5 (fun g hg => (own_lt HO4.out hg).2) hs5 hg6 hx0
            have HREL6 : Hid (UpRel w D A l c (left - m) at2 bad2 (p ++ [((m : Int), s)]) v6 w6) :=
              UpRel.next (HLN.out) HD.out HRD5.out (HF.out) HB5.out (by omega) ho5 (by rw [List.length_append, HLN.out, pairsC_append]; exact ho6) hg6
            have HM : Hid (okBit w6 w.heap.size ≤ 1 ∧ okBit wr w.heap.size = 1) := ⟨okBit_le _ _, HRL.out.rd.blk.ok⟩
            clear ho6 hg6 hat6 hx0 hx1 ho5
            go_wp2_with fail
            exact ⟨⟨left - m, at2, bad2, _, by omega, by go_num, HREL6⟩, by have := HM.out; simp [intOf]; omega⟩
          · obtain ⟨K, hK⟩ : ∃ K, p.length = K + 1 := ⟨p.length - 1, by omega⟩
            obtain ⟨⟨m0, s0⟩, hx⟩ := get_lt (l := p) (k := K) (by omega)
            have hlast : p.getLast? = some (m0, s0) := by rw [List.getLast?_eq_getElem?, hK]; exact hx
            obtain ⟨A7, c7, hv7, _, _, hr7⟩ := Reads.of_own HO3.out
            obtain ⟨b7, o7, hA7, hdb7, hcell⟩ := hr7.at_ (by omega) (by omega)
            have hc7 := hcell _ _ (pairsC_snd _ _ _ hx)
            rw [← Nat.add_assoc] at hc7
            have hb7 : b7 < w3.heap.size := (own_lt HO3.out hdb7).2
            have hc4 : (w3.alloc (.cells #[.int .i64 (m : Int), .int .i64 s] 48)).cell? ⟨b7, o7 + K * 2 + 1, none⟩ = some (.int .i64 s0) := (cell_keep (Below.heap_alloc w3 _ b7 hb7)).trans hc7
            rw [hK] at hv7
            subst hA7
            subst hv7
            have HLN := Lib.hid hK
            have HLA := Lib.hid hlast
            have hK4 : K ≤ 401 := by omega
            clear hr7 hcell hc7 hx hlast hK hdb7 hp1
            by_cases hss : s0 = s
            · subst hss
              have HF : Hid (∀ x left' at', UpAt l left' at' true (p ++ [x])) := HRL.out.up.fall hpos E1 E2 (.inr (.inr (by rw [HLA.out]; rfl)))
              have HO4 : Hid (w3.ownsRow (w.heap.size + 1) 48 2 (.slice (some ⟨b7, o7, none⟩) (K + 1) c7) (K + 1) (pairsC p)) := by
                have := HO3.out
                rw [HLN.out] at this
                exact this
              clear HO3
              go_wp2_with fail
              go_quiet (fail)
              go_wp2_with fail
              refine (fail_any w.heap.size A l.length c at2 bad2 ((w3.alloc (.cells #[.int .i64 (m : Int), .int .i64 s0] 48)).drewN nq) (RdAt.drewN (Blk.alloc HRD3.out.blk _) nq)).mono ?_
              rintro e w5 ⟨rfl, hrd5, hch5⟩
              have hk5 : ∀ k, k < w3.heap.size + 1 → k ≠ w.heap.size → w5.heap[k]? = (w3.alloc (.cells #[.int .i64 (m : Int), .int .i64 s0] 48)).heap[k]? := fun k h1 h2 => hch5.block k (by simpa using h1) h2
              have hs5 : w3.heap.size < w5.heap.size := by have := hch5.size; simp at this; omega
              have HB5 : Hid (Below w.heap.size w w5) := (below_drewN (HB3.out.alloc HB3.out.size _) nq).trans (hch5.below (by simp; omega) (fun k hk => Nat.le_of_eq hk.symm))
              have hrd5' : RdAt w5 w.heap.size A l.length c at2 true := hrd5
              clear hrd5 hch5
              have hx0 : w5.cell? ⟨w3.heap.size, 0, none⟩ = some (.int .i64 (m : Int)) := (cell_keep (hk5 _ (by omega) (by omega))).trans (new_cells _ _ [.int .i64 (m : Int), .int .i64 s0] rfl)
              have hx1 : w5.cell? ⟨w3.heap.size, 1, none⟩ = some (.int .i64 s0) := (cell_keep (hk5 _ (by omega) (by omega))).trans (new_cells _ _ [.int .i64 (m : Int), .int .i64 s0] rfl)
              have ho5 : w5.ownsRow (w.heap.size + 1) 48 2 (.slice (some ⟨b7, o7, none⟩) (K + 1) c7) (K + 1) (pairsC p) := own_keep (HO4.out.alloc _) (fun g hg => by
                have := own_lt HO4.out hg
                exact hk5 g (by omega) (by omega))
              have HRD5 : Hid (RdW w5 w.heap.size D A l c at2 true) := ⟨hrd5', HRD3.out.reads.keep (fun k hk => by
                have h1 := HD.out k hk
                rw [hk5 k (by omega) (by omega)]
                exact Below.heap_alloc w3 _ k (by omega)), HRD3.out.apart, HRD3.out.le, HRD3.out.cap, HRD3.out.small⟩
              clear hrd5' hk5
              have hs6 : w.heap.size + 1 ≤ w5.heap.size := by omega
              go_wp2_with (at_builtin; refine wpList_append_one 45 48 (.agg #[.int .i64 0, .int .i64 0]) 2 16 Tryd.underlying45 infoPiece rfl (by omega) rfl (.tmp 49) (.tmp 51) rfl (w.heap.size + 1) (.slice (some ⟨b7, o7, none⟩) (K + 1) c7) (K + 1) (pairsC p) rfl (ho5.alloc _) (w5.heap.size) 1 ([.int .i64 (m : Int), .int .i64 s0]) rfl ?c1 ?c2 ?c3 ?c4 ?c5 ?c6 ?_)
              try case c1 => rfl
              try case c2 => intro j u hj; exact new_cells _ _ _ hj
              try case c3 => exact pairsC_one [((m : Int), s0)]
              try case c4 => omega
              try case c5 => omega
              try case c6 => simp; omega
              intro v6 w6 ho6 hg6 hat6
              have hx6 := UpRel.box ho5 (fun g hg => (own_lt HO4.out hg).2) hs5 hg6 hx0
              have HREL6 : Hid (UpRel w D A l c (left - m) at2 true (p ++ [((m : Int), s0)]) v6 w6) :=
                UpRel.next (HLN.out) HD.out HRD5.out (HF.out _ _ _) HB5.out (by omega) ho5 (by rw [List.length_append, HLN.out, pairsC_append]; exact ho6) hg6
              have HM : Hid (okBit w6 w.heap.size = 0 ∧ okBit wr w.heap.size = 1) := ⟨HREL6.out.rd.blk.bad, HRL.out.rd.blk.ok⟩
              clear ho6 hg6 hat6 hx0 hx1 ho5
              go_wp2_with fail
              exact ⟨⟨left - m, at2, true, _, by omega, by go_num, HREL6⟩, by have := HM.out; simp [intOf]; omega⟩
            · have HF := Lib.hid (HRL.out.up.step hpos E1 E2 hm1 (by rw [HLA.out]; simpa using hss))
              have hne : (s0 == s) = false := by simpa using hss
              clear hss
              have HO4 : Hid (w3.ownsRow (w.heap.size + 1) 48 2 (.slice (some ⟨b7, o7, none⟩) (K + 1) c7) (K + 1) (pairsC p)) := by
                have := HO3.out
                rw [HLN.out] at this
                exact this
              clear HO3
              go_wp2_with fail
              go_quiet (fail)
              obtain ⟨w5, hw5⟩ : ∃ w5, w5 = (w3.alloc (.cells #[.int .i64 (m : Int), .int .i64 s] 48)).drewN nq := ⟨_, rfl⟩
              rw [← hw5]
              have hk5 : ∀ k, k < w3.heap.size + 1 → k ≠ w.heap.size → w5.heap[k]? = (w3.alloc (.cells #[.int .i64 (m : Int), .int .i64 s] 48)).heap[k]? := fun k h1 h2 => by rw [hw5]; rfl
              have hs5 : w3.heap.size < w5.heap.size := by rw [hw5]; simp
              have HB5 : Hid (Below w.heap.size w w5) := by rw [hw5]; exact below_drewN (HB3.out.alloc HB3.out.size _) _
              have hrd5' : RdAt w5 w.heap.size A l.length c at2 bad2 := by rw [hw5]; exact RdAt.drewN (Blk.alloc HRD3.out.blk _) nq
              clear hw5
              have hx0 : w5.cell? ⟨w3.heap.size, 0, none⟩ = some (.int .i64 (m : Int)) := (cell_keep (hk5 _ (by omega) (by omega))).trans (new_cells _ _ [.int .i64 (m : Int), .int .i64 s] rfl)
              have hx1 : w5.cell? ⟨w3.heap.size, 1, none⟩ = some (.int .i64 s) := (cell_keep (hk5 _ (by omega) (by omega))).trans (new_cells _ _ [.int .i64 (m : Int), .int .i64 s] rfl)
              have ho5 : w5.ownsRow (w.heap.size + 1) 48 2 (.slice (some ⟨b7, o7, none⟩) (K + 1) c7) (K + 1) (pairsC p) := own_keep (HO4.out.alloc _) (fun g hg => by
                have := own_lt HO4.out hg
                exact hk5 g (by omega) (by omega))
              have HRD5 : Hid (RdW w5 w.heap.size D A l c at2 bad2) := ⟨hrd5', HRD3.out.reads.keep (fun k hk => by
                have h1 := HD.out k hk
                rw [hk5 k (by omega) (by omega)]
                exact Below.heap_alloc w3 _ k (by omega)), HRD3.out.apart, HRD3.out.le, HRD3.out.cap, HRD3.out.small⟩
              clear hrd5' hk5
              have hs6 : w.heap.size + 1 ≤ w5.heap.size := by omega
              go_wp2_with (at_builtin; refine wpList_append_one 45 48 (.agg #[.int .i64 0, .int .i64 0]) 2 16 Tryd.underlying45 infoPiece rfl (by omega) rfl (.tmp 49) (.tmp 51) rfl (w.heap.size + 1) (.slice (some ⟨b7, o7, none⟩) (K + 1) c7) (K + 1) (pairsC p) rfl (ho5.alloc _) (w5.heap.size) 1 ([.int .i64 (m : Int), .int .i64 s]) rfl ?c1 ?c2 ?c3 ?c4 ?c5 ?c6 ?_)
              try case c1 => rfl
              try case c2 => intro j u hj; exact new_cells _ _ _ hj
              try case c3 => exact pairsC_one [((m : Int), s)]
              try case c4 => omega
              try case c5 => omega
              try case c6 => simp; omega
              intro v6 w6 ho6 hg6 hat6
              have hx6 := UpRel.box ho5 (fun g hg => (own_lt HO4.out hg).2) hs5 hg6 hx0
              have HREL6 : Hid (UpRel w D A l c (left - m) at2 bad2 (p ++ [((m : Int), s)]) v6 w6) :=
                UpRel.next (HLN.out) HD.out HRD5.out (HF.out) HB5.out (by omega) ho5 (by rw [List.length_append, HLN.out, pairsC_append]; exact ho6) hg6
              have HM : Hid (okBit w6 w.heap.size ≤ 1 ∧ okBit wr w.heap.size = 1) := ⟨okBit_le _ _, HRL.out.rd.blk.ok⟩
              clear ho6 hg6 hat6 hx0 hx1 ho5
              go_wp2_with fail
              exact ⟨⟨left - m, at2, bad2, _, by omega, by go_num, HREL6⟩, by have := HM.out; simp [intOf]; omega⟩
end Go.Proofs.YtgkpeeilmknmfaaDoor
