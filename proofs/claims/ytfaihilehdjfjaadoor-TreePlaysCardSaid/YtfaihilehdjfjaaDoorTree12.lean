/- Contracts: package tree: a place found in a row. -/
import Derived.Test.YtfaihilehdjfjaaDoorTree11
namespace Go.Proofs.YtfaihilehdjfjaaDoor
open Go.ChangeShapes Go.WideShapes Go.ChangeAt Go.RowKit

/-- at which index a place lies, and how far within -/
def T.findT : T → Int → Nat × Int
  | nil, _ => (0, 0)
  | node l _ _ y r, p => if p < wid l then findT l p else if p < wid l + y then (cnt l, p - wid l) else ((findT r (p - (wid l + y))).1 + (cnt l + 1), (findT r (p - (wid l + y))).2)
theorem findRow_bad (b : Nat) (t : T) (k : Nat) (i : Int) (w : World) (h : RowOf w b t k) (hi : i < 0 ∨ t.wid ≤ i) :
    Calls Tryd.prog 29 #[.pointer (some ⟨b, 0, none⟩), .int .i64 i] w fun e w' => e = .returned (badV 1) ∧ w' = w := by
  have H : Hid (RowOf w b t k) := h
  clear h
  by_cases h1 : i < 0
  · have h1' : decide (i < 0) = true := decide_eq_true h1
    go_enter Tryd.func29, Tryd.ntmps29
    go_wp2_with fail
    go_ret3
    exact ⟨rfl, rfl⟩
  · have h1' : decide (i < 0) = false := decide_eq_false h1
    have h2 : decide (t.wid ≤ i) = true := decide_eq_true (hi.resolve_left h1)
    go_enter Tryd.func29, Tryd.ntmps29
    go_wp2_with fail
    go_at_call 32
    refine (rowWide_any b t k w H.out).mono ?_
    rintro e w1 ⟨rfl, e1⟩
    rw [e1]
    clear e1 w1
    go_wp2_with fail
    go_ret3
    exact ⟨rfl, rfl⟩
structure FindI (w wr : World) (b : Nat) (t : T) (k : Nat) (p0 : Int) (s : T) (p : Int) (a k1 : Nat) : Prop where
  row : RowOf wr b t k1
  tree : TreeAt wr s
  small : s.small
  lo : k ≤ k1
  hi : k1 + s.ht ≤ k + t.ht
  zero : 0 ≤ p
  lt : p < s.wid
  cnt : a + s.cnt ≤ 100000
  eq : T.findT t p0 = ((T.findT s p).1 + a, (T.findT s p).2)
  chg : Chg (fun j => j = b) w wr
theorem ht_meas {wr : World} {b : Nat} {v : Value} {k : Nat} (h : RowAt wr b v k) : (intOf ((wr.cell? ⟨b, 1, none⟩).getD undef)).toNat = k := by
  rw [show wr.cell? ⟨b, 1, none⟩ = some (.int .i64 k) from h.cell 1]; simp [intOf]
set_option maxHeartbeats 2000000 in
set_option maxRecDepth 20000 in
theorem findRow_any (b : Nat) (t : T) (k : Nat) (p : Int) (w : World) (h : RowOf w b t k) (hk : k ≤ 999999000) (hp : 0 ≤ p) (hpt : p < t.wid) :
    Calls Tryd.prog 29 #[.pointer (some ⟨b, 0, none⟩), .int .i64 p] w fun e w' =>
      e = .returned (outV (t.findT p).1 (t.findT p).2) ∧ ∃ k', RowOf w' b t k' ∧ k ≤ k' ∧ k' ≤ k + t.ht ∧ Chg (fun j => j = b) w w' := by
  have H : Hid (FindI w w b t k p t p 0 k) := ⟨h, h.tree, h.small, Nat.le_refl _, Nat.le_refl _, hp, hpt, by have := h.cnt; omega, by simp, Chg.refl _⟩
  have hw : k + t.ht ≤ 999999990 := by have := h.ht; omega
  have h1 : decide (p < 0) = false := decide_eq_false (by omega)
  have h2 : decide (t.wid ≤ p) = false := decide_eq_false (by omega)
  have c0 : w.cell? ⟨b, 0, none⟩ = some t.ptr := h.row.cell 0
  clear h hp hpt hk
  go_enter Tryd.func29, Tryd.ntmps29
  go_wp2_with fail
  go_at_call 32
  refine (rowWide_any b t k w H.out.row).mono ?_
  rintro e w1 ⟨rfl, e1⟩
  rw [e1]
  clear e1 w1
  go_wp2_with fail
  go_loopw [1, 4, 7] (fun s1 s4 s7 wr => ∃ (s : T) (q : Int) (a k1 : Nat), s1 = .int .i64 q ∧ s4 = .int .i64 a ∧ s7 = T.ptr s ∧ Hid (FindI w wr b t k p s q a k1)) (fun _ _ _ wr => k + t.ht + 1 - (intOf ((wr.cell? ⟨b, 1, none⟩).getD undef)).toNat)
  case atStart => exact ⟨t, p, 0, k, rfl, rfl, rfl, H⟩
  case round =>
    obtain ⟨s, q, a, k1, rfl, rfl, rfl, HI⟩ := hrel
    clear h1 h2 c0
    cases s with
    | nil => have := HI.out.zero; have := HI.out.lt; simp only [T.wid] at this; omega
    | node l g x y r =>
      have hms := ht_meas HI.out.row.row
      generalize (intOf ((wr.cell? ⟨b, 1, none⟩).getD undef)).toNat = ms at hms ⊢
      have HM := Lib.hid hms
      clear hms
      have hlo := HI.out.lo
      have hhi : k1 + 1 + max l.ht r.ht ≤ k + t.ht := by have := HI.out.hi; simp only [T.ht] at this; omega
      have hbg : b ≠ g := Blk.ne_ HI.out.row.row HI.out.tree.1 (by decide)
      have hbl : b ∉ l.ads := TreeAt.no_row HI.out.row.row HI.out.tree.2.1
      have hbr : b ∉ r.ads := TreeAt.no_row HI.out.row.row HI.out.tree.2.2
      have hsm := HI.out.small
      have hl := T.wid_le hsm.1
      have hr := T.wid_le hsm.2.1
      have hy := hsm.2.2
      have hcn : a + (1 + l.cnt + r.cnt) ≤ 100000 := HI.out.cnt
      have hq0 := HI.out.zero
      have hq1 : q < y + l.wid + r.wid := HI.out.lt
      clear hsm
      rw [show T.ptr (.node l g x y r) = .pointer (some ⟨g, 0, none⟩) from rfl]
      go_wp2_with fail
      go_at_call 71
      refine (look_any b t.ptr k1 wr HI.out.row.row (by omega)).mono ?_
      rintro e w1 ⟨rfl, hR1, hC1⟩
      have H1 : Hid (RowOf w1 b t (k1 + 1) ∧ RawN w1 g l r x y _ _ _ ∧ TreeAt w1 l ∧ TreeAt w1 r ∧ Chg (fun j => j = b) w w1) :=
        ⟨HI.out.row.with_ hR1 hC1, HI.out.tree.1.keep hC1 (fun e => hbg e.symm), HI.out.tree.2.1.chg hC1 (fun i hi e => hbl (e ▸ hi)), HI.out.tree.2.2.chg hC1 (fun i hi e => hbr (e ▸ hi)), HI.out.chg.trans hC1 (fun _ _ e => e)⟩
      clear hR1 hC1
      have c0 : w1.cell? ⟨g, 0, none⟩ = some l.ptr := H1.out.2.1.cell 0
      have c1 : w1.cell? ⟨g, 1, none⟩ = some r.ptr := H1.out.2.1.cell 1
      have c3 : w1.cell? ⟨g, 3, none⟩ = some (.int .i64 y) := H1.out.2.1.cell 3
      go_wp2_with fail
      go_at_call 72
      refine (width_any l _ H1.out.2.2.1).mono ?_
      rintro e w2 ⟨rfl, e1⟩
      rw [e1]
      clear e1 w2
      have hfe : T.findT (.node l g x y r) q = if q < l.wid then T.findT l q else if q < l.wid + y then (l.cnt, q - l.wid) else ((T.findT r (q - (l.wid + y))).1 + (l.cnt + 1), (T.findT r (q - (l.wid + y))).2) := rfl
      by_cases hq2 : q < l.wid
      · have hf : Hid (T.findT t p = ((T.findT l q).1 + a, (T.findT l q).2)) := by
          have := HI.out.eq
          rw [hfe, if_pos hq2] at this
          exact this
        clear hfe
        go_wp2_with fail
        go_roundw
        case rel => exact ⟨l, q, a, k1 + 1, rfl, rfl, rfl, ⟨H1.out.1, H1.out.2.2.1, HI.out.small.1, by omega, by omega, hq0, hq2, by omega, hf.out, H1.out.2.2.2.2⟩⟩
        case measure => rw [ht_meas H1.out.1.row, HM.out]; omega
      · by_cases hq3 : q < l.wid + y
        · have hf : Hid (T.findT t p = (l.cnt + a, q - l.wid)) := by
            have := HI.out.eq
            rw [hfe, if_neg hq2, if_pos hq3] at this
            exact this
          clear hfe
          have hca : ((l.cnt + a : Nat) : Int) = (a : Int) + l.cnt := by omega
          have Hca := Lib.hid hca
          clear hca
          go_wp2_with fail
          go_at_call 73
          refine (count_any l _ H1.out.2.2.1).mono ?_
          rintro e w2 ⟨rfl, e1⟩
          rw [e1]
          clear e1 w2
          go_wp2_with fail
          go_ret3
          refine ⟨?_, k1 + 1, H1.out.1, by omega, by omega, H1.out.2.2.2.2⟩
          rw [hf.out]
          simp only [outV, Hca.out]
          rfl
        · have hf : Hid (T.findT t p = ((T.findT r (q - (l.wid + y))).1 + (l.cnt + 1) + a, (T.findT r (q - (l.wid + y))).2)) := by
            have := HI.out.eq
            rw [hfe, if_neg hq2, if_neg hq3] at this
            exact this
          clear hfe
          go_wp2_with fail
          go_at_call 73
          refine (count_any l _ H1.out.2.2.1).mono ?_
          rintro e w2 ⟨rfl, e1⟩
          rw [e1]
          clear e1 w2
          go_wp2_with fail
          go_roundw
          case rel => exact ⟨r, q - (l.wid + y), a + (l.cnt + 1), k1 + 1, rfl, by go_num, rfl, ⟨H1.out.1, H1.out.2.2.2.1, HI.out.small.2.1, by omega, by omega, by omega, by omega, by omega, by rw [hf.out]; simp only [Prod.mk.injEq, and_true]; omega, H1.out.2.2.2.2⟩⟩
          case measure => rw [ht_meas H1.out.1.row, HM.out]; omega
end Go.Proofs.YtfaihilehdjfjaaDoor
