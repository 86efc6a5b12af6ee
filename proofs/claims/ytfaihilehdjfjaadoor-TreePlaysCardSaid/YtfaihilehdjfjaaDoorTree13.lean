/- Contracts: package tree: how wide all ahead are. -/
import Derived.Test.YtfaihilehdjfjaaDoorTree12
namespace Go.Proofs.YtfaihilehdjfjaaDoor
open Go.ChangeShapes Go.WideShapes Go.ChangeAt Go.RowKit

/-- how wide the first ones are -/
def T.aheadT : T → Nat → Int
  | nil, _ => 0
  | node l _ _ y r, i => if i ≤ cnt l then aheadT l i else wid l + y + aheadT r (i - (cnt l + 1))
theorem aheadRow_bad (b : Nat) (t : T) (k : Nat) (i : Int) (w : World) (h : RowOf w b t k) (hi : i < 0 ∨ t.cnt < i) :
    Calls Tryd.prog 30 #[.pointer (some ⟨b, 0, none⟩), .int .i64 i] w fun e w' => e = .returned (.tuple #[.int .i64 0, .iface 80 (.int .i64 1)]) ∧ w' = w := by
  have H : Hid (RowOf w b t k) := h
  clear h
  by_cases h1 : i < 0
  · have h1' : decide (i < 0) = true := decide_eq_true h1
    go_enter Tryd.func30, Tryd.ntmps30
    go_wp2_with fail
    go_ret2
    exact ⟨rfl, rfl⟩
  · have h1' : decide (i < 0) = false := decide_eq_false h1
    have h2 : decide ((t.cnt : Int) < i) = true := decide_eq_true (hi.resolve_left h1)
    go_enter Tryd.func30, Tryd.ntmps30
    go_wp2_with fail
    go_at_call 31
    refine (len_any b t k w H.out).mono ?_
    rintro e w1 ⟨rfl, e1⟩
    rw [e1]
    clear e1 w1
    go_wp2_with fail
    go_ret2
    exact ⟨rfl, rfl⟩
structure AheadI (w wr : World) (b : Nat) (t : T) (k : Nat) (i0 : Nat) (s : T) (i : Nat) (a : Int) (k1 : Nat) : Prop where
  row : RowOf wr b t k1
  tree : TreeAt wr s
  small : s.small
  lo : k ≤ k1
  hi : k1 + s.ht ≤ k + t.ht
  le : i ≤ s.cnt
  cnt : s.cnt ≤ 100000
  zero : 0 ≤ a
  wid : a + s.wid ≤ 100000000000
  eq : T.aheadT t i0 = a + T.aheadT s i
  chg : Chg (fun j => j = b) w wr
set_option maxHeartbeats 2000000 in
set_option maxRecDepth 20000 in
theorem aheadRow_any (b : Nat) (t : T) (k i : Nat) (w : World) (h : RowOf w b t k) (hk : k ≤ 999999000) (hi : i ≤ t.cnt) :
    Calls Tryd.prog 30 #[.pointer (some ⟨b, 0, none⟩), .int .i64 i] w fun e w' =>
      e = .returned (.tuple #[.int .i64 (t.aheadT i), .nilIface]) ∧ ∃ k', RowOf w' b t k' ∧ k ≤ k' ∧ k' ≤ k + t.ht ∧ Chg (fun j => j = b) w w' := by
  have H : Hid (AheadI w w b t k i t i 0 k) := ⟨h, h.tree, h.small, Nat.le_refl _, Nat.le_refl _, hi, h.cnt, Int.le_refl _, by have := (T.wid_le h.small).2; have := h.cnt; omega, by simp, Chg.refl _⟩
  have hw : k + t.ht ≤ 999999990 := by have := h.ht; omega
  have h1 : decide ((i : Int) < 0) = false := decide_eq_false (by omega)
  have h2 : decide ((t.cnt : Int) < (i : Int)) = false := decide_eq_false (by omega)
  have h3 : decide (t.cnt < i) = false := decide_eq_false (by omega)
  have c0 : w.cell? ⟨b, 0, none⟩ = some t.ptr := h.row.cell 0
  clear h hk
  go_enter Tryd.func30, Tryd.ntmps30
  go_wp2_with fail
  go_at_call 31
  refine (len_any b t k w H.out.row).mono ?_
  rintro e w1 ⟨rfl, e1⟩
  rw [e1]
  clear e1 w1
  go_wp2_with fail
  go_loopw [1, 6, 7] (fun s1 s6 s7 wr => ∃ (s : T) (q : Nat) (a : Int) (k1 : Nat), s1 = .int .i64 q ∧ s6 = .int .i64 a ∧ s7 = T.ptr s ∧ Hid (AheadI w wr b t k i s q a k1)) (fun _ _ _ wr => k + t.ht + 1 - (intOf ((wr.cell? ⟨b, 1, none⟩).getD undef)).toNat)
  case atStart => exact ⟨t, i, 0, k, rfl, rfl, rfl, H⟩
  case round =>
    obtain ⟨s, q, a, k1, rfl, rfl, rfl, HI⟩ := hrel
    clear h1 h2 h3 hi c0
    cases s with
    | nil =>
      rw [show T.ptr .nil = .pointer none from rfl]
      have hf : Hid (T.aheadT t i = a) := by have := HI.out.eq; simp only [T.aheadT, Int.add_zero] at this; exact this
      go_wp2_with fail
      go_ret2
      refine ⟨?_, k1, HI.out.row, HI.out.lo, by have := HI.out.hi; simp only [T.ht] at this; omega, HI.out.chg⟩
      rw [hf.out]; rfl
    | node l g x y r =>
      have hms := ht_meas HI.out.row.row
      generalize (intOf ((wr.cell? ⟨b, 1, none⟩).getD undef)).toNat = ms at hms ⊢
      have HM := Lib.hid hms
      clear hms
      have hlo := HI.out.lo
      have hhi : k1 + 1 + max l.ht r.ht ≤ k + t.ht := by have := HI.out.hi; simp only [T.ht] at this; omega
      have hbg : b ≠ g := Blk.ne_ HI.out.row.row HI.out.tree.1 (by decide)
      have hbl : b ∉ l.ads := TreeAt.no_row HI.out.row.row HI.out.tree.2.1
      have hbr : b ∉ r.ads := TreeAt.no_row HI.out.row.row HI.out.tree.2.2
      have hsm := HI.out.small
      have hl := (T.wid_le hsm.1).1
      have hr := (T.wid_le hsm.2.1).1
      have hy := hsm.2.2
      have hcn : 1 + l.cnt + r.cnt ≤ 100000 := HI.out.cnt
      have hq : q ≤ 1 + l.cnt + r.cnt := HI.out.le
      have ha0 := HI.out.zero
      have ha1 : a + (y + l.wid + r.wid) ≤ 100000000000 := HI.out.wid
      clear hsm
      rw [show T.ptr (.node l g x y r) = .pointer (some ⟨g, 0, none⟩) from rfl]
      go_wp2_with fail
      go_at_call 71
      refine (look_any b t.ptr k1 wr HI.out.row.row (by omega)).mono ?_
      rintro e w1 ⟨rfl, hR1, hC1⟩
      have H1 : Hid (RowOf w1 b t (k1 + 1) ∧ RawN w1 g l r x y _ _ _ ∧ TreeAt w1 l ∧ TreeAt w1 r ∧ Chg (fun j => j = b) w w1) :=
        ⟨HI.out.row.with_ hR1 hC1, HI.out.tree.1.keep hC1 (fun e => hbg e.symm), HI.out.tree.2.1.chg hC1 (fun i hi e => hbl (e ▸ hi)), HI.out.tree.2.2.chg hC1 (fun i hi e => hbr (e ▸ hi)), HI.out.chg.trans hC1 (fun _ _ e => e)⟩
      clear hR1 hC1
      have c0 : w1.cell? ⟨g, 0, none⟩ = some l.ptr := H1.out.2.1.cell 0
      have c1 : w1.cell? ⟨g, 1, none⟩ = some r.ptr := H1.out.2.1.cell 1
      have c3 : w1.cell? ⟨g, 3, none⟩ = some (.int .i64 y) := H1.out.2.1.cell 3
      go_wp2_with fail
      go_at_call 73
      refine (count_any l _ H1.out.2.2.1).mono ?_
      rintro e w2 ⟨rfl, e1⟩
      rw [e1]
      clear e1 w2
      have hfe : T.aheadT (.node l g x y r) q = if q ≤ l.cnt then T.aheadT l q else l.wid + y + T.aheadT r (q - (l.cnt + 1)) := rfl
      by_cases hq2 : q ≤ l.cnt
      · have hf : Hid (T.aheadT t i = a + T.aheadT l q) := by
          have := HI.out.eq
          rw [hfe, if_pos hq2] at this
          exact this
        clear hfe
        go_wp2_with fail
        go_roundw
        case rel => exact ⟨l, q, a, k1 + 1, rfl, rfl, rfl, ⟨H1.out.1, H1.out.2.2.1, HI.out.small.1, by omega, by omega, hq2, by omega, ha0, by omega, hf.out, H1.out.2.2.2.2⟩⟩
        case measure => rw [ht_meas H1.out.1.row, HM.out]; omega
      · have hf : Hid (T.aheadT t i = a + (l.wid + y) + T.aheadT r (q - (l.cnt + 1))) := by
          have := HI.out.eq
          rw [hfe, if_neg hq2] at this
          show _ = _
          rw [this]; omega
        clear hfe
        have hq4 : ((q - (l.cnt + 1) : Nat) : Int) = (q : Int) - (l.cnt + 1) := by omega
        have Hq4 := Lib.hid hq4
        clear hq4
        have hm1 : IntKind.i64.wrap (l.wid + y) = l.wid + y := IntWalk.i64_in _ (by omega)
        have hm2 : IntKind.i64.wrap (a + (l.wid + y)) = a + (l.wid + y) := IntWalk.i64_in _ (by omega)
        go_wp2_with fail
        refine wp_region_still_lit (by kernel_rfl) (by kernel_rfl) ?_
        repeat (refine wpStill_want rfl (fun K hK => ?_); go_simp; refine hK _ ?_; clear hK K)
        (refine wpStill_want rfl (fun K hK => ?_); go_simp; refine ⟨_, width_any l _ H1.out.2.2.1.drew_, hK _ ?_⟩; clear hK K)
        repeat (refine wpStill_want rfl (fun K hK => ?_); go_simp; refine hK _ ?_; clear hK K)
        refine wpStill_nil ?_
        change Exit.then _ _ _ _ w1.drew
        have H2 : Hid (RowOf w1.drew b t (k1 + 1) ∧ RawN w1.drew g l r x y _ _ _ ∧ TreeAt w1.drew r ∧ Chg (fun j => j = b) w w1.drew) :=
          ⟨H1.out.1.with_ H1.out.1.row ((Chg.refl _).drew), H1.out.2.1, H1.out.2.2.2.1.drew_, H1.out.2.2.2.2.drew⟩
        generalize w1.drew = w2 at H2 ⊢
        clear hm1 hm2 c0 c1 c3 H1
        have c1 : w2.cell? ⟨g, 1, none⟩ = some r.ptr := H2.out.2.1.cell 1
        go_wp2_with fail
        go_roundw
        case rel => exact ⟨r, q - (l.cnt + 1), a + (l.wid + y), k1 + 1, by rw [Hq4.out], rfl, rfl, ⟨H2.out.1, H2.out.2.2.1, HI.out.small.2.1, by omega, by omega, by omega, by omega, by omega, by omega, hf.out, H2.out.2.2.2⟩⟩
        case measure => rw [ht_meas H2.out.1.row, HM.out]; omega
end Go.Proofs.YtfaihilehdjfjaaDoor
