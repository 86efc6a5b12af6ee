/- Contracts: package tree: a thing of a row told, and taken out. -/
import Derived.Test.YtfaihilehdjfjaaDoorTree10
import Derived.OwnWalk
namespace Go.Proofs.YtfaihilehdjfjaaDoor
open Go.ChangeShapes Go.WideShapes Go.ChangeAt Go.RowKit

/-- two numbers and no error, or an error and none -/
def outV (x y : Int) : Value := .tuple #[.int .i64 x, .int .i64 y, .nilIface]
def badV (k : Int) : Value := .tuple #[.int .i64 0, .int .i64 0, .iface 80 (.int .i64 k)]
theorem getRow_bad (b : Nat) (t : T) (k : Nat) (i : Int) (w : World) (h : RowOf w b t k) (hi : i < 0 ∨ t.cnt ≤ i) :
    Calls Tryd.prog 27 #[.pointer (some ⟨b, 0, none⟩), .int .i64 i] w fun e w' => e = .returned (badV 1) ∧ w' = w := by
  have H : Hid (RowOf w b t k) := h
  clear h
  by_cases h1 : i < 0
  · have h1' : decide (i < 0) = true := decide_eq_true h1
    go_enter Tryd.func27, Tryd.ntmps27
    go_wp2_with fail
    go_ret3
    exact ⟨rfl, rfl⟩
  · have h1' : decide (i < 0) = false := decide_eq_false h1
    have h2 : decide ((t.cnt : Int) ≤ i) = true := decide_eq_true (hi.resolve_left h1)
    go_enter Tryd.func27, Tryd.ntmps27
    go_wp2_with fail
    go_at_call 31
    refine (len_any b t k w H.out).mono ?_
    rintro e w1 ⟨rfl, e1⟩
    rw [e1]
    clear e1 w1
    go_wp2_with fail
    go_ret3
    exact ⟨rfl, rfl⟩
set_option maxHeartbeats 2000000 in
set_option maxRecDepth 20000 in
theorem getRow_any (b : Nat) (t : T) (k i : Nat) (w : World) (h : RowOf w b t k) (hk : k ≤ 999999000) (hi : i < t.cnt) :
    Calls Tryd.prog 27 #[.pointer (some ⟨b, 0, none⟩), .int .i64 i] w fun e w' =>
      e = .returned (outV (t.getT i).2.1 (t.getT i).2.2) ∧ ∃ k', RowOf w' b t k' ∧ k ≤ k' ∧ k' ≤ k + t.ht ∧ Chg (fun j => j = b) w w' := by
  have H : Hid (RowOf w b t k) := h
  have hw : k + t.ht ≤ 999999990 := by have := h.ht; omega
  have h2 : decide ((t.cnt : Int) ≤ (i : Int)) = false := decide_eq_false (by omega)
  have c0 : w.cell? ⟨b, 0, none⟩ = some t.ptr := h.row.cell 0
  have WA := way_any t i b t.ptr k w h.row hw h.tree hi (by have := h.cnt; omega)
  clear h
  go_enter Tryd.func27, Tryd.ntmps27
  go_wp2_with fail
  go_at_call 31
  refine (len_any b t k w H.out).mono ?_
  rintro e w1 ⟨rfl, e1⟩
  rw [e1]
  clear e1 w1
  go_wp2_with fail
  go_at_call 67
  refine WA.mono ?_
  rintro e w1 ⟨rfl, hT1, ⟨k1, hR1, hk1, hk1'⟩, hC1⟩
  obtain ⟨l2, r2, h2', m2, s2, hG⟩ := hT1.raw hi
  have H1 : Hid (RowOf w1 b t k1 ∧ Chg (fun j => j = b) w w1) := ⟨H.out.with_ hR1 hC1, hC1⟩
  have c2 : w1.cell? ⟨(t.getT i).1, 2, none⟩ = some (.int .i64 (t.getT i).2.1) := hG.cell 2
  have c3 : w1.cell? ⟨(t.getT i).1, 3, none⟩ = some (.int .i64 (t.getT i).2.2) := hG.cell 3
  clear hG hT1 hR1 hC1 c0
  go_wp2_with fail
  refine wp_region_still_lit (by kernel_rfl) (by kernel_rfl) ?_
  repeat (refine wpStill_want rfl (fun K hK => ?_); go_simp; refine hK _ ?_; clear hK K)
  refine wpStill_nil ?_
  change Exit.then _ _ _ _ w1.drew
  go_wp2_with fail
  go_ret3
  exact ⟨rfl, k1, H1.out.1.with_ H1.out.1.row ((Chg.refl _).drew), hk1, hk1', H1.out.2.drew⟩
theorem removeRow_bad (b : Nat) (t : T) (k : Nat) (i : Int) (w : World) (h : RowOf w b t k) (hi : i < 0 ∨ t.cnt ≤ i) :
    Calls Tryd.prog 25 #[.pointer (some ⟨b, 0, none⟩), .int .i64 i] w fun e w' => e = .returned (badV 1) ∧ w' = w := by
  have H : Hid (RowOf w b t k) := h
  clear h
  by_cases h1 : i < 0
  · have h1' : decide (i < 0) = true := decide_eq_true h1
    go_enter Tryd.func25, Tryd.ntmps25
    go_wp2_with fail
    go_ret3
    exact ⟨rfl, rfl⟩
  · have h1' : decide (i < 0) = false := decide_eq_false h1
    have h2 : decide ((t.cnt : Int) ≤ i) = true := decide_eq_true (hi.resolve_left h1)
    go_enter Tryd.func25, Tryd.ntmps25
    go_wp2_with fail
    go_at_call 31
    refine (len_any b t k w H.out).mono ?_
    rintro e w1 ⟨rfl, e1⟩
    rw [e1]
    clear e1 w1
    go_wp2_with fail
    go_ret3
    exact ⟨rfl, rfl⟩
set_option maxHeartbeats 2000000 in
set_option maxRecDepth 20000 in
theorem removeRow_any (b : Nat) (t : T) (k i : Nat) (w : World) (h : RowOf w b t k) (hk : k ≤ 999999000) (hi : i < t.cnt) :
    Calls Tryd.prog 25 #[.pointer (some ⟨b, 0, none⟩), .int .i64 i] w fun e w' =>
      e = .returned (outV (t.remT i).2.2.1 (t.remT i).2.2.2) ∧ ∃ k', RowOf w' b (t.remT i).1 k' ∧ k ≤ k' ∧ k' ≤ k + 3 * t.ht ∧ Chg (fun j => j = b ∨ j ∈ t.ads) w w' := by
  have H : Hid (RowOf w b t k) := h
  have hw : k + 3 * t.ht ≤ 999999990 := by have := h.ht; omega
  have h2 : decide ((t.cnt : Int) ≤ (i : Int)) = false := decide_eq_false (by omega)
  have c0 : w.cell? ⟨b, 0, none⟩ = some t.ptr := h.row.cell 0
  have hbt : b ∉ t.ads := TreeAt.no_row h.row h.tree
  have RA := remove_any t i b t.ptr k w h.row hw h.tree h.nd h.small hi (by have := h.cnt; omega)
  obtain ⟨hsp, hpp⟩ := T.rem_spec t i hi
  have hbn : b ∉ (t.remT i).1.ads := fun e => hbt (hpp.mem_iff.mpr (List.mem_cons_of_mem _ e))
  have hbg : b ≠ (t.remT i).2.1 := fun e => hbt (hpp.mem_iff.mpr (by rw [e]; exact List.mem_cons_self))
  have HN : Hid ((t.remT i).1.ads.Nodup ∧ (t.remT i).1.small ∧ (t.remT i).1.avl ∧ (t.remT i).1.cnt ≤ 100000) :=
    ⟨(List.nodup_cons.mp (hpp.nodup_iff.mp h.nd)).2, T.small_rem h.small hi, (T.rem_avl t i hi h.avl).1, by have := T.rem_cnt hi; have := h.cnt; omega⟩
  clear h hsp hpp
  obtain ⟨u, hu⟩ := T.ptr_pointer t
  rw [hu] at RA c0
  obtain ⟨v, hv⟩ := T.ptr_pointer (t.remT i).1
  generalize hF : t.remT i = F at *
  obtain ⟨F1, f, fx, fy⟩ := F
  dsimp only at *
  rw [hv] at RA
  go_enter Tryd.func25, Tryd.ntmps25
  go_wp2_with fail
  go_at_call 31
  refine (len_any b t k w H.out).mono ?_
  rintro e w1 ⟨rfl, e1⟩
  rw [e1]
  clear e1 w1
  go_wp2_with fail
  go_at_call 66
  refine RA.mono ?_
  rintro e w1 ⟨rfl, hT1, ⟨l2, r2, h2', m2, s2, hG⟩, ⟨k1, hR1, hk1, hk1'⟩, hC1⟩
  have H1 : Hid (RowAt w1 b (.pointer u) k1 ∧ TreeAt w1 F1 ∧ RawN w1 f l2 r2 fx fy h2' m2 s2 ∧ Chg (fun j => j = b ∨ j ∈ t.ads) w w1) := ⟨hR1, hT1, hG, hC1⟩
  clear c0
  have c0 : w1.cell? ⟨b, 0, none⟩ = some (.pointer u) := hR1.cell 0
  have f0 : w1.frozen? ⟨b, 0, none⟩ = false := hR1.frozen 0
  clear hG hT1 hR1 hC1
  go_wp2_with fail
  have hC2 : Chg (fun j => j = b) w1 (w1.setCell ⟨b, 0, none⟩ (.pointer v)) := Chg.put b 0 _
  have H2 : Hid (RowAt (w1.setCell ⟨b, 0, none⟩ (.pointer v)) b F1.ptr k1 ∧ TreeAt (w1.setCell ⟨b, 0, none⟩ (.pointer v)) F1 ∧ RawN (w1.setCell ⟨b, 0, none⟩ (.pointer v)) f l2 r2 fx fy h2' m2 s2 ∧ Chg (fun j => j = b ∨ j ∈ t.ads) w (w1.setCell ⟨b, 0, none⟩ (.pointer v))) :=
    ⟨by rw [hv]; have := Blk.set_ H1.out.1 0 (.pointer v); simpa [RowAt] using this, H1.out.2.1.put hbn _ _, H1.out.2.2.1.keep hC2 (fun e => hbg e.symm), H1.out.2.2.2.trans hC2 (fun _ _ e => .inl e)⟩
  generalize w1.setCell ⟨b, 0, none⟩ (.pointer v) = w2 at H2 ⊢
  clear c0 f0 hC2 H1
  have c2 : w2.cell? ⟨f, 2, none⟩ = some (.int .i64 fx) := H2.out.2.2.1.cell 2
  have c3 : w2.cell? ⟨f, 3, none⟩ = some (.int .i64 fy) := H2.out.2.2.1.cell 3
  refine wp_region_still_lit (by kernel_rfl) (by kernel_rfl) ?_
  repeat (refine wpStill_want rfl (fun K hK => ?_); go_simp; refine hK _ ?_; clear hK K)
  refine wpStill_nil ?_
  change Exit.then _ _ _ _ w2.drew
  go_wp2_with fail
  go_ret3
  exact ⟨rfl, k1, ⟨H2.out.1, H2.out.2.1.drew_, HN.out.1, HN.out.2.1, HN.out.2.2.1, HN.out.2.2.2⟩, hk1, hk1', H2.out.2.2.2.drew⟩
end Go.Proofs.YtfaihilehdjfjaaDoor
