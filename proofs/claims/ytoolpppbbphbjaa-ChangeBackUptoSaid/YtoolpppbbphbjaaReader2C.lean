/- Contracts: package bytes, the Reader's Signed. -/
import Derived.Test.YtoolpppbbphbjaaReaderC
namespace Go.Proofs.Ytoolpppbbphbjaa
open Go.ChangeShapes Go.WideShapes Go.ChangeAt Go.RowKit

/-- what Signed reads -/
def rdInt (l : List UInt8) (at_ : Nat) (bad : Bool) : Int × Nat × Bool :=
  if bad then (0, at_, true) else
  match getS (l.drop at_) with
  | none => (0, at_, true)
  | some (n, k) => (n, at_ + k, false)

set_option maxHeartbeats 2000000 in
theorem signed_bad (g : Nat) (A : Option Addr) (n c at_ : Nat) (w : World) (hb : RdAt w g A n c at_ true) :
    Calls Try.prog 14 #[.pointer (some ⟨g, 0, none⟩)] w fun e w' => e = .returned (.int .i64 0) ∧ w = w' := by
  have hc2 : w.cell? ⟨g, 2, none⟩ = some (.iface 56 (.int .i64 9)) := hb.cell 2
  clear hb
  go_enter Try.func14, Try.ntmps14
  go_wp2_with fail
  go_ret
  exact ⟨rfl, rfl⟩

theorem getS_at2 {l : List UInt8} {n : Int} {k : Nat} (h : getS l = some (n, k)) : 1 ≤ k ∧ k ≤ l.length := by
  unfold getS at h
  cases hg : getN l with
  | none => rw [hg] at h; cases h
  | some x =>
    obtain ⟨m, k'⟩ := x
    rw [hg] at h
    simp only [Option.map_some, Option.some.injEq, Prod.mk.injEq] at h
    obtain ⟨_, rfl⟩ := h
    exact getN_at hg

set_option maxHeartbeats 2000000 in
theorem signed_ok {l : List UInt8} {g : Nat} {D : Nat → Prop} {A : Option Addr} {c at_ : Nat} (n : Int) (k : Nat) {w : World} (hr : RdW w g D A l c at_ false) (h : Hid (getS (l.drop at_) = some (n, k))) :
    Calls Try.prog 14 #[.pointer (some ⟨g, 0, none⟩)] w fun e w' => e = .returned (.int .i64 n) ∧ RdAt w' g A l.length c (at_ + k) false ∧ Chg (fun k => k = g) w w' := by
  obtain ⟨hb, hrd, hg, hat, hc, hl⟩ := hr
  have hc0 : w.cell? ⟨g, 0, none⟩ = some (.slice A l.length c) := hb.cell 0
  have hc1 : w.cell? ⟨g, 1, none⟩ = some (.int .i64 at_) := hb.cell 1
  have hc2 : w.cell? ⟨g, 2, none⟩ = some .nilIface := hb.cell 2
  have hf1 := hb.frozen 1
  have HB := Lib.hid hb
  have C := getS_at hrd hat hc hl
  rw [h.out] at C
  simp only [getSV] at C
  have hk : k ≤ l.length - at_ := by have := (getS_at2 h.out).2; simpa using this
  clear hb hrd hg h
  go_enter Try.func14, Try.ntmps14
  go_wp2_with fail
  go_quiet ((go_at_call 22; exact Calls.quiet_of_same (C.out _)))
  go_wp2_with fail
  all_goals
    try (have h3 : c = at_ := by assumption
         rw [h3] at HB)
    go_ret
    refine ⟨rfl, ?_, ?_⟩
    · exact (HB.out.drewN nq).step k
    · exact ((Chg.refl w).drewN_ nq).put1 1 _

set_option maxHeartbeats 2000000 in
theorem signed_no {l : List UInt8} {g : Nat} {D : Nat → Prop} {A : Option Addr} {c at_ : Nat} {w : World} (hr : RdW w g D A l c at_ false)
    (h : Hid (getS (l.drop at_) = none)) :
    Calls Try.prog 14 #[.pointer (some ⟨g, 0, none⟩)] w fun e w' => e = .returned (.int .i64 0) ∧ RdAt w' g A l.length c at_ true ∧ Chg (fun k => k = g) w w' := by
  obtain ⟨hb, hrd, hg, hat, hc, hl⟩ := hr
  have hc0 : w.cell? ⟨g, 0, none⟩ = some (.slice A l.length c) := hb.cell 0
  have hc1 : w.cell? ⟨g, 1, none⟩ = some (.int .i64 at_) := hb.cell 1
  have hc2 : w.cell? ⟨g, 2, none⟩ = some .nilIface := hb.cell 2
  have HB := Lib.hid hb
  have C := getS_at hrd hat hc hl
  rw [h.out] at C
  simp only [getSV] at C
  clear hb hrd hg h
  go_enter Try.func14, Try.ntmps14
  go_wp2_with fail
  go_quiet ((go_at_call 22; exact Calls.quiet_of_same (C.out _)))
  go_wp2_with fail
  all_goals
    try (have h3 : c = at_ := by assumption
         rw [h3] at HB)
    refine (fail_any _ _ _ _ _ _ _ (HB.out.drewN nq)).mono ?_
    rintro e w1 ⟨rfl, hb1, hch⟩
    have HB1 := Lib.hid hb1
    clear hb1
    go_wp2_with fail
    go_ret
    refine ⟨rfl, ?_, ((Chg.refl w).drewN_ nq).trans hch (fun _ _ h => h)⟩
    first | exact HB1.out | (rw [show c = at_ by assumption]; exact HB1.out)

/-- Signed, whatever stands there -/
theorem signed_any {l : List UInt8} {g : Nat} {D : Nat → Prop} {A : Option Addr} {c at_ : Nat} {bad : Bool} {w : World} (hr : RdW w g D A l c at_ bad) (hD : ∀ k, D k → k < w.heap.size) :
    Calls Try.prog 14 #[.pointer (some ⟨g, 0, none⟩)] w fun e w' =>
      e = .returned (.int .i64 (rdInt l at_ bad).1) ∧ RdW w' g D A l c (rdInt l at_ bad).2.1 (rdInt l at_ bad).2.2 ∧ Chg (fun k => k = g) w w' := by
  cases bad with
  | true => exact (signed_bad g A l.length c at_ w hr.blk).mono fun e w' ⟨he, hw⟩ => by subst hw; exact ⟨he, hr, Chg.refl w⟩
  | false =>
    cases h : getS (l.drop at_) with
    | none =>
      have e : rdInt l at_ false = (0, at_, true) := by simp [rdInt, h]
      rw [e]
      exact (signed_no hr (Lib.hid h)).mono fun e w' ⟨he, hb, hc⟩ => ⟨he, hr.next hb hc hD hr.le, hc⟩
    | some x =>
      obtain ⟨n, k⟩ := x
      have e : rdInt l at_ false = (n, at_ + k, false) := by simp [rdInt, h]
      rw [e]
      have hk := (getS_at2 h).2
      simp only [List.length_drop] at hk
      exact (signed_ok n k hr (Lib.hid h)).mono fun e w' ⟨he, hb, hc⟩ => ⟨he, hr.next hb hc hD (by have := hr.le; show at_ + k ≤ l.length; omega), hc⟩

theorem rdInt_bd {l : List UInt8} {at_ : Nat} {bad : Bool} : -9223372036854775808 ≤ (rdInt l at_ bad).1 ∧ (rdInt l at_ bad).1 ≤ 9223372036854775807 := by
  unfold rdInt
  split
  · simp
  · cases h : getS (l.drop at_) with
    | none => simp
    | some x =>
      obtain ⟨n, k⟩ := x
      unfold getS at h
      cases hg : getN (l.drop at_) with
      | none => rw [hg] at h; cases h
      | some y =>
        obtain ⟨m, k'⟩ := y
        rw [hg] at h
        simp only [Option.map_some, Option.some.injEq, Prod.mk.injEq] at h
        obtain ⟨rfl, _⟩ := h
        exact unzz_bd (getN_lt hg)
theorem rdNum_le {l : List UInt8} {most at_ : Nat} {bad : Bool} : (rdNum l most at_ bad).1 ≤ most := by
  unfold rdNum
  split
  · simp
  · split
    · simp
    · split
      · assumption
      · simp
end Go.Proofs.Ytoolpppbbphbjaa
