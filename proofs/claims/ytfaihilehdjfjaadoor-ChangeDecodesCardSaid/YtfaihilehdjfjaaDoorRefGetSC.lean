/- The document's answer: GetSigned. -/
import Derived.Test.YtfaihilehdjfjaaDoorRefGetC
namespace Go.Proofs.YtfaihilehdjfjaaDoor
open Go.ChangeShapes Go.WideShapes Go.ChangeAt Go.RowKit

theorem wrap_in {x : Int} (h : -9223372036854775808 ≤ x) (h2 : x ≤ 9223372036854775807) : wrap64 x = x := by
  rw [wrap_i64, Int.emod_eq_of_lt (by omega) (by omega)]; omega
theorem wrap_neg {q : Nat} (h : q < 9223372036854775808) : wrap64 (-(q : Int)) = -(q : Int) := wrap_in (by omega) (by omega)
theorem wrap_neg1 {q : Nat} (h : q < 9223372036854775808) : wrap64 (-(q : Int) - 1) = -(q : Int) - 1 := wrap_in (by omega) (by omega)
def getSRV : Option (Int × Nat) → Value
  | some (m, k) => .tuple #[.int .i64 m, .int .i64 k]
  | none => .tuple #[.int .i64 0, .int .i64 0]

set_option maxRecDepth 20000 in
set_option maxHeartbeats 2000000 in
theorem getSR_any (l : List UInt8) (D : Nat → Prop) (A : Option Addr) (n c : Nat) (hn : l.length = n) (hl : n ≤ 9223372036854775807) (w : World) (hr : Reads D w 1 A n (bytesC l)) (hD : ∀ k, D k → k < w.heap.size) :
    Calls Tryd.prog 76 #[.slice A n c] w fun e w' => e = .returned (getSRV (getS l)) ∧ Below w.heap.size w w' := by
  have HC := Lib.hid (getR_any l D A n c hn hl w hr hD)
  clear hr hD
  cases h : getN l with
  | none =>
    have HS : Hid (getS l = none) := by show getS l = none; simp [getS, h]
    rw [h] at HC
    clear h
    go_enter Tryd.func76, Tryd.ntmps76
    go_wp2_with fail
    refine HC.out.mono ?_
    rintro e w1 ⟨rfl, hb⟩
    simp only [getRV]
    go_wp2_with fail
    go_ret2
    exact ⟨by rw [HS.out]; rfl, hb⟩
  | some x =>
    obtain ⟨m, k⟩ := x
    have HS : Hid (getS l = some (unzz m, k)) := by show getS l = _; simp [getS, h]
    have hm64 := getN_lt h
    have hk1 := (getN_at h).1
    rw [h] at HC
    clear h
    have hk0 : ((k : Int) == 0) = false := by rw [beq_eq_false_iff_ne]; omega
    obtain ⟨q, hq⟩ : ∃ q, q = m / 2 := ⟨_, rfl⟩
    obtain ⟨r, hr⟩ : ∃ r, r = m % 2 := ⟨_, rfl⟩
    have hq1 : (m : Int).tdiv 2 = (q : Int) := by rw [Int.tdiv_eq_ediv_of_nonneg (by omega)]; omega
    have hq2 : (m : Int) / 2 = (q : Int) := by omega
    have hr1 : (m : Int).tmod 2 = (r : Int) := by rw [Int.tmod_eq_emod_of_nonneg (by omega)]; omega
    have hr2 : (m : Int) % 2 = (r : Int) := by omega
    have hq63 : q < 9223372036854775808 := by omega
    have hqw : IntKind.u64.wrap (q : Int) = (q : Int) := u64_keep (by omega)
    have hqi : wrap64 (q : Int) = (q : Int) := by unfold wrap64; omega
    have hqn := wrap_neg hq63
    have hqm := wrap_neg1 hq63
    have HU : Hid (unzz m = if r = 0 then (q : Int) else -(q : Int) - 1) := by show _ = _; rw [unzz, hr, hq]
    have HI := Lib.hid hqi
    have hqall : wrap64 (wrap64 (-wrap64 (q : Int)) - 1) = -(q : Int) - 1 := by rw [hqi, hqn, hqm]
    have HM := Lib.hid hqall
    clear hq hm64 hq63 hqi hqn hqm hqall
    by_cases h0 : r = 0
    · have hr0 : ((r : Int) == 1) = false := by rw [beq_eq_false_iff_ne]; omega
      have HV : Hid (unzz m = (q : Int)) := by have := HU.out; rw [if_pos h0] at this; exact this
      clear h0 hr
      go_enter Tryd.func76, Tryd.ntmps76
      go_wp2_with fail
      refine HC.out.mono ?_
      rintro e w1 ⟨rfl, hb⟩
      simp only [getRV]
      go_wp2_with fail
      go_ret2
      exact ⟨by rw [HS.out, HV.out]; show Ending.returned (.tuple #[.int .i64 (wrap64 (q : Int)), .int .i64 k]) = _; rw [HI.out]; rfl, hb⟩
    · have hr0 : ((r : Int) == 1) = true := by rw [beq_iff_eq]; omega
      have HV : Hid (unzz m = -(q : Int) - 1) := by have := HU.out; rw [if_neg h0] at this; exact this
      clear h0 hr
      go_enter Tryd.func76, Tryd.ntmps76
      go_wp2_with fail
      refine HC.out.mono ?_
      rintro e w1 ⟨rfl, hb⟩
      simp only [getRV]
      go_wp2_with fail
      go_ret2
      exact ⟨by rw [HS.out, HV.out]; show Ending.returned (.tuple #[.int .i64 (wrap64 (wrap64 (-wrap64 (q : Int)) - 1)), .int .i64 k]) = _; rw [HM.out]; rfl, hb⟩
end Go.Proofs.YtfaihilehdjfjaaDoor
