/- Contracts: the document's own Less and Compare (package bookref1). -/
import Derived.Test.YtclgfcjcpbiadaaGreatDoorRefVal
set_option linter.unusedVariables false
set_option linter.unusedSimpArgs false
namespace Go.Proofs.YtclgfcjcpbiadaaGreatDoor
open Go.ChangeShapes Go.WideShapes Go.ChangeAt Go.RowKit

/-- is an id ahead of another one? -/
def lessB (a b c d : Int) : Bool := decide (a < c ∨ a = c ∧ b < d)
theorem refLess_any (a b c d : Int) (w : World) : Calls Tryz.prog 77 #[.agg #[.int .i64 a, .int .i64 b], .agg #[.int .i64 c, .int .i64 d]] w fun e w' => e = .returned (.bool (lessB a b c d)) ∧ Below w.heap.size w w' := by
  have hB : Below w.heap.size w ((w.alloc (.cells #[.int .i64 a, .int .i64 b] 82)).alloc (.cells #[.int .i64 c, .int .i64 d] 82)) := ((Below.refl _ w).alloc (Nat.le_refl _) _).alloc (by simp) _
  by_cases h : a = c
  · subst h
    have HV : Hid (lessB a b a d = decide (b < d)) := by show lessB a b a d = _; simp [lessB]
    go_enter Tryz.func77, Tryz.ntmps77
    go_wp2_with fail
    go_ret
    exact ⟨ret_bool HV.out.symm, hB⟩
  · have hd : (a == c) = false := by simpa using h
    have HV : Hid (lessB a b c d = decide (a < c)) := by show lessB a b c d = _; simp [lessB, h]
    go_enter Tryz.func77, Tryz.ntmps77
    go_wp2_with fail
    go_ret
    exact ⟨ret_bool HV.out.symm, hB⟩
theorem cmp2_less (a b c d : Int) : cmp2 a b c d = if lessB a b c d then -1 else if lessB c d a b then 1 else 0 := by
  simp only [cmp2, firstNZ_cons, firstNZ, cmpI, lessB, decide_eq_true_eq]
  split <;> split <;> (try split) <;> (try split) <;> (try split) <;> (try split) <;> omega
end Go.Proofs.YtclgfcjcpbiadaaGreatDoor
