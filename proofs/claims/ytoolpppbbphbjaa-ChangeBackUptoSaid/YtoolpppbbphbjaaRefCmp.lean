/- Contracts: the document's own Less and Compare (package bookref1). -/
import Derived.Test.YtoolpppbbphbjaaRefVal
namespace Go.Proofs.Ytoolpppbbphbjaa
open Go.ChangeShapes Go.WideShapes Go.ChangeAt Go.RowKit

/-- is an id ahead of another one? -/
def lessB (a b c d : Int) : Bool := decide (a < c ∨ a = c ∧ b < d)
theorem cmp2_less (a b c d : Int) : cmp2 a b c d = if lessB a b c d then -1 else if lessB c d a b then 1 else 0 := by
  simp only [cmp2, firstNZ_cons, firstNZ, cmpI, lessB, decide_eq_true_eq]
  split <;> split <;> (try split) <;> (try split) <;> (try split) <;> (try split) <;> omega
end Go.Proofs.Ytoolpppbbphbjaa
