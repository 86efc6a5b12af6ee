/- The document's answer: GetSigned. -/
import Derived.Test.YtoolpppbbphbjaaRefGetC
namespace Go.Proofs.Ytoolpppbbphbjaa
open Go.ChangeShapes Go.WideShapes Go.ChangeAt Go.RowKit

theorem wrap_in {x : Int} (h : -9223372036854775808 ≤ x) (h2 : x ≤ 9223372036854775807) : wrap64 x = x := by
  rw [wrap_i64, Int.emod_eq_of_lt (by omega) (by omega)]; omega
theorem wrap_neg {q : Nat} (h : q < 9223372036854775808) : wrap64 (-(q : Int)) = -(q : Int) := wrap_in (by omega) (by omega)
theorem wrap_neg1 {q : Nat} (h : q < 9223372036854775808) : wrap64 (-(q : Int) - 1) = -(q : Int) - 1 := wrap_in (by omega) (by omega)
def getSRV : Option (Int × Nat) → Value
  | some (m, k) => .tuple #[.int .i64 m, .int .i64 k]
  | none => .tuple #[.int .i64 0, .int .i64 0]

end Go.Proofs.Ytoolpppbbphbjaa
