/- Contracts: package commonbookbig: add, mul. -/
import Derived.Test.YtoolpppbbphbjaaBigQ
import Derived.Test.YtoolpppbbphbjaaBig1
import Derived.Test.YtoolpppbbphbjaaBytes2
namespace Go.Proofs.Ytoolpppbbphbjaa
open Go.ChangeShapes Go.WideShapes Go.ChangeAt Go.RowKit

theorem infoWord : (Try.prog.info? 87).map (fun i => (i.zero, i.size, i.bytes)) = some (some (.int .u32 0), 1, 4) := by kernel_rfl
theorem kwrap' {x : Int} (h : -9223372036854775808 ≤ x) (h2 : x < 9223372036854775808) : IntKind.i64.wrap x = x := by
  simp [IntKind.wrap, IntKind.bits, IntKind.signed]; omega
end Go.Proofs.Ytoolpppbbphbjaa
