/- Contracts: package commonbookbig: the methods Add, IsUint64, Uint64. -/
import Derived.Test.YtoolpppbbphbjaaBig3C
import Derived.Deep.DrawnRows
namespace Go.Proofs.Ytoolpppbbphbjaa
open Go.ChangeShapes Go.WideShapes Go.ChangeAt Go.RowKit
attribute [local go_sem ↓] Go.wp_at_zero Go.wp_at_succ

end Go.Proofs.Ytoolpppbbphbjaa
