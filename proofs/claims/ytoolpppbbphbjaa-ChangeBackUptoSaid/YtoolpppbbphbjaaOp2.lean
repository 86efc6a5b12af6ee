/- Contracts: the document's Op: what is wrong with an op. -/
import Derived.Test.YtoolpppbbphbjaaOp1
namespace Go.Proofs.Ytoolpppbbphbjaa
open Go.ChangeShapes Go.WideShapes Go.ChangeAt Go.RowKit

end Go.Proofs.Ytoolpppbbphbjaa
