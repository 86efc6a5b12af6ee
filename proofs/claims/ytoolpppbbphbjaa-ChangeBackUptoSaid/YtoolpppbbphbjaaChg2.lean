/- Contracts: the document's Change: what is wrong with a change. -/
import Derived.Test.YtoolpppbbphbjaaChg1
namespace Go.Proofs.Ytoolpppbbphbjaa
open Go.ChangeShapes Go.WideShapes Go.ChangeAt Go.RowKit

end Go.Proofs.Ytoolpppbbphbjaa
