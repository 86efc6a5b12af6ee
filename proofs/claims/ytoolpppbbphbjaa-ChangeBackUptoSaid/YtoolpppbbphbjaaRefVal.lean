/- Contracts: the document's own words on ids and values (package bookref1): Root, Real, Id, Value, Less, Compare. -/
import Derived.Test.YtoolpppbbphbjaaIdV
import Derived.Test.YtoolpppbbphbjaaOrd
namespace Go.Proofs.Ytoolpppbbphbjaa
open Go.ChangeShapes Go.WideShapes Go.ChangeAt Go.RowKit

end Go.Proofs.Ytoolpppbbphbjaa
