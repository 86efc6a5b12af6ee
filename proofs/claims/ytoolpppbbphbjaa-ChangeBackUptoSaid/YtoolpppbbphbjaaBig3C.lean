/- Contracts: package commonbookbig: the methods Mul, Add, IsUint64, Uint64. -/
import Derived.Test.YtoolpppbbphbjaaBig2C
import Derived.Deep.DrawnRows
namespace Go.Proofs.Ytoolpppbbphbjaa
open Go.ChangeShapes Go.WideShapes Go.ChangeAt Go.RowKit

attribute [local go_sem ↓] Go.wp_at_zero Go.wp_at_succ
theorem neg_kept {w w1 : World} {x : Nat} (hb : Below w.heap.size w w1) (hx : x < w.heap.size) (h : w.cell? ⟨x, 0, none⟩ = some (.bool false)) : w1.cell? ⟨x, 0, none⟩ = some (.bool false) := (hb.cell (p := ⟨x, 0, none⟩) hx).trans h
end Go.Proofs.Ytoolpppbbphbjaa
