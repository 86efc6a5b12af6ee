/- Contracts: package commonbookbig: trim, words, give, NewInt. -/
import Derived.Test.YtoolpppbbphbjaaBigP
import Derived.Test.YtoolpppbbphbjaaBytes0
namespace Go.Proofs.Ytoolpppbbphbjaa
open Go.ChangeShapes Go.WideShapes Go.ChangeAt Go.RowKit

theorem reads_wd {l : List Nat} (hok : okW l) {D : Nat → Prop} {A : Option Addr} {n : Nat} {w : World} (hn : l.length = n) (hr : Reads D w 1 A n (u32C l)) : Reads D w 1 A (wd (valW l)).length (u32C (wd (valW l))) := by
  obtain ⟨h1, h2⟩ := wd_take hok
  have := hr.take (k := (wd (valW l)).length) (by omega)
  rw [Nat.mul_one, ← u32C_take, ← h2] at this
  exact this
theorem reads_newW (wr : World) (t : TypeId) (l : List Nat) (n : Nat) (hn : l.length = n) (cs : Array Value) (hcs : cs.toList = u32C l) (H : Nat) (hH : wr.heap.size = H) : Reads (fun k => k = H) (wr.alloc (.cells cs t)) 1 (some ⟨H, 0, none⟩) n (u32C l) := by
  subst hH hn
  refine ⟨by simp [u32C], fun _ => ⟨_, rfl, rfl, fun j u hu => ?_⟩⟩
  have e : ((⟨wr.heap.size, 0, none⟩ : Addr).add j) = ⟨wr.heap.size, j, none⟩ := by unfold Addr.add; split <;> simp_all
  have hb : (wr.alloc (.cells cs t)).heap[wr.heap.size]? = some (.cells cs t) := heap_alloc_new wr _
  rw [e, cell_of_row _ _ j _ _ _ hb, ← hu, ← hcs]
  simp

end Go.Proofs.Ytoolpppbbphbjaa
