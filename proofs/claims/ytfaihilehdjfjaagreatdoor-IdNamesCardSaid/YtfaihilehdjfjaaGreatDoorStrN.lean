/- The document's answer: Quote, Unquote. -/
import Derived.Test.YtfaihilehdjfjaaGreatDoorBytes0
import Derived.OwnWalk
namespace Go.Proofs.YtfaihilehdjfjaaGreatDoor
open Go.ChangeShapes Go.WideShapes Go.ChangeAt Go.RowKit

theorem str_at {l : List UInt8} {k : Nat} {c : UInt8} (h : l[k]? = some c) (h' : k < (⟨l.toArray⟩ : ByteArray).size) : (⟨l.toArray⟩ : ByteArray)[k]'h' = c := by
  obtain ⟨hlt, rfl⟩ := List.getElem?_eq_some_iff.1 h
  rfl
theorem reads_newL (wr : World) (t : TypeId) (l : List UInt8) (n : Nat) (hn : l.length = n) (cs : Array Value) (hcs : cs.toList = bytesC l) (H : Nat) (hH : wr.heap.size = H) : Reads (fun k => k = H) (wr.alloc (.cells cs t)) 1 (some ⟨H, 0, none⟩) n (bytesC l) := by
  subst hH hn
  refine ⟨by simp [bytesC], fun _ => ⟨_, rfl, rfl, fun j u hu => ?_⟩⟩
  have e : ((⟨wr.heap.size, 0, none⟩ : Addr).add j) = ⟨wr.heap.size, j, none⟩ := by unfold Addr.add; split <;> simp_all
  have hb : (wr.alloc (.cells cs t)).heap[wr.heap.size]? = some (.cells cs t) := heap_alloc_new wr _
  rw [e, cell_of_row _ _ j _ _ _ hb, ← hu, ← hcs]
  simp

end Go.Proofs.YtfaihilehdjfjaaGreatDoor
