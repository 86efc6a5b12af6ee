/- Contracts: the program's writer: numbers, a text. -/
import Derived.Test.YtclgfcjcpbiadaaGreatDoorM1
import Derived.Test.YtclgfcjcpbiadaaGreatDoorAppS
import Derived.Deep.RegionHeld3
import Derived.Deep.RegionWith
set_option linter.unusedVariables false
set_option linter.unusedSimpArgs false
namespace Go.Proofs.YtclgfcjcpbiadaaGreatDoor
open Go.ChangeShapes Go.WideShapes Go.ChangeAt Go.RowKit

/-- a growing slice of the call's own that lies in a cell: of what was there only its block and the cell may have turned -/
def WEvo (w : World) (g : Nat) (o : Option Nat) (w' : World) (o' : Option Nat) : Prop := Chg (fun k => k = g ∨ o = some k) w w' ∧ (o' = o ∨ ∃ h, o' = some h ∧ w.heap.size ≤ h)
theorem WEvo.refl (w : World) (g : Nat) (o : Option Nat) : WEvo w g o w o := ⟨Chg.refl w, .inl rfl⟩
theorem WEvo.trans {a b c : World} {g : Nat} {o o' o'' : Option Nat} (h : WEvo a g o b o') (k : WEvo b g o' c o'') : WEvo a g o c o'' := by
  refine ⟨h.1.trans k.1 fun i hi hm => ?_, ?_⟩
  · rcases hm with hm | hm
    · exact .inl hm
    · rcases h.2 with e | ⟨x, e, hx⟩
      · exact .inr (by rw [← e]; exact hm)
      · rw [e] at hm; injection hm with hm; omega
  · rcases k.2 with e | ⟨x, e, hx⟩
    · rw [e]; exact h.2
    · exact .inr ⟨x, e, Nat.le_trans h.1.size hx⟩
theorem WEvo.of_below {w w' : World} {g : Nat} {o : Option Nat} (h : Below w.heap.size w w') : WEvo w g o w' o := ⟨Chg.of_below h, .inl rfl⟩
theorem WEvo.of_evo {w w' : World} {g : Nat} {o o' : Option Nat} (h : Evo w o w' o') : WEvo w g o w' o' :=
  ⟨⟨h.os, h.tape, h.output, h.size, fun k hk hn => h.block k hk fun e => hn (.inr e)⟩, h.lies⟩
theorem WEvo.set_ {a w : World} {g : Nat} {o o' : Option Nat} (h : WEvo a g o w o') (i : Nat) (u : Value) : WEvo a g o (w.setCell ⟨g, i, none⟩ u) o' := ⟨h.1.setCell (p := ⟨g, i, none⟩) (.inl (.inl rfl)) u, h.2⟩
theorem WEvo.drew {a w : World} {g : Nat} {o o' : Option Nat} (h : WEvo a g o w o') : WEvo a g o w.drew o' := ⟨h.1.drew, h.2⟩
theorem WEvo.alloc {a w : World} {g : Nat} {o o' : Option Nat} (h : WEvo a g o w o') (ob : Obj) : WEvo a g o (w.alloc ob) o' := ⟨h.1.alloc ob, h.2⟩
theorem WEvo.block {w w' : World} {g : Nat} {o o' : Option Nat} (h : WEvo w g o w' o') {k : Nat} (hk : k < w.heap.size) (h1 : k ≠ g) (h2 : o ≠ some k) : w'.heap[k]? = w.heap[k]? := h.1.block k hk (by rintro (e | e); exact h1 e; exact h2 e)
end Go.Proofs.YtclgfcjcpbiadaaGreatDoor

namespace Go.Proofs.YtclgfcjcpbiadaaGreatDoor
open Go.ChangeShapes Go.WideShapes Go.ChangeAt Go.RowKit

theorem reads_newC (wr : World) (t : TypeId) (l : List Value) (n : Nat) (hn : l.length = n) (cs : Array Value) (hcs : cs.toList = l) (H : Nat) (hH : wr.heap.size = H) : Reads (fun k => k = H) (wr.alloc (.cells cs t)) 1 (some ⟨H, 0, none⟩) n l := by
  subst hH hn
  refine ⟨by simp, fun _ => ⟨_, rfl, rfl, fun j u hu => ?_⟩⟩
  have e : ((⟨wr.heap.size, 0, none⟩ : Addr).add j) = ⟨wr.heap.size, j, none⟩ := by unfold Addr.add; split <;> simp_all
  have hb : (wr.alloc (.cells cs t)).heap[wr.heap.size]? = some (.cells cs t) := heap_alloc_new wr _
  rw [e, cell_of_row _ _ j _ _ _ hb, ← hu, ← hcs]
  simp
end Go.Proofs.YtclgfcjcpbiadaaGreatDoor
