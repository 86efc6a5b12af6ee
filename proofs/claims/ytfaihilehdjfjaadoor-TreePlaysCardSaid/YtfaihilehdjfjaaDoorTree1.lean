/- Contracts: package tree: what a node tells, and adds up anew. -/
import Derived.Test.YtfaihilehdjfjaaDoorTreeP
import Derived.Test.YtfaihilehdjfjaaDoorBytes0
import Derived.Test.YtfaihilehdjfjaaDoorStep
import Derived.Deep.DrawnRows
namespace Go.Proofs.YtfaihilehdjfjaaDoor
open Go.ChangeShapes Go.WideShapes Go.ChangeAt Go.RowKit

def T.ptr : T → Value
  | .nil => .pointer none
  | .node _ g _ _ _ => .pointer (some ⟨g, 0, none⟩)
theorem T.ptr_pointer (t : T) : ∃ u, t.ptr = .pointer u := by cases t <;> exact ⟨_, rfl⟩
def cellsN (l r : T) (x y h m a : Int) : Array Value := #[l.ptr, r.ptr, .int .i64 x, .int .i64 y, .int .i64 h, .int .i64 m, .int .i64 a]
def RawN (w : World) (g : Nat) (l r : T) (x y h m a : Int) : Prop := Blk w g 106 (cellsN l r x y h m a)
/-- a tree that lies in a world -/
def TreeAt (w : World) : T → Prop
  | .nil => True
  | .node l g x y r => RawN w g l r x y (T.ht (.node l g x y r)) (T.cnt (.node l g x y r)) (T.wid (.node l g x y r)) ∧ TreeAt w l ∧ TreeAt w r
theorem TreeAt.keep {w w' : World} : ∀ {t : T}, TreeAt w t → (∀ g ∈ t.ads, w'.heap[g]? = w.heap[g]?) → TreeAt w' t
  | .nil, _, _ => trivial
  | .node l g x y r, h, hk => ⟨Blk.keep h.1 (hk g (by simp [T.ads])), TreeAt.keep h.2.1 fun k hk' => hk k (by simp [T.ads, hk']), TreeAt.keep h.2.2 fun k hk' => hk k (by simp [T.ads, hk'])⟩
theorem TreeAt.lt {w : World} : ∀ {t : T}, TreeAt w t → ∀ g ∈ t.ads, g < w.heap.size
  | .nil, _, g, hg => by simp [T.ads] at hg
  | .node l k x y r, h, g, hg => by
    simp only [T.ads, List.mem_cons, List.mem_append] at hg
    rcases hg with rfl | hg | hg
    · exact Blk.lt h.1
    · exact TreeAt.lt h.2.1 g hg
    · exact TreeAt.lt h.2.2 g hg
/-- small trees: no number runs over -/
def T.small : T → Prop
  | .nil => True
  | .node l _ _ y r => T.small l ∧ T.small r ∧ 0 ≤ y ∧ y ≤ 1000000
theorem T.wid_le : ∀ {t : T}, t.small → 0 ≤ t.wid ∧ t.wid ≤ 1000000 * (t.cnt : Int)
  | .nil, _ => by simp [T.wid, T.cnt]
  | .node l _ _ y r, h => by
    have := T.wid_le h.1; have := T.wid_le h.2.1; have := h.2.2
    simp only [T.wid, T.cnt]
    omega

theorem height_any (t : T) (w : World) (h : TreeAt w t) : Calls Tryd.prog 111 #[t.ptr] w fun e w' => e = .returned (.int .i64 t.ht) ∧ w' = w := by
  cases t with
  | nil =>
    simp only [T.ptr]
    go_enter Tryd.func111, Tryd.ntmps111
    go_wp2
    go_ret
    exact ⟨rfl, rfl⟩
  | node l g x y r =>
    have hc : w.cell? ⟨g, 4, none⟩ = some (.int .i64 (T.ht (.node l g x y r))) := Blk.cell h.1 4
    generalize T.ht (.node l g x y r) = n at hc ⊢
    simp only [T.ptr]
    clear h
    go_enter Tryd.func111, Tryd.ntmps111
    go_wp2
    go_ret
    exact ⟨rfl, rfl⟩
theorem count_any (t : T) (w : World) (h : TreeAt w t) : Calls Tryd.prog 73 #[t.ptr] w fun e w' => e = .returned (.int .i64 t.cnt) ∧ w' = w := by
  cases t with
  | nil =>
    simp only [T.ptr]
    go_enter Tryd.func73, Tryd.ntmps73
    go_wp2
    go_ret
    exact ⟨rfl, rfl⟩
  | node l g x y r =>
    have hc : w.cell? ⟨g, 5, none⟩ = some (.int .i64 (T.cnt (.node l g x y r))) := Blk.cell h.1 5
    generalize T.cnt (.node l g x y r) = n at hc ⊢
    simp only [T.ptr]
    clear h
    go_enter Tryd.func73, Tryd.ntmps73
    go_wp2
    go_ret
    exact ⟨rfl, rfl⟩
theorem width_any (t : T) (w : World) (h : TreeAt w t) : Calls Tryd.prog 72 #[t.ptr] w fun e w' => e = .returned (.int .i64 t.wid) ∧ w' = w := by
  cases t with
  | nil =>
    simp only [T.ptr]
    go_enter Tryd.func72, Tryd.ntmps72
    go_wp2
    go_ret
    exact ⟨rfl, rfl⟩
  | node l g x y r =>
    have hc : w.cell? ⟨g, 6, none⟩ = some (.int .i64 (T.wid (.node l g x y r))) := Blk.cell h.1 6
    generalize T.wid (.node l g x y r) = n at hc ⊢
    simp only [T.ptr]
    clear h
    go_enter Tryd.func72, Tryd.ntmps72
    go_wp2
    go_ret
    exact ⟨rfl, rfl⟩

theorem Chg.put_ {a w : World} {g : Nat} (h : Chg (fun k => k = g) a w) (i : Nat) (u : Value) : Chg (fun k => k = g) a (w.setCell ⟨g, i, none⟩ u) := h.setCell (p := ⟨g, i, none⟩) (.inl rfl) u
/-- a row's two cells -/
def RowAt (w : World) (b : Nat) (t : Value) (k : Nat) : Prop := Blk w b 103 #[t, .int .i64 k]
theorem look_any (b : Nat) (t : Value) (k : Nat) (w : World) (h : RowAt w b t k) (hk : k ≤ 1000000000) :
    Calls Tryd.prog 71 #[.pointer (some ⟨b, 0, none⟩)] w fun e w' => e = .returned (.tuple #[]) ∧ RowAt w' b t (k + 1) ∧ Chg (fun j => j = b) w w' := by
  have hc : w.cell? ⟨b, 1, none⟩ = some (.int .i64 k) := h.cell 1
  have hf := h.frozen 1
  have H := Lib.hid h
  clear h
  go_enter Tryd.func71, Tryd.ntmps71
  go_wp2
  go_end0
  refine ⟨rfl, ?_, (Chg.refl w).put_ 1 _⟩
  have := Blk.set_ H.out 1 (.int .i64 ((k : Int) + 1))
  simpa [RowAt] using this
end Go.Proofs.YtfaihilehdjfjaaDoor
