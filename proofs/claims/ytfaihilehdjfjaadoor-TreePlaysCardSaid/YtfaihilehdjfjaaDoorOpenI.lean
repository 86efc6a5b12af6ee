/- An argument that is a slice of slices of numbers, opened to plain lists. -/
import Derived.Test.YtfaihilehdjfjaaDoorOpenS
import Derived.Test.YtfaihilehdjfjaaDoorBytes0
import Derived.ChangeSlices
namespace Go.Proofs.YtfaihilehdjfjaaDoor
open Go.ChangeShapes Go.WideShapes Go.ChangeAt Go.RowKit Go.Deep

/-- a row of numbers as it lies: where, how many it has room for, its numbers -/
abbrev RowV := Option Addr × Nat × List Int
def RowV.val (a : RowV) : Value := .slice a.1 a.2.2.length a.2.1
def RowV.ok (w : World) (a : RowV) : Prop := a.2.2.length ≤ a.2.1 ∧ a.2.1 ≤ maxLen ∧ Reads (· < w.heap.size) w 1 a.1 a.2.2.length (intsC a.2.2) ∧ ∀ x ∈ a.2.2, (Lit.int .i64 x).wf = true
section
variable {H : Type} {enc : TypeId × Value → H} {P : Program} {w : World} {base : Nat} {spare : Nat → Bool} {held : Bool}
theorem trod_row {t e : TypeId} (ht : P.underlying t = some (.slice e)) (he : P.underlying e = some (.int .i64)) (hc : P.cellsOf e = 1) (fuel : Nat) (cs : List Value) (x : DataW H × List MemPlace)
    (h : DataW.trod enc P w base spare held fuel t cs = some x) : ∃ a : RowV, cs = [a.val] ∧ a.ok w := by
  rcases open_ints ht he hc h with ⟨rfl, rfl⟩ | ⟨a, len, cap, zs, rfl, hb, hl, hm, hz, hx, hcell, hwf⟩
  · exact ⟨(none, 0, []), rfl, by simp, by simp, Reads.none_, by simp⟩
  · have hlz : len ≤ zs.length := by rw [hz]; split <;> omega
    refine ⟨(some a, cap, zs.take len), by simp only [RowV.val, List.length_take]; rw [Nat.min_eq_left hlz], by simp only [List.length_take]; omega, hm, ⟨by simp [intsC], fun h0 => ⟨a, rfl, ?_, fun j u hj => ?_⟩⟩, fun y hy => hwf y (List.mem_of_mem_take hy)⟩
    · simp only [List.length_take] at h0
      have := cell_lt (hcell 0 (by omega))
      rwa [block_of_add] at this
    · simp only [intsC, List.getElem?_map] at hj
      have hjl : j < len := by
        rcases Nat.lt_or_ge j len with h | h
        · exact h
        · rw [List.getElem?_eq_none (by simp only [List.length_take]; omega)] at hj; simp at hj
      rw [List.getElem?_take_of_lt hjl] at hj
      have h1 := hcell j (by omega)
      rw [h1]
      rw [List.getElem?_eq_getElem (by omega)] at hj
      simp only [Option.map_some, Option.some.injEq] at hj
      rw [← hj, List.getD_eq_getElem?_getD, List.getElem?_eq_getElem (by omega)]; rfl
/-- an argument that is one -/
theorem open_introws {b0 : Nat} {t s e : TypeId} {v : Value} {d : DataW H} {ps : List MemPlace} (ht : P.underlying t = some (.slice s)) (hs : P.underlying s = some (.slice e)) (he : P.underlying e = some (.int .i64)) (hcs : P.cellsOf s = 1) (hce : P.cellsOf e = 1)
    (hval : Value.okWide P w .any b0 t v) (hd : DataW.Trod enc P w base spare held t v d ps) :
    ∃ A c, ∃ l : List RowV, v = .slice A l.length c ∧ l.length ≤ c ∧ c ≤ maxLen ∧ Reads (· < w.heap.size) w 1 A l.length (l.map RowV.val) ∧ l.length ≤ Rows.uptoBulk d ∧ ∀ a ∈ l, a.ok w := by
  obtain ⟨A, c, l, h1, h2, h3, h4, h5, h6⟩ := open_rows (α := RowV) (fun a => [a.val]) 1 (fun _ => rfl) (by omega) (fun a _ => a.ok w) ht hcs (fun fuel cs x h => trod_row hs he hce fuel cs x h) hval hd
  refine ⟨A, c, l, h1, h2, h3, by rw [← flat_map1]; exact h4, h5, fun a ha => ?_⟩
  rcases h6 with ⟨rfl, _⟩ | ⟨es, sp, _, hl, hok⟩
  · simp at ha
  · obtain ⟨i, hi, rfl⟩ := List.mem_iff_getElem.1 ha
    exact hok i _ es[i] (List.getElem?_eq_getElem hi) (List.getElem?_eq_getElem (by omega))
end
end Go.Proofs.YtfaihilehdjfjaaDoor
