/- An argument that is an api.Value, an api.Id, opened to its fields. -/
import Derived.Test.YtoolpppbbphbjaaOpenB
namespace Go.Proofs.Ytoolpppbbphbjaa
open Go.ChangeShapes Go.WideShapes Go.ChangeAt Go.RowKit Go.Deep
set_option maxRecDepth 100000
section
variable {H : Type} {enc : TypeId × Value → H} {w : World} {base : Nat} {spare : Nat → Bool} {held : Bool}

theorem cells_id : Try.prog.cellsOf 28 = 2 := by kernel_rfl
theorem cells_value : Try.prog.cellsOf 30 = 5 := by kernel_rfl

/-- the cells of an id -/
theorem trod_id {fuel : Nat} {cs : List Value} {x : DataW H × List MemPlace} (h : DataW.trod enc Try.prog w base spare held fuel 28 cs = some x) :
    ∃ a b, cs = [.int .i64 a, .int .i64 b] ∧ (Lit.int .i64 a).wf = true ∧ (Lit.int .i64 b).wf = true ∧ x = (.agg [.lit (.int .i64 a), .lit (.int .i64 b)], []) := by
  obtain ⟨xs, n, _, rfl, hl, hn, hf⟩ := DataW.trod_struct Try.underlying28 h
  rw [cells_id] at hl
  match cs, hl with
  | [c0, c1], _ =>
    match xs, hn with
    | [y0, y1], _ =>
      have f0 : DataW.trod enc Try.prog w base spare held n 3 (List.take (Try.prog.cellsOf 3) (List.drop 0 [c0, c1])) = some y0 := hf 0 _ rfl
      have f1 : DataW.trod enc Try.prog w base spare held n 3 (List.take (Try.prog.cellsOf 3) (List.drop 1 [c0, c1])) = some y1 := hf 1 _ rfl
      rw [cells_int] at f0 f1
      obtain ⟨a, e0, rfl, wa⟩ := DataW.trod_int Try.underlying3 f0
      obtain ⟨b, e1, rfl, wb⟩ := DataW.trod_int Try.underlying3 f1
      simp at e0 e1
      subst e0 e1
      exact ⟨a, b, rfl, wa, wb, rfl⟩

/-- the cells of a value -/
theorem trod_value {fuel : Nat} {cs : List Value} {x : DataW H × List MemPlace} (h : DataW.trod enc Try.prog w base spare held fuel 30 cs = some x) :
    ∃ k n t a b, cs = [.int .i64 k, .int .i64 n, .string t, .int .i64 a, .int .i64 b] ∧ (Lit.int .i64 k).wf = true ∧ (Lit.int .i64 n).wf = true ∧ t.size ≤ maxLen ∧ (Lit.int .i64 a).wf = true ∧ (Lit.int .i64 b).wf = true ∧
      x = (.agg [.lit (.int .i64 k), .lit (.int .i64 n), .lit (.string t.data.toList), .agg [.lit (.int .i64 a), .lit (.int .i64 b)]], []) := by
  obtain ⟨xs, n, _, rfl, hl, hn, hf⟩ := DataW.trod_struct Try.underlying30 h
  rw [cells_value] at hl
  match cs, hl with
  | [c0, c1, c2, c3, c4], _ =>
    match xs, hn with
    | [y0, y1, y2, y3], _ =>
      have f0 : DataW.trod enc Try.prog w base spare held n 3 (List.take (Try.prog.cellsOf 3) (List.drop 0 [c0, c1, c2, c3, c4])) = some y0 := hf 0 _ rfl
      have f1 : DataW.trod enc Try.prog w base spare held n 3 (List.take (Try.prog.cellsOf 3) (List.drop 1 [c0, c1, c2, c3, c4])) = some y1 := hf 1 _ rfl
      have f2 : DataW.trod enc Try.prog w base spare held n 9 (List.take (Try.prog.cellsOf 9) (List.drop 2 [c0, c1, c2, c3, c4])) = some y2 := hf 2 _ rfl
      have f3 : DataW.trod enc Try.prog w base spare held n 28 (List.take (Try.prog.cellsOf 28) (List.drop 3 [c0, c1, c2, c3, c4])) = some y3 := hf 3 _ rfl
      rw [cells_int] at f0 f1
      rw [cells_string] at f2
      rw [cells_id] at f3
      obtain ⟨k, e0, rfl, wk⟩ := DataW.trod_int Try.underlying3 f0
      obtain ⟨n, e1, rfl, wn⟩ := DataW.trod_int Try.underlying3 f1
      obtain ⟨t, e2, rfl, wt⟩ := DataW.trod_string Try.underlying9 f2
      obtain ⟨a, b, e3, wa, wb, rfl⟩ := trod_id f3
      simp at e0 e1 e2 e3
      obtain ⟨rfl, rfl⟩ := e3
      subst e0 e1 e2
      exact ⟨k, n, t, a, b, rfl, wk, wn, wt, wa, wb, rfl⟩

/-- an argument that is one -/
theorem open_value {W : World} {r : Reach} {b0 : Nat} {v : Value} {d : DataW H} {p : List MemPlace} (hv : Value.okWide Try.prog W r b0 30 v)
    (h : DataW.Trod enc Try.prog w base spare held 30 v d p) :
    ∃ k n t a b, v = .agg #[.int .i64 k, .int .i64 n, .string t, .int .i64 a, .int .i64 b] ∧ (Lit.int .i64 k).wf = true ∧ (Lit.int .i64 n).wf = true ∧ t.size ≤ maxLen ∧ (Lit.int .i64 a).wf = true ∧ (Lit.int .i64 b).wf = true ∧
      d = .agg [.lit (.int .i64 k), .lit (.int .i64 n), .lit (.string t.data.toList), .agg [.lit (.int .i64 a), .lit (.int .i64 b)]] ∧ p = [] := by
  obtain ⟨cs, rfl, _⟩ := okWide_struct Try.underlying30 hv
  obtain ⟨fuel, hf⟩ := h
  obtain ⟨k, n, t, a, b, hcs, wk, wn, wt, wa, wb, hx⟩ := trod_value hf
  simp only [Prod.mk.injEq] at hx
  refine ⟨k, n, t, a, b, ?_, wk, wn, wt, wa, wb, hx.1, hx.2⟩
  have : cs.toList = [Value.int .i64 k, .int .i64 n, .string t, .int .i64 a, .int .i64 b] := hcs
  rw [← Array.toArray_toList (xs := cs), this]
theorem open_id {W : World} {r : Reach} {b0 : Nat} {v : Value} {d : DataW H} {p : List MemPlace} (hv : Value.okWide Try.prog W r b0 28 v)
    (h : DataW.Trod enc Try.prog w base spare held 28 v d p) :
    ∃ a b, v = .agg #[.int .i64 a, .int .i64 b] ∧ (Lit.int .i64 a).wf = true ∧ (Lit.int .i64 b).wf = true ∧ d = .agg [.lit (.int .i64 a), .lit (.int .i64 b)] ∧ p = [] := by
  obtain ⟨cs, rfl, _⟩ := okWide_struct Try.underlying28 hv
  obtain ⟨fuel, hf⟩ := h
  obtain ⟨a, b, hcs, wa, wb, hx⟩ := trod_id hf
  simp only [Prod.mk.injEq] at hx
  refine ⟨a, b, ?_, wa, wb, hx.1, hx.2⟩
  have : cs.toList = [Value.int .i64 a, .int .i64 b] := hcs
  rw [← Array.toArray_toList (xs := cs), this]
end
end Go.Proofs.Ytoolpppbbphbjaa
