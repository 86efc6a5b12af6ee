/- An argument that is an api.Value, an api.Id, opened to its fields. -/
import Derived.Test.YtfaihilehdjfjaaGreatDoorOpenB
namespace Go.Proofs.YtfaihilehdjfjaaGreatDoor
open Go.ChangeShapes Go.WideShapes Go.ChangeAt Go.RowKit Go.Deep
set_option maxRecDepth 100000
section
variable {H : Type} {enc : TypeId × Value → H} {w : World} {base : Nat} {spare : Nat → Bool} {held : Bool}

theorem cells_id : Tryz.prog.cellsOf 23 = 2 := by kernel_rfl
/-- the cells of an id -/
theorem trod_id {fuel : Nat} {cs : List Value} {x : DataW H × List MemPlace} (h : DataW.trod enc Tryz.prog w base spare held fuel 23 cs = some x) :
    ∃ a b, cs = [.int .i64 a, .int .i64 b] ∧ (Lit.int .i64 a).wf = true ∧ (Lit.int .i64 b).wf = true ∧ x = (.agg [.lit (.int .i64 a), .lit (.int .i64 b)], []) := by
  obtain ⟨xs, n, _, rfl, hl, hn, hf⟩ := DataW.trod_struct Tryz.underlying23 h
  rw [cells_id] at hl
  match cs, hl with
  | [c0, c1], _ =>
    match xs, hn with
    | [y0, y1], _ =>
      have f0 : DataW.trod enc Tryz.prog w base spare held n 3 (List.take (Tryz.prog.cellsOf 3) (List.drop 0 [c0, c1])) = some y0 := hf 0 _ rfl
      have f1 : DataW.trod enc Tryz.prog w base spare held n 3 (List.take (Tryz.prog.cellsOf 3) (List.drop 1 [c0, c1])) = some y1 := hf 1 _ rfl
      rw [cells_int] at f0 f1
      obtain ⟨a, e0, rfl, wa⟩ := DataW.trod_int Tryz.underlying3 f0
      obtain ⟨b, e1, rfl, wb⟩ := DataW.trod_int Tryz.underlying3 f1
      simp at e0 e1
      subst e0 e1
      exact ⟨a, b, rfl, wa, wb, rfl⟩

theorem open_id {W : World} {r : Reach} {b0 : Nat} {v : Value} {d : DataW H} {p : List MemPlace} (hv : Value.okWide Tryz.prog W r b0 23 v)
    (h : DataW.Trod enc Tryz.prog w base spare held 23 v d p) :
    ∃ a b, v = .agg #[.int .i64 a, .int .i64 b] ∧ (Lit.int .i64 a).wf = true ∧ (Lit.int .i64 b).wf = true ∧ d = .agg [.lit (.int .i64 a), .lit (.int .i64 b)] ∧ p = [] := by
  obtain ⟨cs, rfl, _⟩ := okWide_struct Tryz.underlying23 hv
  obtain ⟨fuel, hf⟩ := h
  obtain ⟨a, b, hcs, wa, wb, hx⟩ := trod_id hf
  simp only [Prod.mk.injEq] at hx
  refine ⟨a, b, ?_, wa, wb, hx.1, hx.2⟩
  have : cs.toList = [Value.int .i64 a, .int .i64 b] := hcs
  rw [← Array.toArray_toList (xs := cs), this]
end
end Go.Proofs.YtfaihilehdjfjaaGreatDoor
