/- Arguments: a slice of refs, a ref, opened to plain ones; how long the list is against its bulk. -/
import Derived.Test.YtclgfcjcpbiadaaGreatDoorM21
import Derived.Test.YtclgfcjcpbiadaaGreatDoorM8
namespace Go.Proofs.YtclgfcjcpbiadaaGreatDoor
open Go.ChangeShapes Go.WideShapes Go.ChangeAt Go.RowKit Go.Deep
set_option maxRecDepth 100000
section
variable {H : Type} {enc : TypeId × Value → H} {w : World} {base : Nat} {spare : Nat → Bool} {held : Bool}
theorem i64_of {a : Int} (h : (Lit.int .i64 a).wf = true) : -9223372036854775808 ≤ a ∧ a ≤ 9223372036854775807 := by
  simpa [Lit.wf, IntKind.min, IntKind.max, IntKind.signed, IntKind.bits] using h
theorem cellsOf_int1 : Tryz.prog.cellsOf 3 = 1 := by kernel_rfl
theorem trod_refB {fuel : Nat} {cs : List Value} {x : DataW H × List MemPlace} (h : DataW.trod enc Tryz.prog w base spare held fuel 25 cs = some x) :
    ∃ a b, cs = [.int .i64 a, .int .i64 b] ∧ I64R (a, b) ∧ x = (.agg [.lit (.int .i64 a), .lit (.int .i64 b)], []) := by
  obtain ⟨xs, n, _, rfl, hl, hn, hf⟩ := DataW.trod_struct Tryz.underlying25 h
  rw [cells_ref] at hl
  match cs, hl with
  | [c0, c1], _ =>
    match xs, hn with
    | [y0, y1], _ =>
      have f0 : DataW.trod enc Tryz.prog w base spare held n 3 (List.take (Tryz.prog.cellsOf 3) (List.drop 0 [c0, c1])) = some y0 := hf 0 _ rfl
      have f1 : DataW.trod enc Tryz.prog w base spare held n 3 (List.take (Tryz.prog.cellsOf 3) (List.drop 1 [c0, c1])) = some y1 := hf 1 _ rfl
      rw [cellsOf_int1] at f0 f1
      obtain ⟨a, e0, rfl, wa⟩ := DataW.trod_int Tryz.underlying3 f0
      obtain ⟨b, e1, rfl, wb⟩ := DataW.trod_int Tryz.underlying3 f1
      simp at e0 e1
      subst e0 e1
      exact ⟨a, b, rfl, ⟨i64_of wa, i64_of wb⟩, rfl⟩
theorem bulk_three {H : Type} : ∀ (es : List (DataW H)), (∀ (i : Nat) (x : DataW H), es[i]? = some x → 3 ≤ Rows.uptoBulk x) → 3 * es.length ≤ Rows.uptoBulkAll es
  | [], _ => by simp [Rows.uptoBulkAll]
  | x :: es, h => by
    have h1 := bulk_three es fun i y hy => h (i + 1) y (by simpa using hy)
    have h2 := h 0 x rfl
    simp only [Rows.uptoBulkAll, List.length_cons]
    omega
theorem open_refsB {b0 : Nat} {v : Value} {d : DataW H} {ps : List MemPlace} (hval : Value.okWide Tryz.prog w .any b0 23 v) (hd : DataW.Trod enc Tryz.prog w base spare held 23 v d ps) :
    ∃ A c, ∃ l : List (Int × Int), v = .slice A l.length c ∧ Reads (fun k => k < w.heap.size) w 2 A l.length (refC l) ∧ 3 * l.length ≤ Rows.uptoBulk d ∧ ∀ r ∈ l, I64R r := by
  obtain ⟨A, c, l, h1, h2, h3, h4, h5, h6⟩ := open_rows (α := Int × Int) (fun p => [.int .i64 p.1, .int .i64 p.2]) 2 (fun _ => rfl) (by omega) (fun p x => I64R p ∧ 3 ≤ Rows.uptoBulk x) Tryz.underlying23 cells_ref (fun fuel cs x h => by
    obtain ⟨a, b, rfl, hi, rfl⟩ := trod_refB h
    exact ⟨(a, b), rfl, hi, by simp [Rows.uptoBulk, Rows.uptoBulkAll]⟩) hval hd
  refine ⟨A, c, l, h1, h4, ?_, ?_⟩
  · rcases h6 with ⟨rfl, _⟩ | ⟨es, sp, rfl, hl, h⟩
    · simp
    · have := bulk_three es fun i x hx => by
        have hi : i < l.length := by rw [← hl]; exact (List.getElem?_eq_some_iff.1 hx).1
        exact (h i _ x (List.getElem?_eq_getElem hi) hx).2
      simp only [Rows.uptoBulk]
      omega
  · intro r hr
    rcases h6 with ⟨rfl, _⟩ | ⟨es, sp, _, hl, h⟩
    · cases hr
    · obtain ⟨i, hi, e⟩ := List.getElem_of_mem hr
      exact (h i r _ (List.getElem?_eq_some_iff.2 ⟨hi, e⟩) (List.getElem?_eq_getElem (by omega))).1
theorem open_ref {W : World} {r : Reach} {b0 : Nat} {v : Value} {d : DataW H} {p : List MemPlace} (hv : Value.okWide Tryz.prog W r b0 25 v)
    (h : DataW.Trod enc Tryz.prog w base spare held 25 v d p) :
    ∃ a b, v = .agg #[.int .i64 a, .int .i64 b] ∧ I64R (a, b) ∧ d = .agg [.lit (.int .i64 a), .lit (.int .i64 b)] ∧ p = [] := by
  obtain ⟨cs, rfl, _⟩ := okWide_struct Tryz.underlying25 hv
  obtain ⟨fuel, hf⟩ := h
  obtain ⟨a, b, hcs, hi, hx⟩ := trod_refB hf
  simp only [Prod.mk.injEq] at hx
  refine ⟨a, b, ?_, hi, hx.1, hx.2⟩
  have : cs.toList = [Value.int .i64 a, .int .i64 b] := hcs
  rw [← Array.toArray_toList (xs := cs), this]
end
end Go.Proofs.YtclgfcjcpbiadaaGreatDoor
