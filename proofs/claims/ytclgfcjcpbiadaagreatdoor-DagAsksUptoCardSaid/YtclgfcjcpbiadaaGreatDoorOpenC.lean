/- An argument that is a change, opened to plain lists. -/
import Derived.Test.YtclgfcjcpbiadaaGreatDoorM1
import Derived.Test.YtclgfcjcpbiadaaGreatDoorChg1
set_option linter.unusedVariables false
set_option linter.unusedSimpArgs false
namespace Go.Proofs.YtclgfcjcpbiadaaGreatDoor
open Go.ChangeShapes Go.WideShapes Go.ChangeAt Go.RowKit Go.Deep
set_option maxRecDepth 100000
section
variable {H : Type} {enc : TypeId × Value → H} {w : World} {base : Nat} {spare : Nat → Bool} {held : Bool}
/-- a slice's cell whose elements are each so many cells -/
theorem trod_rows {P : Program} {α : Type} [Inhabited α] (cells : α → List Value) (size : Nat) (hsz : ∀ a, (cells a).length = size) (hs : 0 < size) (ok : α → Prop) {t e : TypeId} {fuel : Nat} {cs : List Value} {x : DataW H × List MemPlace}
    (ht : P.underlying t = some (.slice e)) (hc : P.cellsOf e = size)
    (hel : ∀ fuel cs x, DataW.trod enc P w base spare held fuel e cs = some x → ∃ a, cs = cells a ∧ ok a)
    (hf : DataW.trod enc P w base spare held fuel t cs = some x) :
    ∃ A c, ∃ l : List α, cs = [.slice A l.length c] ∧ l.length ≤ c ∧ c ≤ maxLen ∧ Reads (· < w.heap.size) w size A l.length (l.flatMap cells) ∧ ∀ a ∈ l, ok a := by
  rcases open_slice ht hf with ⟨h1, h2⟩ | ⟨a, len, cap, m, nn, Dd, Pl, h1, hb, hl, hm, hmm, hx, hi⟩
  · subst h1
    exact ⟨none, 0, [], rfl, by simp, by simp, Reads.none_, by simp⟩
  · subst h1
    have hlm : len ≤ m := by rw [hmm]; split <;> omega
    obtain ⟨f, hfx⟩ := choose_lt (α := α) (p := fun i x => w.cells? base (a.add (i * P.cellsOf e)) (P.cellsOf e) = some (cells x) ∧ ok x) (n := len) (fun i hin => by
      obtain ⟨cs', h1, h2⟩ := hi i (by omega)
      obtain ⟨x, rfl, hx⟩ := hel _ _ _ h2
      exact ⟨x, h1, hx⟩)
    have hget : ∀ i x, ((List.range len).map f)[i]? = some x → i < len ∧ x = f i := by
      intro i x h
      rw [List.getElem?_map] at h
      by_cases hin : i < len
      · rw [List.getElem?_range hin] at h; simp at h; exact ⟨hin, h.symm⟩
      · rw [List.getElem?_eq_none (by simpa using hin)] at h; simp at h
    refine ⟨some a, cap, (List.range len).map f, by simp, by simpa using hl, hm, ⟨?_, fun h0 => ⟨a, rfl, ?_, ?_⟩⟩, ?_⟩
    · rw [flat_len cells size hsz]
    · simp only [List.length_map, List.length_range] at h0
      have h1 := (hfx 0 h0).1
      obtain ⟨_, _, h3⟩ := World.cells?_some h1
      have h4 := h3 0 (by omega)
      have h5 : 0 < (cells (f 0)).length := by rw [hsz]; omega
      rw [List.getElem?_eq_getElem h5] at h4
      have := cell_lt h4
      rw [block_of_add, block_of_add] at this
      exact this
    · intro j u hj
      have hjl : j < len * size := by
        have := (List.getElem?_eq_some_iff.1 hj).1
        rw [flat_len cells size hsz] at this
        simpa using this
      have hdm : j / size * size + j % size = j := by rw [Nat.mul_comm]; exact Nat.div_add_mod j size
      have hq : j / size < len := Nat.div_lt_of_lt_mul (by rw [Nat.mul_comm]; exact hjl)
      have hr : j % size < size := Nat.mod_lt _ hs
      have h1 := flat_at cells size hsz ((List.range len).map f) (j / size) (j % size) (f (j / size)) (by rw [List.getElem?_map, List.getElem?_range hq]; rfl) hr
      rw [hdm, hj] at h1
      obtain ⟨_, _, h3⟩ := World.cells?_some (hfx _ hq).1
      have h4 := h3 (j % size) (by omega)
      rw [← h1, hc, add_of_add, hdm] at h4
      exact h4
    · intro x hx
      obtain ⟨i, hi⟩ := List.getElem?_of_mem hx
      obtain ⟨hin, rfl⟩ := hget i x hi
      exact (hfx i hin).2

theorem cells_ref : Tryz.prog.cellsOf 25 = 2 := by kernel_rfl
theorem cells_op : Tryz.prog.cellsOf 87 = 13 := by kernel_rfl
theorem cells_change : Tryz.prog.cellsOf 34 = 5 := by kernel_rfl
theorem cells_ids : Tryz.prog.cellsOf 85 = 1 := by kernel_rfl
theorem cells_refs : Tryz.prog.cellsOf 23 = 1 := by kernel_rfl
theorem cells_ops : Tryz.prog.cellsOf 32 = 1 := by kernel_rfl
theorem trod_ref {fuel : Nat} {cs : List Value} {x : DataW H × List MemPlace} (h : DataW.trod enc Tryz.prog w base spare held fuel 25 cs = some x) :
    ∃ a b, cs = [.int .i64 a, .int .i64 b] := by
  obtain ⟨xs, n, _, rfl, hl, hn, hf⟩ := DataW.trod_struct Tryz.underlying25 h
  rw [cells_ref] at hl
  match cs, hl with
  | [c0, c1], _ =>
    match xs, hn with
    | [y0, y1], _ =>
      have f0 : DataW.trod enc Tryz.prog w base spare held n 3 (List.take (Tryz.prog.cellsOf 3) (List.drop 0 [c0, c1])) = some y0 := hf 0 _ rfl
      have f1 : DataW.trod enc Tryz.prog w base spare held n 3 (List.take (Tryz.prog.cellsOf 3) (List.drop 1 [c0, c1])) = some y1 := hf 1 _ rfl
      rw [cells_int] at f0 f1
      obtain ⟨a, e0, rfl, wa⟩ := DataW.trod_int Tryz.underlying3 f0
      obtain ⟨b, e1, rfl, wb⟩ := DataW.trod_int Tryz.underlying3 f1
      simp at e0 e1
      subst e0 e1
      exact ⟨a, b, rfl⟩
theorem trod_pairs {t e : TypeId} {fuel : Nat} {cs : List Value} {x : DataW H × List MemPlace} (ht : Tryz.prog.underlying t = some (.slice e)) (hc : Tryz.prog.cellsOf e = 2)
    (hel : ∀ fuel cs x, DataW.trod enc Tryz.prog w base spare held fuel e cs = some x → ∃ a b, cs = [.int .i64 a, .int .i64 b]) (h : DataW.trod enc Tryz.prog w base spare held fuel t cs = some x) :
    ∃ A c, ∃ l : List Rf, cs = [.slice A l.length c] ∧ l.length ≤ 9223372036854775807 ∧ Reads (· < w.heap.size) w 2 A l.length (refC l) := by
  obtain ⟨A, c, l, h1, h2, h3, h4, _⟩ := trod_rows (α := Rf) (fun p => [.int .i64 p.1, .int .i64 p.2]) 2 (fun _ => rfl) (by omega) (fun _ => True) ht hc (fun fuel cs x h => by
    obtain ⟨a, b, rfl⟩ := hel _ _ _ h
    exact ⟨(a, b), rfl, trivial⟩) h
  have hmx : maxLen = 9223372036854775807 := by simp only [maxLen, Nat.reducePow, Nat.reduceSub]
  exact ⟨A, c, l, h1, by omega, h4⟩
def OpOk (w : World) (o : OpD) : Prop := (Lit.int .i64 o.vn).wf = true ∧ Reads (· < w.heap.size) w 2 o.A o.l.length (refC o.l) ∧ o.l.length ≤ 9223372036854775807
instance : Inhabited OpD := ⟨⟨0, 0, 0, ⟨#[]⟩, 0, 0, false, 0, 0, ⟨#[]⟩, 0, 0, none, 0, []⟩⟩
theorem trod_op {fuel : Nat} {cs : List Value} {x : DataW H × List MemPlace} (h : DataW.trod enc Tryz.prog w base spare held fuel 87 cs = some x) : ∃ o, cs = opC o ∧ OpOk w o := by
  obtain ⟨xs, n, _, rfl, hl, hn, hf⟩ := DataW.trod_struct Tryz.underlying87 h
  rw [cells_op] at hl
  match cs, hl with
  | [c0, c1, c2, c3, c4, c5, c6, c7, c8, c9, c10, c11, c12], _ =>
    match xs, hn with
    | [y0, y1, y2, y3, y4, y5, y6], _ =>
      have f0 : DataW.trod enc Tryz.prog w base spare held n 3 (List.take (Tryz.prog.cellsOf 3) (List.drop 0 [c0, c1, c2, c3, c4, c5, c6, c7, c8, c9, c10, c11, c12])) = some y0 := hf 0 _ rfl
      have f1 : DataW.trod enc Tryz.prog w base spare held n 82 (List.take (Tryz.prog.cellsOf 82) (List.drop 1 [c0, c1, c2, c3, c4, c5, c6, c7, c8, c9, c10, c11, c12])) = some y1 := hf 1 _ rfl
      have f2 : DataW.trod enc Tryz.prog w base spare held n 9 (List.take (Tryz.prog.cellsOf 9) (List.drop 3 [c0, c1, c2, c3, c4, c5, c6, c7, c8, c9, c10, c11, c12])) = some y2 := hf 2 _ rfl
      have f3 : DataW.trod enc Tryz.prog w base spare held n 82 (List.take (Tryz.prog.cellsOf 82) (List.drop 4 [c0, c1, c2, c3, c4, c5, c6, c7, c8, c9, c10, c11, c12])) = some y3 := hf 3 _ rfl
      have f4 : DataW.trod enc Tryz.prog w base spare held n 4 (List.take (Tryz.prog.cellsOf 4) (List.drop 6 [c0, c1, c2, c3, c4, c5, c6, c7, c8, c9, c10, c11, c12])) = some y4 := hf 4 _ rfl
      have f5 : DataW.trod enc Tryz.prog w base spare held n 84 (List.take (Tryz.prog.cellsOf 84) (List.drop 7 [c0, c1, c2, c3, c4, c5, c6, c7, c8, c9, c10, c11, c12])) = some y5 := hf 5 _ rfl
      have f6 : DataW.trod enc Tryz.prog w base spare held n 85 (List.take (Tryz.prog.cellsOf 85) (List.drop 12 [c0, c1, c2, c3, c4, c5, c6, c7, c8, c9, c10, c11, c12])) = some y6 := hf 6 _ rfl
      rw [cells_int] at f0
      rw [cells_id] at f1 f3
      rw [cells_string] at f2
      rw [cells_bool] at f4
      rw [cells_value] at f5
      rw [cells_ids] at f6
      obtain ⟨k, e0, rfl, wk⟩ := DataW.trod_int Tryz.underlying3 f0
      obtain ⟨on, oa, e1, _, _, rfl⟩ := trod_id f1
      obtain ⟨key, e2, rfl, wt⟩ := DataW.trod_string Tryz.underlying9 f2
      obtain ⟨en, ea, e3, _, _, rfl⟩ := trod_id f3
      obtain ⟨ins, e4, rfl⟩ := DataW.trod_bool Tryz.underlying4 f4
      obtain ⟨vk, vn, vt, va, vb, e5, _, wn, _, _, _, rfl⟩ := trod_value f5
      obtain ⟨PA, pc, l, e6, hl6, hr6⟩ := trod_pairs Tryz.underlying85 cells_id (fun fuel cs x h => by obtain ⟨a, b, h1, _⟩ := trod_id h; exact ⟨a, b, h1⟩) f6
      simp at e0 e1 e2 e3 e4 e5 e6
      obtain ⟨rfl, rfl⟩ := e1
      obtain ⟨rfl, rfl⟩ := e3
      obtain ⟨rfl, rfl, rfl, rfl, rfl⟩ := e5
      subst e0 e2 e4 e6
      exact ⟨⟨k, on, oa, key, en, ea, ins, vk, vn, vt, va, vb, PA, pc, l⟩, rfl, wn, hr6, hl6⟩
/-- the cells of a change -/
theorem trod_change {fuel : Nat} {cs : List Value} {x : DataW H × List MemPlace} (h : DataW.trod enc Tryz.prog w base spare held fuel 34 cs = some x) :
    ∃ a s st DA DC OA OC, ∃ deps : List Rf, ∃ ops : List OpD, cs = [.int .i64 a, .int .i64 s, .int .i64 st, .slice DA deps.length DC, .slice OA ops.length OC] ∧ ChM w deps DA ops OA ∧ ∀ o ∈ ops, (Lit.int .i64 o.vn).wf = true := by
  obtain ⟨xs, n, _, rfl, hl, hn, hf⟩ := DataW.trod_struct Tryz.underlying34 h
  rw [cells_change] at hl
  match cs, hl with
  | [c0, c1, c2, c3, c4], _ =>
    match xs, hn with
    | [y0, y1, y2, y3, y4], _ =>
      have f0 : DataW.trod enc Tryz.prog w base spare held n 3 (List.take (Tryz.prog.cellsOf 3) (List.drop 0 [c0, c1, c2, c3, c4])) = some y0 := hf 0 _ rfl
      have f1 : DataW.trod enc Tryz.prog w base spare held n 3 (List.take (Tryz.prog.cellsOf 3) (List.drop 1 [c0, c1, c2, c3, c4])) = some y1 := hf 1 _ rfl
      have f2 : DataW.trod enc Tryz.prog w base spare held n 3 (List.take (Tryz.prog.cellsOf 3) (List.drop 2 [c0, c1, c2, c3, c4])) = some y2 := hf 2 _ rfl
      have f3 : DataW.trod enc Tryz.prog w base spare held n 23 (List.take (Tryz.prog.cellsOf 23) (List.drop 3 [c0, c1, c2, c3, c4])) = some y3 := hf 3 _ rfl
      have f4 : DataW.trod enc Tryz.prog w base spare held n 32 (List.take (Tryz.prog.cellsOf 32) (List.drop 4 [c0, c1, c2, c3, c4])) = some y4 := hf 4 _ rfl
      rw [cells_int] at f0 f1 f2
      rw [cells_refs] at f3
      rw [cells_ops] at f4
      obtain ⟨a, e0, rfl, _⟩ := DataW.trod_int Tryz.underlying3 f0
      obtain ⟨s, e1, rfl, _⟩ := DataW.trod_int Tryz.underlying3 f1
      obtain ⟨st, e2, rfl, _⟩ := DataW.trod_int Tryz.underlying3 f2
      obtain ⟨DA, DC, deps, e3, hld, hrd⟩ := trod_pairs Tryz.underlying23 cells_ref (fun _ _ _ h => trod_ref h) f3
      obtain ⟨OA, OC, ops, e4, hl1, hl2, hro, hok⟩ := trod_rows (α := OpD) opC 13 (fun _ => rfl) (by omega) (OpOk w) Tryz.underlying32 cells_op (fun _ _ _ h => trod_op h) f4
      have hmx : maxLen = 9223372036854775807 := by simp only [maxLen, Nat.reducePow, Nat.reduceSub]
      simp at e0 e1 e2 e3 e4
      subst e0 e1 e2 e3 e4
      exact ⟨a, s, st, DA, DC, OA, OC, deps, ops, rfl, ⟨hrd, hld, hro, by omega, fun o ho => ⟨(hok o ho).2.1, (hok o ho).2.2⟩⟩, fun o ho => (hok o ho).1⟩
end
end Go.Proofs.YtclgfcjcpbiadaaGreatDoor
