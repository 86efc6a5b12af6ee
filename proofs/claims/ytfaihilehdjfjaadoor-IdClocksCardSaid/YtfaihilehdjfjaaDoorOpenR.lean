/- An argument that is a slice of refs, opened to a plain list of pairs. -/
import Derived.Test.YtfaihilehdjfjaaDoorOpenS
import Derived.Test.YtfaihilehdjfjaaDoorClock1
namespace Go.Proofs.YtfaihilehdjfjaaDoor
open Go.ChangeShapes Go.WideShapes Go.ChangeAt Go.RowKit Go.Deep
set_option maxRecDepth 100000
section
variable {H : Type} {enc : TypeId × Value → H} {w : World} {base : Nat} {spare : Nat → Bool} {held : Bool}
theorem cellsI : Tryd.prog.cellsOf 3 = 1 := by kernel_rfl
theorem cells_ref : Tryd.prog.cellsOf 79 = 2 := by kernel_rfl
theorem trod_ref {fuel : Nat} {cs : List Value} {x : DataW H × List MemPlace} (h : DataW.trod enc Tryd.prog w base spare held fuel 79 cs = some x) :
    ∃ a b, cs = [.int .i64 a, .int .i64 b] := by
  obtain ⟨xs, n, _, rfl, hl, hn, hf⟩ := DataW.trod_struct Tryd.underlying79 h
  rw [cells_ref] at hl
  match cs, hl with
  | [c0, c1], _ =>
    match xs, hn with
    | [y0, y1], _ =>
      have f0 : DataW.trod enc Tryd.prog w base spare held n 3 (List.take (Tryd.prog.cellsOf 3) (List.drop 0 [c0, c1])) = some y0 := hf 0 _ rfl
      have f1 : DataW.trod enc Tryd.prog w base spare held n 3 (List.take (Tryd.prog.cellsOf 3) (List.drop 1 [c0, c1])) = some y1 := hf 1 _ rfl
      rw [cellsI] at f0 f1
      obtain ⟨a, e0, rfl, wa⟩ := DataW.trod_int Tryd.underlying3 f0
      obtain ⟨b, e1, rfl, wb⟩ := DataW.trod_int Tryd.underlying3 f1
      simp at e0 e1
      subst e0 e1
      exact ⟨a, b, rfl⟩
theorem open_refs {b0 : Nat} {v : Value} {d : DataW H} {ps : List MemPlace} (hval : Value.okWide Tryd.prog w .any b0 22 v) (hd : DataW.Trod enc Tryd.prog w base spare held 22 v d ps) :
    ∃ A c, ∃ l : List (Int × Int), v = .slice A l.length c ∧ l.length ≤ c ∧ c ≤ maxLen ∧ Reads (· < w.heap.size) w 2 A l.length (refC l) ∧ l.length ≤ Rows.uptoBulk d := by
  obtain ⟨A, c, l, h1, h2, h3, h4, h5, h6⟩ := open_rows (α := Int × Int) (fun p => [.int .i64 p.1, .int .i64 p.2]) 2 (fun _ => rfl) (by omega) (fun _ _ => True) Tryd.underlying22 cells_ref (fun fuel cs x h => by
    obtain ⟨a, b, rfl⟩ := trod_ref h
    exact ⟨(a, b), rfl, trivial⟩) hval hd
  exact ⟨A, c, l, h1, h2, h3, h4, h5⟩
end
end Go.Proofs.YtfaihilehdjfjaaDoor
