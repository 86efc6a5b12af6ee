/- The law DagTakes: walked. -/
import Derived.Test.YtclgfcjcpbiadaaGreatDoorDag14
import Derived.Test.YtclgfcjcpbiadaaGreatDoorM38
import Derived.Test.YtclgfcjcpbiadaaGreatDoorM35
import Derived.Test.YtclgfcjcpbiadaaGreatDoorAs
set_option linter.unusedVariables false
set_option linter.unusedSimpArgs false
namespace Go.Proofs.YtclgfcjcpbiadaaGreatDoor
open Go.ChangeShapes Go.WideShapes Go.ChangeAt Go.RowKit

theorem told_same (k : Nat) (w : World) (hE : ErrT w) : Calls Tryz.prog 13 #[errN k, .int .i64 k] w fun e w' => e = .returned (.bool true) ∧ Below w.heap.size w w' := by
  have := same_error k k w hE
  rwa [show ((k : Int) == (k : Int)) = true from by simp] at this
theorem step_same {XL Wp L Wr : List ChD} {c c' : ChD} (h1 : XL.map ChD.base = L.map ChD.base) (h2 : Wp.map ChD.base = Wr.map ChD.base) (h3 : c'.base = c.base) :
    (takeP XL Wp c').1.1.map ChD.base = (takeP L Wr c).1.1.map ChD.base ∧ (takeP XL Wp c').1.2.map ChD.base = (takeP L Wr c).1.2.map ChD.base ∧ (takeP XL Wp c').2 = (takeP L Wr c).2 := by
  have a := take_base XL Wp c'
  have b := take_base L Wr c
  rw [h1, h2, h3, b] at a
  simp only [Prod.mk.injEq] at a
  exact ⟨a.1.1.symm, a.1.2.symm, a.2.symm⟩
theorem refsQ_len (W : List ChD) : (refsP W).length ≤ W.length := by
  have := nodup_le (aheadR_asc (refsP_asc W)).2 (fun q hq => (refsP_mem W q).1 hq)
  simpa [refsOf] using this
/-- behind both books' Take -/
theorem Both.step {B : Nat} {D F F' : Nat → Prop} {w w1 w2 : World} {g bh bw bb gs : Nat} {X X' : List (ChD × Nat × List Rf)} {W W' L Wr L' Wr' : List ChD} {VL VW : Value} (h : Both B D F w g bh bw bb gs X W L Wr)
    (hb1 : BM D F' w1 gs L' Wr' VL VW) (hF' : ∀ k, F' k → F k ∨ w.heap.size ≤ k) (hch : Chg F w w1)
    (hpb : PB w2 g bh bw bb X' W') (hch2 : Chg (fun k => k = bh ∨ k = bw ∨ k = bb) w1 w2) (hfx : ∀ x ∈ X', x ∈ X ∨ w1.heap.size ≤ x.2.1) (hfy : ∀ y, y ∈ X'.map Prod.fst ∨ y ∈ W' → y ∈ X.map Prod.fst ∨ y ∈ W ∨ ChIn (fun k => w1.heap.size ≤ k) w2 y)
    (hi : Inv L' Wr') (hs : X'.map (fun x => x.1.base) = L'.map ChD.base) (hsW : W'.map ChD.base = Wr'.map ChD.base) : Both B D F' w2 g bh bw bb gs X' W' L' Wr' := by
  have hp1 : PBD (fun k => B ≤ k ∧ k < w1.heap.size ∧ ¬ F' k) w1 g bh bw bb X W :=
    (h.pbd.keep hch.size fun k hk _ => hch.block k hk.2.1 hk.2.2).more fun k hk => ⟨hk.1, Nat.lt_of_lt_of_le hk.2.1 hch.size, fun e => (hF' k e).elim hk.2.2 fun h => by have := hk.2.1; omega⟩
  have hF1 : ∀ k, F' k → B ≤ k := fun k hk => (hF' k hk).elim (h.hF k) fun h1 => Nat.le_trans h.size h1
  have hB1 : B ≤ w1.heap.size := Nat.le_trans h.size hch.size
  refine ⟨(hp1.take hpb hch2 hfx hfy).more fun k hk => ?_, ⟨VL, VW, hb1.keep hch2.size (fun k hk => ?_) fun k hk => ?_⟩, h.hD, hF1, Nat.le_trans hB1 hch2.size, hi, hs, hsW⟩
  · rcases hk with hk | hk
    · exact ⟨hk.1, Nat.lt_of_lt_of_le hk.2.1 hch2.size, hk.2.2⟩
    · exact ⟨Nat.le_trans hB1 hk.1, hk.2, fun e => by have := hb1.flt e; have := hk.1; omega⟩
  · refine hch2.block k (hb1.hD k hk).1 fun e => ?_
    have h1 := h.hD k hk
    have h2 := hp1.pg
    rcases e with e | e | e
    · have := h2.2.1.1; omega
    · have := h2.2.2.1.1; omega
    · have := h2.2.2.2.1; omega
  · refine hch2.block k (hb1.flt hk) fun e => ?_
    have h2 := hp1.pg
    rcases e with e | e | e
    · exact h2.2.1.2.2 (e ▸ hk)
    · exact h2.2.2.1.2.2 (e ▸ hk)
    · exact h2.2.2.2.2.2 (e ▸ hk)
end Go.Proofs.YtclgfcjcpbiadaaGreatDoor
