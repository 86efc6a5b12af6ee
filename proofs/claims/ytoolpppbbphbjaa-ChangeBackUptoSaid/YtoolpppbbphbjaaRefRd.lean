/- Contracts: the document's D: numbers and texts read, up to the first fault. -/
import Derived.Test.YtoolpppbbphbjaaRefGetSC
import Derived.Test.YtoolpppbbphbjaaReadT
namespace Go.Proofs.Ytoolpppbbphbjaa
open Go.ChangeShapes Go.WideShapes Go.ChangeAt Go.RowKit

theorem slice_from (A : Option Addr) (n c k : Nat) (hk : k ≤ n) (hc : n ≤ c) (w : World) :
    (Instr.slice 26 (.slice A n c) (some (.int .i64 k)) none none).run Try.prog w = .ok (.slice (if c = k then A else A.map (fun x => x.add k)) (n - k) (c - k)) w := by
  have u := Try.underlying26
  have h0 : (0 : Int) ≤ (k : Int) := by omega
  have h1 : (k : Int) ≤ (n : Int) := by omega
  have h2 : (n : Int) ≤ (c : Int) := by omega
  by_cases h : c = k
  · subst h
    go_simp
  · go_simp
theorem cut_reads {l : List UInt8} {D : Nat → Prop} {A : Option Addr} {c at_ : Nat} {w : World} (hr : Reads D w 1 A l.length (bytesC l)) (hat : at_ ≤ l.length) (hc : l.length ≤ c) :
    Reads D w 1 (if c = at_ then A else A.map (fun x => x.add at_)) (l.length - at_) (bytesC (l.drop at_)) := by
  have h1 := hr.cut hat hc
  simp only [Nat.mul_one] at h1
  rw [← bytesC_drop] at h1
  exact h1
theorem rdNum_none {l : List UInt8} {most at_ : Nat} (h : getN (l.drop at_) = none) : rdNum l most at_ false = (0, at_, true) := by
  unfold rdNum; rw [h]; rfl
theorem rdNum_some {l : List UInt8} {most at_ n k : Nat} (h : getN (l.drop at_) = some (n, k)) : rdNum l most at_ false = if n ≤ most then (n, at_ + k, false) else (0, at_, true) := by
  unfold rdNum; rw [h]; rfl
end Go.Proofs.Ytoolpppbbphbjaa
