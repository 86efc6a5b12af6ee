/- The document's answer: Get, GetSigned. -/
import Derived.Test.YtoolpppbbphbjaaBig5C
import Derived.Test.YtoolpppbbphbjaaBytes2
namespace Go.Proofs.Ytoolpppbbphbjaa
open Go.ChangeShapes Go.WideShapes Go.ChangeAt Go.RowKit

theorem wd_small {n : Nat} (h : n < 2 ^ 96) : (wd n).length ≤ 1000000 := by
  have := wd_len (n := n) (k := 3) (by omega)
  omega
def getRV : Option (Nat × Nat) → Value
  | some (m, k) => .tuple #[.int .u64 m, .int .i64 k]
  | none => .tuple #[.int .u64 0, .int .i64 0]
/-- where the loop of the document's Get stands -/
def GR (l : List UInt8) (k acc : Nat) : Prop := acc < 2 ^ 70 ∧ (k ≤ 9 ∧ GetAt l k acc ∨ k = 10 ∧ getN l = none)
theorem GR.none_ {l : List UInt8} {k acc : Nat} (h : GR l k acc) (hk : ¬ (k < l.length ∧ k < 10)) : getN l = none := by
  rcases h.2 with ⟨h1, h2⟩ | h2
  · exact h2.fin (by omega)
  · exact h2.2
theorem GR.at_ {l : List UInt8} {k acc : Nat} (h : GR l k acc) (hk : k < 10) : GetAt l k acc := by
  rcases h.2 with h2 | h2
  · exact h2.2
  · omega
theorem GR.acc_lt {l : List UInt8} {k acc : Nat} (h : GR l k acc) : acc < 2 ^ 70 := h.1
theorem pow_128 (k : Nat) : 2 ^ (7 * k) * 128 = 2 ^ (7 * (k + 1)) := by rw [Nat.mul_add, Nat.pow_add]
theorem pow_le70 {k : Nat} (hk : k < 10) : 2 ^ (7 * k) ≤ 2 ^ 63 := Nat.pow_le_pow_right (by omega) (by omega)
theorem GR.next {l : List UInt8} {k acc cc : Nat} (h : GR l k acc) (hk : k < 10) (hlt : k < l.length) (hcc : l[k].toNat = cc) (h128 : ¬ cc < 128) (hc : cc < 256) : GR l (k + 1) (acc + cc % 128 * 2 ^ (7 * k)) := by
  have hA := h.at_ hk
  have h1 := hA.2.1
  have h2 := pow_le70 hk
  have h3 : cc % 128 * 2 ^ (7 * k) ≤ 127 * 2 ^ (7 * k) := Nat.mul_le_mul_right _ (by omega)
  refine ⟨by omega, ?_⟩
  by_cases h9 : k = 9
  · exact .inr ⟨by omega, hA.bad hlt hcc (by omega)⟩
  · exact .inl ⟨by omega, hA.step hlt hcc h128 (by omega) rfl rfl rfl⟩
theorem GR.big {l : List UInt8} {k acc cc : Nat} (h : GR l k acc) (hk : k < 10) (hlt : k < l.length) (hcc : l[k].toNat = cc) (h128 : cc < 128) (hq : ¬ acc + cc % 128 * 2 ^ (7 * k) < 18446744073709551616) : getN l = none := by
  have hA := h.at_ hk
  have h1 := hA.2.1
  refine hA.bad hlt hcc ?_
  by_cases h9 : k = 9
  · subst h9; refine .inl ⟨rfl, ?_⟩; omega
  · have h4 : 2 ^ (7 * k) ≤ 2 ^ 56 := Nat.pow_le_pow_right (by omega) (by omega)
    have h3 : cc % 128 * 2 ^ (7 * k) ≤ 127 * 2 ^ (7 * k) := Nat.mul_le_mul_right _ (by omega)
    omega
theorem GR.end_ {l : List UInt8} {k acc cc : Nat} (h : GR l k acc) (hk : k < 10) (hlt : k < l.length) (hcc : l[k].toNat = cc) (h128 : cc < 128) (hz : ¬ (cc = 0 ∧ 0 < k)) (hq : acc + cc % 128 * 2 ^ (7 * k) < 18446744073709551616) : getN l = some (acc + cc % 128 * 2 ^ (7 * k), k + 1) := by
  have hA := h.at_ hk
  refine hA.last hlt hcc h128 ?_ hz rfl rfl rfl
  rintro (⟨h9, h1⟩ | h9)
  · subst h9; omega
  · omega

end Go.Proofs.Ytoolpppbbphbjaa
