/- Contracts: package commonbookbig: length, IsUint64, Uint64. -/
import Derived.Test.YtoolpppbbphbjaaBig4C
namespace Go.Proofs.Ytoolpppbbphbjaa
open Go.ChangeShapes Go.WideShapes Go.ChangeAt Go.RowKit

/-- how many binary digits a word has -/
def bitsW (n : Nat) : Nat := if h : n = 0 then 0 else bitsW (n / 2) + 1
termination_by n
decreasing_by omega
theorem bitsW_zero : bitsW 0 = 0 := by rw [bitsW]; simp
theorem bitsW_pos {n : Nat} (h : n ≠ 0) : bitsW n = bitsW (n / 2) + 1 := by rw [bitsW]; simp [h]
theorem bitsW_le {n k : Nat} : bitsW n ≤ k ↔ n < 2 ^ k := by
  induction k generalizing n with
  | zero =>
    constructor
    · intro h
      by_cases h0 : n = 0
      · subst h0; decide
      · rw [bitsW_pos h0] at h; omega
    · intro h
      have : n = 0 := by simpa using h
      subst this; rw [bitsW_zero]; omega
  | succ k ih =>
    by_cases h0 : n = 0
    · subst h0; rw [bitsW_zero]; constructor
      · intro _; exact Nat.two_pow_pos _
      · intro _; omega
    · rw [bitsW_pos h0, Nat.pow_succ]
      have := ih (n := n / 2)
      constructor
      · intro h; have := this.1 (by omega); omega
      · intro h; have := this.2 (by omega); omega

theorem wd_last_ne (n x : Nat) (h : (wd n).getLast? = some x) : x ≠ 0 := by
  induction n using Nat.strongRecOn with
  | _ n ih =>
    by_cases h0 : n = 0
    · subst h0; rw [wd_zero] at h; simp at h
    · rw [wd_pos h0] at h
      by_cases h1 : n / 4294967296 = 0
      · rw [h1, wd_zero] at h
        simp at h
        omega
      · rw [wd_pos h1] at h
        rw [List.getLast?_cons_cons] at h
        exact ih (n / 4294967296) (by omega) (by rw [wd_pos h1]; exact h)
theorem wd_two (n : Nat) : (wd n).length ≤ 2 ↔ n < 18446744073709551616 := by
  constructor
  · intro h
    have h1 := val_lt (ok_wd n)
    rw [val_wd] at h1
    have : 4294967296 ^ (wd n).length ≤ 4294967296 ^ 2 := Nat.pow_le_pow_right (by omega) h
    omega
  · intro h
    exact wd_len (by omega)
theorem len_64 (n k : Nat) (h0 : wd n = [] → k = 0) (h1 : ∀ x, (wd n).getLast? = some x → k = ((wd n).length - 1) * 32 + bitsW x) : decide ((k : Int) ≤ 64) = decide (n < 18446744073709551616) := by
  rw [decide_eq_decide, ← wd_two]
  cases hl : (wd n).getLast? with
  | none =>
    have e : wd n = [] := List.getLast?_eq_none_iff.1 hl
    rw [h0 e, e]; simp
  | some x =>
    have e := h1 x hl
    have hx0 := wd_last_ne n x hl
    have hx4 : x < 4294967296 := ok_wd n x (List.mem_of_getLast? hl)
    have hb : bitsW x ≤ 32 := bitsW_le.2 hx4
    have hb1 : 1 ≤ bitsW x := by rw [bitsW_pos hx0]; omega
    constructor
    · intro h; omega
    · intro h; omega

theorem or_words (a b : Nat) (ha : a < 4294967296) (hb : b < 4294967296) : bits .or .u64 (a : Int) (((b * 4294967296 : Nat)) : Int) = ((a + 4294967296 * b : Nat) : Int) := by
  rw [u64_or_nat _ _ (by omega) (by omega)]
  have h := Nat.two_pow_add_eq_or_of_lt (i := 32) (b := a) (by omega) b
  rw [Nat.or_comm, Nat.mul_comm b]
  rw [show (4294967296 : Nat) = 2 ^ 32 from rfl, ← h]
  congr 1
  omega

end Go.Proofs.Ytoolpppbbphbjaa
