/- Plain: numbers as bytes (no program in sight). -/
import Derived.Test.YtoolpppbbphbjaaMem
import Derived.Laws.BitsAllLaws
import Derived.Laws.BitsLemmas
import Derived.Laws.Bits64
namespace Go.Proofs.Ytoolpppbbphbjaa

def bytesC (l : List UInt8) : List Value := l.map fun c => .int .u8 (c.toNat : Int)
def intsC (l : List Int) : List Value := l.map fun n => .int .i64 n
theorem bytesC_append (l r : List UInt8) : bytesC (l ++ r) = bytesC l ++ bytesC r := by simp [bytesC]
theorem intsC_append (l r : List Int) : intsC (l ++ r) = intsC l ++ intsC r := by simp [intsC]
theorem bytesC_length (l : List UInt8) : (bytesC l).length = l.length := by simp [bytesC]
theorem intsC_length (l : List Int) : (intsC l).length = l.length := by simp [intsC]
theorem bytesC_one (l : List UInt8) : ∀ u ∈ bytesC l, u.oneCell' = true := by
  intro u hu; simp only [bytesC, List.mem_map] at hu; obtain ⟨c, _, rfl⟩ := hu; rfl
theorem intsC_one (l : List Int) : ∀ u ∈ intsC l, u.oneCell' = true := by
  intro u hu; simp only [intsC, List.mem_map] at hu; obtain ⟨c, _, rfl⟩ := hu; rfl

/-- seven bits a byte, at most f more behind this one -/
def putF : Nat → Nat → List UInt8
  | 0, n => [UInt8.ofNat n]
  | f + 1, n => if n < 128 then [UInt8.ofNat n] else UInt8.ofNat (n % 128 + 128) :: putF f (n / 128)
def putN (n : Nat) : List UInt8 := putF 9 n
theorem putF_small {f n : Nat} (h : n < 128) : putF f n = [UInt8.ofNat n] := by cases f <;> simp [putF, h]
theorem putF_big {f n : Nat} (h : ¬ n < 128) : putF (f + 1) n = UInt8.ofNat (n % 128 + 128) :: putF f (n / 128) := by simp [putF, h]
theorem putF_length : ∀ (f n : Nat), 1 ≤ (putF f n).length ∧ (putF f n).length ≤ f + 1
  | 0, n => by simp [putF]
  | f + 1, n => by
    simp only [putF]
    split
    · simp
    · have := putF_length f (n / 128)
      simp; omega
theorem putN_length (n : Nat) : 1 ≤ (putN n).length ∧ (putN n).length ≤ 10 := putF_length 9 n

/-- the number that bytes begin with, behind i of them -/
def getG : Nat → Nat → List UInt8 → Option (Nat × Nat)
  | _, _, [] => none
  | i, acc, c :: r =>
    if i = 9 ∧ 1 < c.toNat ∨ 9 < i then none
    else if c.toNat < 128 then (if c.toNat = 0 ∧ 0 < i then none else some (acc + c.toNat % 128 * 2 ^ (7 * i), i + 1))
    else getG (i + 1) (acc + c.toNat % 128 * 2 ^ (7 * i)) r
def getN (l : List UInt8) : Option (Nat × Nat) := getG 0 0 l

theorem getG_at : ∀ (l : List UInt8) (i acc n k : Nat), getG i acc l = some (n, k) → i < k ∧ k ≤ i + l.length
  | [], i, acc, n, k, h => by simp [getG] at h
  | c :: r, i, acc, n, k, h => by
    simp only [getG] at h
    split at h
    · cases h
    · split at h
      · split at h
        · cases h
        · simp only [Option.some.injEq, Prod.mk.injEq] at h
          simp; omega
      · have := getG_at r _ _ _ _ h
        simp; omega
theorem getN_at {l : List UInt8} {n k : Nat} (h : getN l = some (n, k)) : 1 ≤ k ∧ k ≤ l.length := by
  have := getG_at l 0 0 n k h; omega
theorem getG_lt : ∀ (l : List UInt8) (i acc n k : Nat), acc < 2 ^ (7 * i) → getG i acc l = some (n, k) → n < 2 ^ 64
  | [], i, acc, n, k, _, h => by simp [getG] at h
  | c :: r, i, acc, n, k, ha, h => by
    simp only [getG] at h
    have hp : 2 ^ (7 * (i + 1)) = 128 * 2 ^ (7 * i) := by rw [Nat.mul_add, Nat.pow_add]; omega
    have hm : c.toNat % 128 * 2 ^ (7 * i) ≤ 127 * 2 ^ (7 * i) := Nat.mul_le_mul_right _ (by omega)
    split at h
    · cases h
    · rename_i hg
      split at h
      · rename_i h128
        split at h
        · cases h
        · simp only [Option.some.injEq, Prod.mk.injEq] at h
          by_cases h9 : i = 9
          · subst h9
            have hc : c.toNat % 128 ≤ 1 := by omega
            have : c.toNat % 128 * 2 ^ (7 * 9) ≤ 1 * 2 ^ (7 * 9) := Nat.mul_le_mul_right _ hc
            omega
          · have hi : 7 * (i + 1) ≤ 63 := by omega
            have : 2 ^ (7 * (i + 1)) ≤ 2 ^ 63 := Nat.pow_le_pow_right (by omega) hi
            omega
      · exact getG_lt r _ _ _ _ (by omega) h
theorem getN_lt {l : List UInt8} {n k : Nat} (h : getN l = some (n, k)) : n < 2 ^ 64 := getG_lt l 0 0 n k (by simp) h

theorem ofNat_toNat {n : Nat} (h : n < 256) : (UInt8.ofNat n).toNat = n := by simp; omega

/-- what is written is read -/
theorem getG_putF : ∀ (f n i acc : Nat) (more : List UInt8), f + i = 9 → n < 2 ^ (64 - 7 * i) → (0 < i → 0 < n) → getG i acc (putF f n ++ more) = some (acc + n * 2 ^ (7 * i), i + (putF f n).length)
  | 0, n, i, acc, more, hfi, hn, hz => by
    have h9 : i = 9 := by omega
    subst h9
    simp only [putF, List.cons_append, List.nil_append, getG]
    have hn2 : n < 2 := by simpa using hn
    rw [ofNat_toNat (by omega)]
    rw [if_neg (by omega), if_pos (by omega), if_neg (by omega), Nat.mod_eq_of_lt (by omega)]
    rfl
  | f + 1, n, i, acc, more, hfi, hn, hz => by
    by_cases h : n < 128
    · rw [putF_small h]
      simp only [List.cons_append, List.nil_append, getG]
      rw [ofNat_toNat (by omega), if_neg (by omega), if_pos h, if_neg (by omega), Nat.mod_eq_of_lt h]
      rfl
    · rw [putF_big h]
      simp only [List.cons_append, getG]
      rw [ofNat_toNat (by omega), if_neg (by omega), if_neg (by omega)]
      have hp : 2 ^ (7 * (i + 1)) = 128 * 2 ^ (7 * i) := by rw [Nat.mul_add, Nat.pow_add]; omega
      have hq : 2 ^ (64 - 7 * i) = 128 * 2 ^ (64 - 7 * (i + 1)) := by
        rw [show 64 - 7 * i = (64 - 7 * (i + 1)) + 7 by omega, Nat.pow_add]; omega
      rw [getG_putF f (n / 128) (i + 1) _ more (by omega) (by omega) (by omega)]
      have e1 : (n % 128 + 128) % 128 = n % 128 := by omega
      have e2 : n % 128 * 2 ^ (7 * i) + n / 128 * 2 ^ (7 * (i + 1)) = n * 2 ^ (7 * i) := by
        rw [hp, ← Nat.mul_assoc, ← Nat.add_mul]
        congr 1
        omega
      rw [e1, Nat.add_assoc, e2]
      simp; omega
theorem getN_putN (n : Nat) (more : List UInt8) (h : n < 2 ^ 64) : getN (putN n ++ more) = some (n, (putN n).length) := by
  have := getG_putF 9 n 0 0 more rfl (by simpa using h) (by omega)
  simpa [getN, putN] using this

/-- what is read is written -/
theorem putF_getG : ∀ (l : List UInt8) (f i acc n k : Nat), f + i = 9 → getG i acc l = some (n, k) → ∃ m, n = acc + m * 2 ^ (7 * i) ∧ (0 < i → 0 < m) ∧ l.take (k - i) = putF f m
  | [], f, i, acc, n, k, _, h => by simp [getG] at h
  | c :: r, f, i, acc, n, k, hfi, h => by
    have hc256 : c.toNat < 256 := c.toNat_lt
    simp only [getG] at h
    split at h
    · cases h
    · rename_i hg
      split at h
      · rename_i h128
        split at h
        · cases h
        · rename_i hz
          simp only [Option.some.injEq, Prod.mk.injEq] at h
          refine ⟨c.toNat, by rw [← h.1]; congr 1; rw [Nat.mod_eq_of_lt h128], by omega, ?_⟩
          rw [putF_small h128, show k - i = 1 by omega]
          simp
      · rename_i h128
        obtain _ | f := f
        · omega
        · obtain ⟨m, hm, hpos, ht⟩ := putF_getG r f (i + 1) _ n k (by omega) h
          have hk := getG_at r _ _ _ _ h
          have hm1 := hpos (by omega)
          refine ⟨c.toNat % 128 + 128 * m, ?_, by omega, ?_⟩
          · have hp : 2 ^ (7 * (i + 1)) = 128 * 2 ^ (7 * i) := by rw [Nat.mul_add, Nat.pow_add]; omega
            rw [hm, hp, ← Nat.mul_assoc, Nat.add_assoc, ← Nat.add_mul, Nat.mul_comm m 128]
          · rw [putF_big (by omega), show k - i = (k - (i + 1)) + 1 by omega, List.take_succ_cons, ht]
            congr 1
            · rw [← UInt8.toNat_inj, ofNat_toNat (by omega)]; omega
            · congr 1; omega
theorem putN_getN {l : List UInt8} {n k : Nat} (h : getN l = some (n, k)) : l.take k = putN n := by
  obtain ⟨m, hm, _, ht⟩ := putF_getG l 9 0 0 n k rfl h
  have : n = m := by rw [hm]; simp
  subst this
  simpa [putN] using ht

/-- numbers that may be below 0 -/
def zz (n : Int) : Nat := if 0 ≤ n then (2 * n).toNat else (-2 * n - 1).toNat
def unzz (m : Nat) : Int := if m % 2 = 0 then (m / 2 : Nat) else -((m / 2 : Nat) : Int) - 1
theorem unzz_zz (n : Int) : unzz (zz n) = n := by unfold unzz zz; split <;> split <;> omega
theorem zz_unzz (m : Nat) : zz (unzz m) = m := by unfold unzz zz; split <;> split <;> omega
theorem zz_lt {n : Int} (h : -9223372036854775808 ≤ n ∧ n ≤ 9223372036854775807) : zz n < 2 ^ 64 := by unfold zz; split <;> omega
theorem unzz_bd {m : Nat} (h : m < 2 ^ 64) : -9223372036854775808 ≤ unzz m ∧ unzz m ≤ 9223372036854775807 := by unfold unzz; split <;> omega
def putS (n : Int) : List UInt8 := putN (zz n)
def getS (l : List UInt8) : Option (Int × Nat) := (getN l).map fun x => (unzz x.1, x.2)
end Go.Proofs.Ytoolpppbbphbjaa
