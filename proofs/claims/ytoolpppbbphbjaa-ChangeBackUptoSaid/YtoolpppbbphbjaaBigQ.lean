/- Plain: sums and products of words (no program in sight). -/
import Derived.Test.YtoolpppbbphbjaaBigP
namespace Go.Proofs.Ytoolpppbbphbjaa

theorem val_take_succ {l : List Nat} {i x : Nat} (h : l[i]? = some x) : valW (l.take (i + 1)) = valW (l.take i) + 4294967296 ^ i * x := by
  obtain ⟨hlt, _⟩ := List.getElem?_eq_some_iff.1 h
  have hl : (l.take i).length = i := by rw [List.length_take]; exact Nat.min_eq_left (Nat.le_of_lt hlt)
  rw [List.take_add_one, h, val_append, hl]
  simp [valW]
theorem val_set : ∀ {l : List Nat} {k x y : Nat}, l[k]? = some y → valW (l.set k x) + 4294967296 ^ k * y = valW l + 4294967296 ^ k * x
  | [], k, _, _, h => by simp at h
  | a :: r, 0, x, y, h => by
    simp at h
    subst h
    simp only [List.set_cons_zero, valW]; omega
  | a :: r, k + 1, x, y, h => by
    have ih := val_set (l := r) (k := k) (x := x) (y := y) (by simpa using h)
    simp only [List.set_cons_succ, valW]
    have e1 : 4294967296 ^ (k + 1) * y = 4294967296 * (4294967296 ^ k * y) := by rw [Nat.pow_succ, Nat.mul_comm (4294967296 ^ k) 4294967296, Nat.mul_assoc]
    have e2 : 4294967296 ^ (k + 1) * x = 4294967296 * (4294967296 ^ k * x) := by rw [Nat.pow_succ, Nat.mul_comm (4294967296 ^ k) 4294967296, Nat.mul_assoc]
    rw [e1, e2]
    omega
theorem ok_set {l : List Nat} {k x : Nat} (h : okW l) (hx : x < 4294967296) : okW (l.set k x) := by
  intro y hy
  rcases List.mem_or_eq_of_mem_set hy with h1 | h1
  · exact h y h1
  · omega
theorem ok_get {l : List Nat} {k x : Nat} (h : okW l) (hx : l[k]? = some x) : x < 4294967296 := h x (List.mem_of_getElem? hx)
theorem carry (P t : Nat) : P * (t % 4294967296) + t / 4294967296 * (P * 4294967296) = P * t := by
  have h : t = 4294967296 * (t / 4294967296) + t % 4294967296 := (Nat.div_add_mod t 4294967296).symm
  conv => rhs; rw [h, Nat.mul_add]
  have : P * (4294967296 * (t / 4294967296)) = t / 4294967296 * (P * 4294967296) := by ac_rfl
  omega
/-- where the loop of add stands -/
structure AddAt (a b R : List Nat) (n i c : Nat) : Prop where
  len : R.length = n
  ok : okW R
  le : c ≤ 1
  zero : ∀ j, i ≤ j → j < n → R[j]? = some 0
  val : valW R + c * 4294967296 ^ i = valW (a.take i) + valW (b.take i)
theorem AddAt.start (a b : List Nat) (n : Nat) : AddAt a b (List.replicate n 0) n 0 0 :=
  ⟨by simp, fun x hx => by have := (List.mem_replicate.1 hx).2; omega, by omega, fun j _ hj => List.getElem?_replicate_of_lt hj, by simp [val_zero, valW]⟩
theorem AddAt.step {a b R : List Nat} {n i c t x y : Nat} (h : AddAt a b R n i c) (hi : i < n) (hx : a[i]? = some x) (hy : b[i]? = some y ∨ y = 0 ∧ b.length ≤ i) (hbx : x < 4294967296) (hby : y < 4294967296) (ht : t = c + x + y) :
    AddAt a b (R.set i (t % 4294967296)) n (i + 1) (t / 4294967296) where
  len := by rw [List.length_set]; exact h.len
  ok := ok_set h.ok (Nat.mod_lt _ (by omega))
  le := by have := h.le; omega
  zero := fun j hj hjn => by rw [List.getElem?_set_ne (by omega)]; exact h.zero j (by omega) hjn
  val := by
    have h1 := val_set (x := t % 4294967296) (h.zero i (Nat.le_refl _) hi)
    have h2 := h.val
    have h3 := val_take_succ hx
    have h4 : valW (b.take (i + 1)) = valW (b.take i) + 4294967296 ^ i * y := by
      rcases hy with hy | ⟨hy, hb⟩
      · exact val_take_succ hy
      · subst hy
        rw [List.take_of_length_le hb, List.take_of_length_le (by omega)]; omega
    have h5 := carry (4294967296 ^ i) t
    rw [h3, h4, Nat.pow_succ]
    have h6 : 4294967296 ^ i * t = c * 4294967296 ^ i + 4294967296 ^ i * x + 4294967296 ^ i * y := by rw [ht, Nat.mul_add, Nat.mul_add, Nat.mul_comm c]
    omega
theorem AddAt.fin {a b R : List Nat} {n c : Nat} (h : AddAt a b R (n + 1) n c) (ha : a.length ≤ n) (hb : b.length ≤ n) : valW (R.set n c) = valW a + valW b := by
  have h1 := val_set (x := c) (h.zero n (Nat.le_refl _) (by omega))
  have h2 := h.val
  rw [List.take_of_length_le ha, List.take_of_length_le hb] at h2
  rw [Nat.mul_comm c] at h2
  omega
/-- where the inner loop of mul stands -/
structure MulAt (V b R : List Nat) (x n i j c : Nat) (U : Nat) : Prop where
  len : R.length = n
  ok : okW R
  le : c < 4294967296
  zero : ∀ k, i + b.length ≤ k → k < n → R[k]? = some 0
  val : valW R + c * 4294967296 ^ (i + j) = U * valW b + x * valW (b.take j) * 4294967296 ^ i
theorem MulAt.step {V b R : List Nat} {x n i j c U y z t : Nat} (h : MulAt V b R x n i j c U) (hj : b[j]? = some y) (hz : R[i + j]? = some z) (hx : x < 4294967296) (hy : y < 4294967296) (hzl : z < 4294967296) (ht : t = c + (x * y + z)) :
    MulAt V b (R.set (i + j) (t % 4294967296)) x n i (j + 1) (t / 4294967296) U where
  len := by rw [List.length_set]; exact h.len
  ok := ok_set h.ok (Nat.mod_lt _ (by omega))
  le := by
    have h1 : x * y ≤ 4294967295 * 4294967295 := Nat.mul_le_mul (by omega) (by omega)
    have := h.le
    omega
  zero := fun k hk hkn => by
    have := (List.getElem?_eq_some_iff.1 hj).1
    rw [List.getElem?_set_ne (by omega)]; exact h.zero k hk hkn
  val := by
    have h1 := val_set (x := t % 4294967296) hz
    have h2 := h.val
    have h3 := val_take_succ hj
    have h5 := carry (4294967296 ^ (i + j)) t
    rw [h3, ← Nat.add_assoc, Nat.pow_succ]
    have h6 : 4294967296 ^ (i + j) * t = c * 4294967296 ^ (i + j) + 4294967296 ^ (i + j) * (x * y) + 4294967296 ^ (i + j) * z := by rw [ht, Nat.mul_add, Nat.mul_add, Nat.mul_comm c]; omega
    have h7 : x * (valW (b.take j) + 4294967296 ^ j * y) * 4294967296 ^ i = x * valW (b.take j) * 4294967296 ^ i + 4294967296 ^ (i + j) * (x * y) := by
      rw [Nat.mul_add, Nat.add_mul, Nat.pow_add]
      have : x * (4294967296 ^ j * y) * 4294967296 ^ i = 4294967296 ^ i * 4294967296 ^ j * (x * y) := by ac_rfl
      omega
    rw [h7]
    omega
/-- where the outer loop of mul stands -/
structure MulO (a b R : List Nat) (n i : Nat) : Prop where
  len : R.length = n
  ok : okW R
  zero : ∀ k, i + b.length ≤ k → k < n → R[k]? = some 0
  val : valW R = valW (a.take i) * valW b
theorem MulO.start (a b : List Nat) (n : Nat) : MulO a b (List.replicate n 0) n 0 :=
  ⟨by simp, fun x hx => by have := (List.mem_replicate.1 hx).2; omega, fun j _ hj => List.getElem?_replicate_of_lt hj, by simp [val_zero, valW]⟩
theorem MulO.inner {a b R : List Nat} {n i : Nat} (x : Nat) (h : MulO a b R n i) : MulAt a b R x n i 0 0 (valW (a.take i)) :=
  ⟨h.len, h.ok, by omega, h.zero, by rw [h.val]; simp [valW]⟩
theorem MulAt.outer {a b R : List Nat} {x n i c : Nat} (h : MulAt a b R x n i b.length c (valW (a.take i))) (hx : a[i]? = some x) (hn : i + b.length < n) : MulO a b (R.set (i + b.length) c) n (i + 1) where
  len := by rw [List.length_set]; exact h.len
  ok := ok_set h.ok h.le
  zero := fun k hk hkn => by rw [List.getElem?_set_ne (by omega)]; exact h.zero k (by omega) hkn
  val := by
    have h1 := val_set (x := c) (h.zero _ (Nat.le_refl _) hn)
    have h2 := h.val
    rw [List.take_length] at h2
    rw [val_take_succ hx, Nat.add_mul]
    have h3 : 4294967296 ^ i * x * valW b = x * valW b * 4294967296 ^ i := by ac_rfl
    rw [Nat.mul_comm c] at h2
    omega
theorem u32C_set (l : List Nat) (k x : Nat) : (u32C l).set k (.int .u32 (x : Int)) = u32C (l.set k x) := by simp [u32C, List.map_set]
theorem u32C_zero (n : Nat) : u32C (List.replicate n 0) = List.replicate n (.int .u32 0) := by simp [u32C]
end Go.Proofs.Ytoolpppbbphbjaa
