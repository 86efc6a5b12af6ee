/- Plain: a number as words of 32 bits, the least first, without a nought at the end (no program in sight). -/
import Derived.Test.YtoolpppbbphbjaaMem
namespace Go.Proofs.Ytoolpppbbphbjaa

def valW : List Nat → Nat
  | [] => 0
  | a :: r => a + 4294967296 * valW r
def okW (l : List Nat) : Prop := ∀ x ∈ l, x < 4294967296
def wd (n : Nat) : List Nat := if h : n = 0 then [] else (n % 4294967296) :: wd (n / 4294967296)
termination_by n
decreasing_by exact Nat.div_lt_self (by omega) (by omega)
theorem wd_zero : wd 0 = [] := by rw [wd]; simp
theorem wd_pos {n : Nat} (h : n ≠ 0) : wd n = (n % 4294967296) :: wd (n / 4294967296) := by rw [wd]; simp [h]
theorem val_wd (n : Nat) : valW (wd n) = n := by
  induction n using Nat.strongRecOn with
  | _ n ih =>
    by_cases h : n = 0
    · subst h; rw [wd_zero]; rfl
    · rw [wd_pos h, valW, ih _ (Nat.div_lt_self (by omega) (by omega))]; omega
theorem ok_wd (n : Nat) : okW (wd n) := by
  induction n using Nat.strongRecOn with
  | _ n ih =>
    by_cases h : n = 0
    · subst h; rw [wd_zero]; intro x hx; cases hx
    · rw [wd_pos h]
      intro x hx
      rcases List.mem_cons.1 hx with rfl | hx
      · exact Nat.mod_lt _ (by omega)
      · exact ih _ (Nat.div_lt_self (by omega) (by omega)) x hx
theorem val_append (p q : List Nat) : valW (p ++ q) = valW p + 4294967296 ^ p.length * valW q := by
  induction p with
  | nil => simp [valW]
  | cons a p ih =>
    rw [List.cons_append, valW, valW, ih, List.length_cons, Nat.pow_succ, Nat.mul_add, ← Nat.mul_assoc, Nat.mul_comm (4294967296 ^ p.length) 4294967296]
    omega
theorem ok_tail {a : Nat} {r : List Nat} (h : okW (a :: r)) : a < 4294967296 ∧ okW r := ⟨h a (by simp), fun x hx => h x (by simp [hx])⟩
theorem val_lt : ∀ {l : List Nat}, okW l → valW l < 4294967296 ^ l.length
  | [], _ => by simp [valW]
  | a :: r, h => by
    have h1 := val_lt (ok_tail h).2
    have h2 := (ok_tail h).1
    rw [valW, List.length_cons, Nat.pow_succ, Nat.mul_comm]
    omega
theorem wd_last : ∀ {l : List Nat}, okW l → (∀ x, l.getLast? = some x → x ≠ 0) → wd (valW l) = l
  | [], _, _ => wd_zero
  | a :: r, h, hl => by
    obtain ⟨h1, h2⟩ := ok_tail h
    have hr := wd_last (l := r) h2 (fun x hx => hl x (by
      cases r with
      | nil => simp at hx
      | cons b r => rw [List.getLast?_cons_cons]; exact hx))
    have hne : valW (a :: r) ≠ 0 := by
      cases r with
      | nil => have := hl a rfl; rw [valW, valW]; omega
      | cons b r =>
        have : valW (b :: r) ≠ 0 := by
          intro e
          rw [e, wd_zero] at hr
          cases hr
        rw [valW]; omega
    rw [wd_pos hne, valW]
    have e1 : (a + 4294967296 * valW r) % 4294967296 = a := by omega
    have e2 : (a + 4294967296 * valW r) / 4294967296 = valW r := by omega
    rw [e1, e2, hr]
theorem val_zero : ∀ (k : Nat), valW (List.replicate k 0) = 0
  | 0 => rfl
  | k + 1 => by rw [List.replicate_succ, valW, val_zero k]
/-- what the loop of trim keeps true: behind n all is nought -/
def TrimAt (l : List Nat) (n : Nat) : Prop := n ≤ l.length ∧ ∀ j x, n ≤ j → l[j]? = some x → x = 0
theorem TrimAt.start (l : List Nat) : TrimAt l l.length := ⟨Nat.le_refl _, fun j x hj hx => by rw [List.getElem?_eq_none hj] at hx; cases hx⟩
theorem TrimAt.step {l : List Nat} {n : Nat} (h : TrimAt l (n + 1)) (hx : l[n]? = some 0) : TrimAt l n := ⟨by have := h.1; omega, fun j x hj hx' => by
  rcases Nat.eq_or_lt_of_le hj with rfl | hj
  · rw [hx] at hx'; injection hx' with e; exact e.symm
  · exact h.2 j x hj hx'⟩
theorem TrimAt.val {l : List Nat} {n : Nat} (h : TrimAt l n) : valW l = valW (l.take n) := by
  have e : l = l.take n ++ List.replicate (l.length - n) 0 := by
    apply List.ext_getElem?
    intro j
    by_cases hj : j < n
    · rw [List.getElem?_append_left (by simp; have := h.1; omega), List.getElem?_take_of_lt hj]
    · rw [List.getElem?_append_right (by simp; omega)]
      have hl : (l.take n).length = n := by rw [List.length_take]; exact Nat.min_eq_left h.1
      rw [hl]
      by_cases hjl : j < l.length
      · rw [List.getElem?_eq_getElem hjl, h.2 j l[j] (by omega) (List.getElem?_eq_getElem hjl), List.getElem?_replicate_of_lt (by omega)]
      · rw [List.getElem?_eq_none (by omega), List.getElem?_eq_none (by simp; omega)]
  conv => lhs; rw [e]
  rw [val_append, val_zero]; omega
theorem TrimAt.fin {l : List Nat} {n : Nat} (hok : okW l) (h : TrimAt l n) (hl : ∀ j x, n = j + 1 → l[j]? = some x → x ≠ 0) : wd (valW l) = l.take n ∧ (wd (valW l)).length = n := by
  have e : wd (valW l) = l.take n := by
    rw [h.val]
    refine wd_last (fun x hx => hok x (List.mem_of_mem_take hx)) (fun x hx => ?_)
    cases n with
    | zero => simp at hx
    | succ j =>
      refine hl j x rfl ?_
      rw [List.getLast?_eq_getElem?, List.length_take, Nat.min_eq_left h.1] at hx
      simpa using hx
  exact ⟨e, by rw [e, List.length_take, Nat.min_eq_left h.1]⟩
def u32C (l : List Nat) : List Value := l.map fun (n : Nat) => .int .u32 (n : Int)
theorem u32C_length (l : List Nat) : (u32C l).length = l.length := by simp [u32C]
theorem u32_at {l : List Nat} {k n : Nat} (h : l[k]? = some n) : (u32C l)[k]? = some (.int .u32 (n : Int)) := by simp [u32C, h]
theorem u32C_take (l : List Nat) (n : Nat) : u32C (l.take n) = (u32C l).take n := by simp [u32C, List.map_take]
theorem wd_take {l : List Nat} (hok : okW l) : (wd (valW l)).length ≤ l.length ∧ wd (valW l) = l.take (wd (valW l)).length := by
  have h : ∀ n, TrimAt l n → ∃ m, TrimAt l m ∧ ∀ j x, m = j + 1 → l[j]? = some x → x ≠ 0 := by
    intro n
    induction n with
    | zero => intro h; exact ⟨0, h, fun j x e => by omega⟩
    | succ n ih =>
      intro h
      by_cases hz : l[n]? = some 0
      · exact ih (h.step hz)
      · exact ⟨n + 1, h, fun j x e hx e0 => by
          obtain rfl : n = j := by omega
          rw [e0] at hx; exact hz hx⟩
  obtain ⟨m, hm, hl⟩ := h _ (TrimAt.start l)
  have e := hm.fin hok hl
  exact ⟨by rw [e.2]; exact hm.1, by rw [e.2]; exact e.1⟩
theorem wd_len {n k : Nat} (h : n < 4294967296 ^ k) : (wd n).length ≤ k := by
  induction k generalizing n with
  | zero => have : n = 0 := by simpa using h
            subst this; rw [wd_zero]; simp
  | succ k ih =>
    by_cases h0 : n = 0
    · subst h0; rw [wd_zero]; simp
    · rw [wd_pos h0, List.length_cons]
      have := ih (n := n / 4294967296) (by rw [Nat.pow_succ] at h; exact Nat.div_lt_of_lt_mul (by rw [Nat.mul_comm]; exact h))
      omega
end Go.Proofs.Ytoolpppbbphbjaa
