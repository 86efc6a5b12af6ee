/- The plain law of an id's name as it is read: the document's way and the program's way are one. -/
import Derived.Test.YtfaihilehdjfjaaGreatDoorIdN
import Derived.Lib.Atoi
namespace Go.Proofs.YtfaihilehdjfjaaGreatDoor

/-- the document's number of digits -/
def wholeL (l : List UInt8) (most : Nat) : Int :=
  if l = [] then -1 else if most < l.length then -1 else if l.head? = some 48 ∧ 1 < l.length then -1
  else match Lib.decFrom 0 l with | some n => (n : Int) | none => -1
/-- the program's -/
def digL (l : List UInt8) : Int :=
  if l = [] then 0 else if l.head? = some 48 then 0 else if 7 < l.length then 0
  else match Lib.decFrom 0 l with | some n => (n : Int) | none => 0
/-- where the first '@' stands -/
def posA (l : List UInt8) : Nat := l.findIdx (· == 64)
/-- the id of a name -/
def parseL (l : List UInt8) : Option (Int × Int) :=
  if l = [114, 111, 111, 116] then some (0, 0)
  else if realB (digL (l.take (posA l))) (digL (l.drop (posA l + 1))) then some (digL (l.take (posA l)), digL (l.drop (posA l + 1))) else none

theorem decFrom_lt : ∀ (l : List UInt8) (acc n : Nat), Lib.decFrom acc l = some n → n < (acc + 1) * 10 ^ l.length
  | [], acc, n, h => by simp [Lib.decFrom] at h; subst h; simp
  | b :: r, acc, n, h => by
    simp only [Lib.decFrom] at h
    cases hd : Lib.digitVal b with
    | none => rw [hd] at h; cases h
    | some d =>
      rw [hd] at h
      have h' := decFrom_lt r _ _ h
      have hd9 : d ≤ 9 := by unfold Lib.digitVal at hd; split at hd <;> simp at hd; omega
      refine Nat.lt_of_lt_of_le h' ?_
      rw [List.length_cons, Nat.pow_succ, Nat.mul_comm (10 ^ r.length) 10, ← Nat.mul_assoc]
      exact Nat.mul_le_mul_right _ (by omega)
theorem decFrom_ge : ∀ (l : List UInt8) (acc n : Nat), Lib.decFrom acc l = some n → acc * 10 ^ l.length ≤ n
  | [], acc, n, h => by simp [Lib.decFrom] at h; subst h; simp
  | b :: r, acc, n, h => by
    simp only [Lib.decFrom] at h
    cases hd : Lib.digitVal b with
    | none => rw [hd] at h; cases h
    | some d =>
      rw [hd] at h
      refine Nat.le_trans ?_ (decFrom_ge r _ _ h)
      rw [List.length_cons, Nat.pow_succ, Nat.mul_comm (10 ^ r.length) 10, ← Nat.mul_assoc]
      exact Nat.mul_le_mul_right _ (by omega)
theorem digitVal_48 {b : UInt8} {d : Nat} (h : Lib.digitVal b = some d) : d = b.toNat - 48 ∧ 48 ≤ b.toNat ∧ b.toNat ≤ 57 := by
  unfold Lib.digitVal at h
  split at h
  · simp at h; omega
  · cases h
theorem dig_big {l : List UInt8} {n : Nat} (h : Lib.decFrom 0 l = some n) (h0 : l.head? ≠ some 48) (h2 : 2 < l.length) : 100 ≤ n := by
  match l with
  | b :: r =>
    simp only [Lib.decFrom] at h
    cases hd : Lib.digitVal b with
    | none => rw [hd] at h; cases h
    | some d =>
      rw [hd] at h
      obtain ⟨h1, h3, h4⟩ := digitVal_48 hd
      have hb : b.toNat ≠ 48 := fun e => h0 (by simp; exact UInt8.toNat_inj.1 e)
      have hr : 2 ≤ r.length := by simp at h2; omega
      have hge := decFrom_ge r _ _ h
      have hp : (10 : Nat) ^ 2 ≤ 10 ^ r.length := Nat.pow_le_pow_right (by omega) hr
      have : 1 * 10 ^ r.length ≤ (0 * 10 + d) * 10 ^ r.length := Nat.mul_le_mul_right _ (by omega)
      omega
theorem whole_num (l : List UInt8) : numB (wholeL l 7) = numB (digL l) ∧ (numB (digL l) = true → wholeL l 7 = digL l) := by
  unfold wholeL digL
  by_cases h0 : l = []
  · simp [h0, numB]
  rw [if_neg h0, if_neg h0]
  by_cases h1 : l.head? = some 48
  · rw [if_pos h1]
    by_cases h7 : 7 < l.length
    · simp [h7, numB]
    rw [if_neg h7]
    by_cases h2 : 1 < l.length
    · simp [h1, h2, numB]
    · match l, h0, h1, h2 with
      | [b], _, h1, _ =>
        have : b = 48 := by simpa using h1
        subst this
        simp [Lib.decFrom, Lib.digitVal, numB]
      | _ :: _ :: _, _, _, h2 => simp at h2
  · rw [if_neg h1]
    by_cases h7 : 7 < l.length
    · simp [h7, numB]
    rw [if_neg h7, if_neg h7, if_neg (by simp [h1])]
    cases Lib.decFrom 0 l <;> simp [numB]
theorem whole_actor (l : List UInt8) : actorB (wholeL l 2) = actorB (digL l) ∧ (actorB (digL l) = true → wholeL l 2 = digL l) := by
  unfold wholeL digL
  by_cases h0 : l = []
  · simp [h0, actorB]
  rw [if_neg h0, if_neg h0]
  by_cases h1 : l.head? = some 48
  · rw [if_pos h1]
    by_cases h7 : 2 < l.length
    · simp [h7, actorB]
    rw [if_neg h7]
    by_cases h2 : 1 < l.length
    · simp [h1, h2, actorB]
    · match l, h0, h1, h2 with
      | [b], _, h1, _ =>
        have : b = 48 := by simpa using h1
        subst this
        simp [Lib.decFrom, Lib.digitVal, actorB]
      | _ :: _ :: _, _, _, h2 => simp at h2
  · rw [if_neg h1]
    by_cases h2 : 2 < l.length
    · rw [if_pos h2]
      by_cases h7 : 7 < l.length
      · simp [h7, actorB]
      rw [if_neg h7]
      cases hd : Lib.decFrom 0 l with
      | none => simp [actorB]
      | some n =>
        have := dig_big hd h1 h2
        have hf : actorB ((n : Nat) : Int) = false := by
          have : ¬ ((n : Int) ≤ 99) := by omega
          simp [actorB, this]
        simp only [hf]
        exact ⟨by simp [actorB], fun h => by cases h⟩
    · rw [if_neg h2, if_neg (by simp [h1]), if_neg (by omega)]
      cases Lib.decFrom 0 l <;> simp [actorB]
theorem real_whole (n a : List UInt8) : realB (wholeL n 7) (wholeL a 2) = realB (digL n) (digL a) ∧ (realB (digL n) (digL a) = true → wholeL n 7 = digL n ∧ wholeL a 2 = digL a) := by
  have h1 := whole_num n
  have h2 := whole_actor a
  unfold realB
  rw [h1.1, h2.1]
  refine ⟨rfl, fun h => ?_⟩
  rw [Bool.and_eq_true] at h
  exact ⟨h1.2 h.1, h2.2 h.2⟩
theorem digL_nil : digL [] = 0 := rfl
theorem posA_le (l : List UInt8) : posA l ≤ l.length := List.findIdx_le_length
theorem posA_at {l : List UInt8} {k : Nat} (h : l[k]? = some 64) (h0 : ∀ j : Nat, j < k → l[j]? ≠ some 64) : posA l = k := by
  obtain ⟨hlt, e⟩ := List.getElem?_eq_some_iff.1 h
  unfold posA
  rw [List.findIdx_eq (by simpa using hlt)]
  refine ⟨by simp [e], fun j hj => ?_⟩
  have := h0 j hj
  have hj' : j < l.length := by omega
  rw [List.getElem?_eq_getElem hj'] at this
  simpa using this
theorem posA_none {l : List UInt8} (h0 : ∀ j : Nat, l[j]? ≠ some 64) : posA l = l.length := by
  unfold posA
  rw [List.findIdx_eq_length]
  intro x hx
  obtain ⟨j, hj⟩ := List.getElem?_of_mem hx
  have := h0 j
  rw [hj] at this
  simpa using this
theorem parse_none {l : List UInt8} (h : l ≠ [114, 111, 111, 116]) (h0 : ∀ j : Nat, l[j]? ≠ some 64) : parseL l = none := by
  unfold parseL
  rw [if_neg h, posA_none h0, List.drop_eq_nil_of_le (by omega), digL_nil]
  simp [realB, actorB]
theorem parse_at {l : List UInt8} {k : Nat} (hr : l ≠ [114, 111, 111, 116]) (h : l[k]? = some 64) (h0 : ∀ j : Nat, j < k → l[j]? ≠ some 64) :
    parseL l = if realB (wholeL (l.take k) 7) (wholeL (l.drop (k + 1)) 2) then some (wholeL (l.take k) 7, wholeL (l.drop (k + 1)) 2) else none := by
  unfold parseL
  rw [if_neg hr, posA_at h h0]
  obtain ⟨e1, e2⟩ := real_whole (l.take k) (l.drop (k + 1))
  rw [e1]
  by_cases hb : realB (digL (l.take k)) (digL (l.drop (k + 1))) = true
  · rw [if_pos hb, if_pos hb, (e2 hb).1, (e2 hb).2]
  · rw [if_neg hb, if_neg hb]
end Go.Proofs.YtfaihilehdjfjaaGreatDoor
