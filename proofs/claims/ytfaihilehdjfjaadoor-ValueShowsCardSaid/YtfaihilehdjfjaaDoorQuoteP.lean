/- Plain: a text in quotes, and what stands in quotes (no program in sight). -/
import Derived.Test.YtfaihilehdjfjaaDoorMem
namespace Go.Proofs.YtfaihilehdjfjaaDoor

/-- a digit of sixteen -/
def hexB (n : Nat) : UInt8 := UInt8.ofNat (if n < 10 then 48 + n else 87 + n)
/-- a byte in quotes -/
def quoteB (c : UInt8) : List UInt8 :=
  if c.toNat = 34 ∨ c.toNat = 92 then [92, c]
  else if c.toNat < 32 ∨ 126 < c.toNat then [92, hexB (c.toNat / 16), hexB (c.toNat % 16)]
  else [c]
def quoteL (l : List UInt8) : List UInt8 := 34 :: (l.flatMap quoteB ++ [34])
def hexOf (c : UInt8) : Option Nat :=
  if 48 ≤ c.toNat ∧ c.toNat ≤ 57 then some (c.toNat - 48) else if 97 ≤ c.toNat ∧ c.toNat ≤ 102 then some (c.toNat - 87) else none
/-- what stands in quotes, behind i bytes -/
def unqG : Nat → List UInt8 → Nat → List UInt8 → Option (List UInt8 × Nat)
  | 0, _, _, _ => none
  | _ + 1, [], _, _ => none
  | f + 1, c :: r, i, acc =>
    if c.toNat = 34 then some (acc, i + 1)
    else if c.toNat < 32 ∨ 126 < c.toNat then none
    else if c.toNat ≠ 92 then unqG f r (i + 1) (acc ++ [c])
    else match r with
      | [] => none
      | d :: r1 =>
        if d.toNat = 34 ∨ d.toNat = 92 then unqG f r1 (i + 2) (acc ++ [d])
        else match r1 with
          | [] => none
          | e :: r2 =>
            match hexOf d, hexOf e with
            | some h, some k => if 32 ≤ h * 16 + k ∧ h * 16 + k ≤ 126 then none else unqG f r2 (i + 3) (acc ++ [UInt8.ofNat (h * 16 + k)])
            | _, _ => none
def unquoteL (l : List UInt8) : Option (List UInt8 × Nat) :=
  match l with
  | [] => none
  | c :: r => if c.toNat = 34 then unqG (r.length + 1) r 1 [] else none

theorem hexB_nat {n : Nat} (h : n < 16) : (hexB n).toNat = if n < 10 then 48 + n else 87 + n := by
  unfold hexB; split <;> simp <;> omega
theorem hexOf_hexB {n : Nat} (h : n < 16) : hexOf (hexB n) = some n := by
  unfold hexOf
  rw [hexB_nat h]
  by_cases h1 : n < 10
  · rw [if_pos h1, if_pos (by omega)]; congr 1; omega
  · rw [if_neg h1, if_neg (by omega), if_pos (by omega)]; congr 1; omega
theorem quote_plain (c d : UInt8) (h : d ∈ quoteB c) : 32 ≤ d.toNat ∧ d.toNat ≤ 126 := by
  unfold quoteB at h
  have hc := c.toNat_lt
  split at h
  · simp at h; rcases h with rfl | rfl
    · decide
    · omega
  · split at h
    · simp at h; rcases h with rfl | rfl | rfl
      · decide
      · rw [hexB_nat (by omega)]; split <;> omega
      · rw [hexB_nat (by omega)]; split <;> omega
    · simp at h; subst h; omega
theorem quoteL_plain (l : List UInt8) (d : UInt8) (h : d ∈ quoteL l) : 32 ≤ d.toNat ∧ d.toNat ≤ 126 := by
  simp only [quoteL, List.mem_cons, List.mem_append, List.mem_flatMap, List.not_mem_nil, or_false] at h
  rcases h with rfl | ⟨c, _, h⟩ | rfl
  · decide
  · exact quote_plain c d h
  · decide
theorem unqG_quote : ∀ (l : List UInt8) (f i : Nat) (acc more : List UInt8), l.length < f → unqG f (l.flatMap quoteB ++ 34 :: more) i acc = some (acc ++ l, i + (l.flatMap quoteB).length + 1)
  | [], 0, _, _, _, h => by simp at h
  | [], f + 1, i, acc, more, _ => by simp [unqG]
  | c :: l, 0, _, _, _, h => by simp at h
  | c :: l, f + 1, i, acc, more, h => by
    have hc := c.toNat_lt
    simp only [List.length_cons] at h
    rw [List.flatMap_cons, List.append_assoc]
    unfold quoteB
    split
    · rename_i hq
      simp only [List.cons_append, List.nil_append, unqG]
      rw [if_neg (by decide), if_neg (by decide), if_neg (by decide)]
      simp only [if_pos hq]
      have := unqG_quote l f (i + 2) (acc ++ [c]) more (by omega)
      rw [show List.flatMap (fun c => if c.toNat = 34 ∨ c.toNat = 92 then [92, c] else if c.toNat < 32 ∨ 126 < c.toNat then [92, hexB (c.toNat / 16), hexB (c.toNat % 16)] else [c]) l = l.flatMap quoteB from rfl, this]
      simp; omega
    · rename_i hq
      split
      · rename_i hx
        simp only [List.cons_append, List.nil_append, unqG]
        rw [if_neg (by decide), if_neg (by decide), if_neg (by decide)]
        have h1 := hexB_nat (n := c.toNat / 16) (by omega)
        have h2 : ¬ ((hexB (c.toNat / 16)).toNat = 34 ∨ (hexB (c.toNat / 16)).toNat = 92) := by rw [h1]; split <;> omega
        simp only [if_neg h2, hexOf_hexB (n := c.toNat / 16) (by omega), hexOf_hexB (n := c.toNat % 16) (by omega)]
        have e : c.toNat / 16 * 16 + c.toNat % 16 = c.toNat := by omega
        rw [e, if_neg (by omega)]
        have := unqG_quote l f (i + 3) (acc ++ [UInt8.ofNat c.toNat]) more (by omega)
        rw [show List.flatMap (fun c => if c.toNat = 34 ∨ c.toNat = 92 then [92, c] else if c.toNat < 32 ∨ 126 < c.toNat then [92, hexB (c.toNat / 16), hexB (c.toNat % 16)] else [c]) l = l.flatMap quoteB from rfl, this]
        simp; omega
      · rename_i hx
        simp only [List.cons_append, List.nil_append, unqG]
        rw [if_neg (by omega), if_neg hx, if_pos (by omega)]
        have := unqG_quote l f (i + 1) (acc ++ [c]) more (by omega)
        rw [show List.flatMap (fun c => if c.toNat = 34 ∨ c.toNat = 92 then [92, c] else if c.toNat < 32 ∨ 126 < c.toNat then [92, hexB (c.toNat / 16), hexB (c.toNat % 16)] else [c]) l = l.flatMap quoteB from rfl, this]
        simp; omega
theorem quoteB_le (l : List UInt8) : l.length ≤ (l.flatMap quoteB).length := by
  induction l with
  | nil => simp
  | cons c l ih =>
    have : 1 ≤ (quoteB c).length := by unfold quoteB; split <;> (try split) <;> simp
    rw [List.flatMap_cons, List.length_append, List.length_cons]; omega
theorem unquote_quote (l more : List UInt8) : unquoteL (quoteL l ++ more) = some (l, (quoteL l).length) := by
  have hl := quoteB_le l
  have := unqG_quote l ((l.flatMap quoteB ++ 34 :: more).length + 1) 1 [] more (by rw [List.length_append]; omega)
  simp only [quoteL, List.cons_append, List.append_assoc, List.nil_append, unquoteL]
  rw [if_pos (by decide), this]
  simp; omega
end Go.Proofs.YtfaihilehdjfjaaDoor
