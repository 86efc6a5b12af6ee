/- Plain: what is packed is unpacked, and what is unpacked is packed (no program in sight). -/
import Derived.Test.YtgkpeeilmknmfaaDoorUnpack
import Derived.Test.YtgkpeeilmknmfaaDoorBytes7
namespace Go.Proofs.YtgkpeeilmknmfaaDoor
open Go.RowKit

def I64 (x : Int) : Prop := -9223372036854775808 ≤ x ∧ x ≤ 9223372036854775807
theorem wrap64_bd (x : Int) : I64 (wrap64 x) := by unfold wrap64 I64; omega
theorem sums_deltas : ∀ (l : List Int) (s : Int), (∀ x ∈ l, I64 x) → sumsF s (deltasF s l) = l
  | [], _, _ => rfl
  | x :: l, s, h => by
    have hx : I64 x := h x (by simp)
    have e : wrap64 (s + wrap64 (x - s)) = x := by unfold wrap64; unfold I64 at hx; omega
    rw [deltasF, sumsF, e, sums_deltas l x (fun y hy => h y (by simp [hy]))]
theorem deltas_sums : ∀ (l : List Int) (s : Int), (∀ x ∈ l, I64 x) → deltasF s (sumsF s l) = l
  | [], _, _ => rfl
  | x :: l, s, h => by
    have hx : I64 x := h x (by simp)
    have e : wrap64 (wrap64 (s + x) - s) = x := by unfold wrap64; unfold I64 at hx; omega
    rw [sumsF, deltasF, e, deltas_sums l _ (fun y hy => h y (by simp [hy]))]
theorem sumsF_bd : ∀ (l : List Int) (s x : Int), x ∈ sumsF s l → I64 x
  | [], _, _, h => by simp [sumsF] at h
  | y :: l, s, x, h => by
    rw [sumsF, List.mem_cons] at h
    rcases h with h | h
    · rw [h]; exact wrap64_bd _
    · exact sumsF_bd l _ x h
theorem deltasF_bd : ∀ (l : List Int) (s x : Int), x ∈ deltasF s l → I64 x
  | [], _, _, h => by simp [deltasF] at h
  | y :: l, s, x, h => by
    rw [deltasF, List.mem_cons] at h
    rcases h with h | h
    · rw [h]; exact wrap64_bd _
    · exact deltasF_bd l _ x h

/-- neighbours differ, each at least once -/
def Adj : Option Int → List (Int × Int) → Prop
  | _, [] => True
  | o, (m, s) :: p => 1 ≤ m ∧ o ≠ some s ∧ Adj (some s) p
theorem Adj.weak : ∀ {p : List (Int × Int)} {o : Option Int}, Adj o p → Adj none p
  | [], _, _ => trivial
  | (_, _) :: _, _, h => ⟨h.1, by simp, h.2.2⟩
theorem Adj.one : ∀ {p : List (Int × Int)} {o : Option Int}, Adj o p → ∀ x ∈ p, 1 ≤ x.1
  | [], _, _, x, hx => by simp at hx
  | (m, s) :: p, _, h, x, hx => by
    rcases List.mem_cons.1 hx with hx | hx
    · subst hx; exact h.1
    · exact Adj.one h.2.2 x hx
theorem runsG_rep : ∀ (k : Nat) (m x : Int) (l : List Int), runsG m x (List.replicate k x ++ l) = runsG (m + k) x l
  | 0, m, x, l => by simp
  | k + 1, m, x, l => by
    rw [List.replicate_succ, List.cons_append, runsG, if_pos rfl, runsG_rep k (m + 1) x l]
    congr 1; omega
theorem expandL_cons (m s : Int) (p : List (Int × Int)) : expandL ((m, s) :: p) = List.replicate m.toNat s ++ expandL p := by simp [expandL]
theorem expandL_append (p q : List (Int × Int)) : expandL (p ++ q) = expandL p ++ expandL q := by simp [expandL]
theorem runsG_expand : ∀ (p : List (Int × Int)) (m x : Int), Adj (some x) p → runsG m x (expandL p) = (m, x) :: p
  | [], m, x, _ => rfl
  | (n, s) :: p, m, x, h => by
    obtain ⟨k, hk⟩ : ∃ k : Nat, n.toNat = k + 1 := ⟨n.toNat - 1, by have := h.1; omega⟩
    have hs : s ≠ x := fun e => h.2.1 (by rw [e])
    rw [expandL_cons, hk, List.replicate_succ, List.cons_append, runsG, if_neg hs, runsG_rep, runsG_expand p _ s h.2.2]
    have : (1 : Int) + (k : Int) = n := by have := h.1; omega
    rw [this]
theorem runsL_expand : ∀ {p : List (Int × Int)} {o : Option Int}, Adj o p → runsL (expandL p) = p
  | [], _, _ => rfl
  | (n, s) :: p, _, h => by
    obtain ⟨k, hk⟩ : ∃ k : Nat, n.toNat = k + 1 := ⟨n.toNat - 1, by have := h.1; omega⟩
    rw [expandL_cons, hk, List.replicate_succ, List.cons_append, runsL, runsG_rep, runsG_expand p _ s h.2.2]
    have : (1 : Int) + (k : Int) = n := by have := h.1; omega
    rw [this]
theorem runsG_adj : ∀ (l : List Int) (m x : Int) (o : Option Int), 1 ≤ m → o ≠ some x → Adj o (runsG m x l)
  | [], m, x, o, hm, ho => ⟨hm, ho, trivial⟩
  | y :: l, m, x, o, hm, ho => by
    simp only [runsG]
    split
    · exact runsG_adj l (m + 1) x o (by omega) ho
    · rename_i hy
      exact ⟨hm, ho, runsG_adj l 1 y (some x) (by omega) (fun e => hy (by injection e with e; exact e.symm))⟩
theorem runsL_adj (l : List Int) : Adj none (runsL l) := by
  cases l with
  | nil => trivial
  | cons x l => exact runsG_adj l 1 x none (by omega) (by simp)
theorem expand_runsG : ∀ (l : List Int) (m x : Int), 1 ≤ m → expandL (runsG m x l) = List.replicate m.toNat x ++ l
  | [], m, x, _ => by simp [runsG, expandL]
  | y :: l, m, x, hm => by
    simp only [runsG]
    split
    · rename_i hy
      subst hy
      rw [expand_runsG l (m + 1) y (by omega), show (m + 1).toNat = m.toNat + 1 by omega, List.replicate_succ', List.append_assoc]
      rfl
    · rw [expandL_cons, expand_runsG l 1 y (by omega)]; rfl
theorem expand_runs (l : List Int) : expandL (runsL l) = l := by
  cases l with
  | nil => rfl
  | cons x l => rw [runsL, expand_runsG l 1 x (by omega)]; rfl
theorem spread_runs (l : List Int) (h : l.length ≤ 400) : spreadF [] (runsL l) = .ok l := by
  rw [spreadF_ok _ _ (Adj.one (runsL_adj l)), List.nil_append, expand_runs]
  rw [List.length_nil, ← expandL_length, expand_runs]; omega

/-- what a reader's Num and Signed take -/
theorem rdNum_ok {l : List UInt8} {most at_ m at1 : Nat} (h : rdNum l most at_ false = (m, at1, false)) : at_ ≤ at1 ∧ at1 ≤ at_ + (l.drop at_).length ∧ m ≤ most ∧ (l.drop at_).take (at1 - at_) = putN m := by
  simp only [rdNum, Bool.false_eq_true, if_false] at h
  cases hg : getN (l.drop at_) with
  | none => rw [hg] at h; simp at h
  | some x =>
    obtain ⟨n, k⟩ := x
    rw [hg] at h
    simp only at h
    split at h
    · rename_i hm
      simp only [Prod.mk.injEq, and_true] at h
      obtain ⟨rfl, rfl⟩ := h
      have hk := (getN_at hg).2
      exact ⟨by omega, by omega, hm, by rw [Nat.add_sub_cancel_left]; exact putN_getN hg⟩
    · simp at h
theorem rdInt_ok {l : List UInt8} {at_ at1 : Nat} {s : Int} (h : rdInt l at_ false = (s, at1, false)) : at_ ≤ at1 ∧ at1 ≤ at_ + (l.drop at_).length ∧ (l.drop at_).take (at1 - at_) = putS s := by
  simp only [rdInt, Bool.false_eq_true, if_false] at h
  unfold getS at h
  cases hg : getN (l.drop at_) with
  | none => rw [hg] at h; simp at h
  | some x =>
    obtain ⟨n, k⟩ := x
    rw [hg] at h
    simp only [Option.map_some, Prod.mk.injEq, and_true] at h
    obtain ⟨rfl, rfl⟩ := h
    have hk := (getN_at hg).2
    exact ⟨by omega, by omega, by rw [Nat.add_sub_cancel_left, putS, zz_unzz]; exact putN_getN hg⟩
theorem rdInt_bad {l : List UInt8} {at_ : Nat} : rdInt l at_ true = (0, at_, true) := by simp [rdInt]
theorem take_two {α : Type} (l : List α) (i j : Nat) : l.take (i + j) = l.take i ++ (l.drop i).take j := by rw [List.take_add]

theorem upkG_ok : ∀ (f : Nat) (l : List UInt8) (left at_ : Nat) (p q : List (Int × Int)) (at' : Nat), upkG f l left at_ p = some (q, at') →
    ∃ ps, q = p ++ ps ∧ Adj (p.getLast?.map (·.2)) ps ∧ manys ps = left ∧ at_ ≤ at' ∧ at' ≤ at_ + (l.drop at_).length ∧ (l.drop at_).take (at' - at_) = piecesB ps ∧ (∀ x ∈ ps, I64 x.2)
  | 0, l, left, at_, p, q, at', h => by simp [upkG] at h
  | f + 1, l, left, at_, p, q, at', h => by
    simp only [upkG] at h
    split at h
    · rename_i h0
      simp only [Option.some.injEq, Prod.mk.injEq] at h
      obtain ⟨rfl, rfl⟩ := h
      exact ⟨[], by simp, trivial, by simp [manys, h0], by omega, by omega, by simp [piecesB], by simp⟩
    · split at h
      · cases h
      · rename_i hno
        obtain ⟨m, at1, bad1, e1⟩ : ∃ m at1 bad1, rdNum l left at_ false = (m, at1, bad1) := ⟨_, _, _, rfl⟩
        obtain ⟨s, at2, bad2, e2⟩ : ∃ s at2 bad2, rdInt l at1 bad1 = (s, at2, bad2) := ⟨_, _, _, rfl⟩
        simp only [e1, e2] at h hno
        have hb2 : bad2 = false := by cases bad2 <;> simp at hno ⊢
        subst hb2
        have hb1 : bad1 = false := by
          cases bad1 with
          | false => rfl
          | true => rw [rdInt_bad] at e2; simp at e2
        subst hb1
        obtain ⟨n1, n2, n3, n4⟩ := rdNum_ok e1
        obtain ⟨s1, s2, s3⟩ := rdInt_ok e2
        have hs : I64 s := by have := rdInt_bd (l := l) (at_ := at1) (bad := false); rw [e2] at this; exact this
        have hm : ¬ m < 1 := fun h => hno (.inr (.inl h))
        have hl : p.getLast?.map (·.2) ≠ some s := fun h => hno (.inr (.inr h))
        obtain ⟨ps, h1, h2, h3, h4, h5, h6, h7⟩ := upkG_ok f l (left - m) at2 _ q at' h
        simp only [List.length_drop] at n2 s2 h5
        refine ⟨((m : Int), s) :: ps, by rw [h1, List.append_assoc]; rfl, ⟨by omega, hl, by simpa using h2⟩, by simp [manys, h3]; omega, by omega, by simp only [List.length_drop]; omega, ?_, ?_⟩
        · rw [show at' - at_ = (at1 - at_) + ((at2 - at1) + (at' - at2)) by omega, take_two, n4, List.drop_drop, show at_ + (at1 - at_) = at1 by omega, take_two, s3, List.drop_drop, show at1 + (at2 - at1) = at2 by omega, h6]
          simp [piecesB, pieceB]
        · intro x hx
          rcases List.mem_cons.1 hx with hx | hx
          · subst hx; exact hs
          · exact h7 x hx
theorem unpackL_ok {l : List UInt8} {got : List Int} {at' : Nat} (h : unpackL l = some (got, at')) : got.length ≤ 400 ∧ at' ≤ l.length ∧ packL got = l.take at' ∧ ∀ x ∈ got, I64 x := by
  unfold unpackL at h
  obtain ⟨n, at1, bad1, e1⟩ : ∃ n at1 bad1, rdNum l 400 0 false = (n, at1, bad1) := ⟨_, _, _, rfl⟩
  simp only [e1] at h
  split at h
  · cases h
  · rename_i hb
    have hb1 : bad1 = false := by cases bad1 <;> simp at hb ⊢
    subst hb1
    obtain ⟨n1, n2, n3, n4⟩ := rdNum_ok e1
    cases hu : upkG 401 l n at1 [] with
    | none => rw [hu] at h; cases h
    | some x =>
      obtain ⟨q, at2⟩ := x
      rw [hu] at h
      simp only [Option.map_some, Option.some.injEq, Prod.mk.injEq] at h
      obtain ⟨rfl, rfl⟩ := h
      obtain ⟨ps, h1, h2, h3, h4, h5, h6, h7⟩ := upkG_ok _ _ _ _ _ _ _ hu
      rw [List.nil_append] at h1
      subst h1
      simp only [List.drop_zero, Nat.sub_zero, List.length_drop] at n2 n4 h5
      have hlen : (sumsF 0 (expandL q)).length = n := by rw [sumsF_length, expandL_length, h3]
      have hbd : ∀ x ∈ expandL q, I64 x := by
        intro x hx
        simp only [expandL, List.mem_flatMap] at hx
        obtain ⟨y, hy, hx⟩ := hx
        have := List.eq_of_mem_replicate hx
        subst this
        exact h7 y hy
      refine ⟨by omega, by omega, ?_, fun x hx => sumsF_bd _ _ x hx⟩
      rw [packL, hlen, deltas_sums _ _ hbd, runsL_expand h2, show at2 = at1 + (at2 - at1) by omega, take_two, n4, h6]

theorem rdNum_put {l more : List UInt8} {most at_ n : Nat} (h : l.drop at_ = putN n ++ more) (hn : n ≤ most) (hm : most < 2 ^ 64) : rdNum l most at_ false = (n, at_ + (putN n).length, false) := by
  simp only [rdNum, Bool.false_eq_true, if_false, h, getN_putN n more (by omega), if_pos hn]
theorem rdInt_put {l more : List UInt8} {at_ : Nat} {s : Int} (h : l.drop at_ = putS s ++ more) (hs : I64 s) : rdInt l at_ false = (s, at_ + (putS s).length, false) := by
  simp only [rdInt, Bool.false_eq_true, if_false, h, getS, putS, getN_putN (zz s) more (zz_lt hs), Option.map_some, unzz_zz]
theorem drop_more {l a b : List UInt8} {at_ : Nat} (h : l.drop at_ = a ++ b) : l.drop (at_ + a.length) = b := by
  rw [← List.drop_drop, h, List.drop_left]
theorem upkG_put : ∀ (ps : List (Int × Int)) (f : Nat) (l : List UInt8) (left at_ : Nat) (p : List (Int × Int)) (more : List UInt8), l.drop at_ = piecesB ps ++ more → Adj (p.getLast?.map (·.2)) ps → manys ps = left → left < f → left ≤ 400 → (∀ x ∈ ps, I64 x.2) →
    upkG f l left at_ p = some (p ++ ps, at_ + (piecesB ps).length)
  | [], 0, _, _, _, _, _, _, _, _, hf, _, _ => by omega
  | [], f + 1, l, left, at_, p, more, _, _, h3, _, _, _ => by
    simp only [manys] at h3
    simp [upkG, ← h3, piecesB]
  | _ :: _, 0, _, _, _, _, _, _, _, _, hf, _, _ => by omega
  | (m, s) :: ps, f + 1, l, left, at_, p, more, hl, hA, h3, hf, h4, hI => by
    obtain ⟨k, rfl⟩ : ∃ k : Nat, m = (k : Int) := ⟨m.toNat, by have := hA.1; omega⟩
    have hk : 1 ≤ k := by have := hA.1; omega
    simp only [manys, Int.toNat_natCast] at h3
    have hs : I64 s := hI ((k : Int), s) (by simp)
    have e0 : l.drop at_ = putN k ++ (putS s ++ (piecesB ps ++ more)) := by rw [hl]; simp [piecesB, pieceB]
    have e1 := rdNum_put (most := left) e0 (by omega) (by omega)
    have e2 := rdInt_put (drop_more e0) hs
    have e3 := drop_more (drop_more e0)
    rw [upkG, if_neg (by omega)]
    simp only [e1, e2]
    rw [if_neg (by
      intro h
      rcases h with h | h | h
      · cases h
      · omega
      · exact hA.2.1 h)]
    rw [upkG_put ps f l (left - k) _ _ more e3 (by simpa using hA.2.2) (by omega) (by omega) (by omega) (fun x hx => hI x (by simp [hx]))]
    simp [piecesB, pieceB]
    omega
theorem unpack_pack {l : List Int} {more : List UInt8} (hl : l.length ≤ 400) (hI : ∀ x ∈ l, I64 x) : unpackL (packL l ++ more) = some (l, (packL l).length) := by
  have hm : manys (runsL (deltasF 0 l)) = l.length := by rw [← expandL_length, expand_runs, deltasF_length]
  have e0 : (packL l ++ more).drop 0 = putN l.length ++ (piecesB (runsL (deltasF 0 l)) ++ more) := by simp [packL]
  have e1 := rdNum_put (most := 400) e0 hl (by omega)
  have e3 := drop_more e0
  have e4 := upkG_put (runsL (deltasF 0 l)) 401 (packL l ++ more) l.length _ [] more e3 (runsL_adj _) hm (by omega) hl (fun x hx => deltasF_bd l 0 _ (runsL_mem hx).2.2)
  simp only [unpackL, e1, Bool.false_eq_true, if_false, e4, Option.map_some, List.nil_append, expand_runs, sums_deltas l 0 hI]
  simp [packL]

/-- flags -/
theorem unflag_flagsG : ∀ (l : List Bool) (now : Bool) (c i : Nat) (acc : List Bool), acc.length + c + l.length ≤ 400 → (0 < i → 1 ≤ c) → now = decide (i % 2 = 1) → unflagG i acc (flagsG now c l) = .ok (acc ++ List.replicate c now ++ l)
  | [], now, c, i, acc, h, hc, hn => by
    simp only [List.length_nil] at h
    rw [flagsG, unflagG, if_neg (by omega), if_neg (by omega), unflagG, ← hn]
    simp
  | f :: l, now, c, i, acc, h, hc, hn => by
    simp only [List.length_cons] at h
    simp only [flagsG]
    split
    · rename_i hf
      subst hf
      have := unflag_flagsG l f (c + 1) i acc (by omega) (by omega) hn
      rw [show ((c : Int) + 1) = ((c + 1 : Nat) : Int) by omega, this, List.replicate_succ']
      simp
    · rename_i hf
      rw [unflagG, if_neg (by omega), if_neg (by omega), ← hn]
      have := unflag_flagsG l f 1 (i + 1) (acc ++ List.replicate c now) (by simp; omega) (by omega) (by
        subst hn
        cases f
        · have : i % 2 = 1 := by simpa using hf
          simp; omega
        · have : ¬ i % 2 = 1 := by simpa using hf
          simp; omega)
      simp only [Int.toNat_natCast]
      rw [show (1 : Int) = ((1 : Nat) : Int) from rfl, this]
      simp
theorem flagsG_ne : ∀ (l : List Bool) (now : Bool) (c : Nat), 1 ≤ c + l.length → flagsG now c l ≠ [0] ∨ (c = 0 ∧ ∃ f r, l = f :: r)
  | [], now, c, h => .inl (by simp only [List.length_nil] at h; simp [flagsG]; omega)
  | f :: l, now, c, h => by
    by_cases hc : c = 0
    · exact .inr ⟨hc, f, l, rfl⟩
    · refine .inl ?_
      simp only [flagsG]
      split
      · rcases flagsG_ne l now (c + 1) (by omega) with h1 | h1
        · exact h1
        · omega
      · intro e
        injection e with e1 e2
        omega
theorem flagsL_ne (l : List Bool) : flagsL l ≠ [0] := by
  cases l with
  | nil => simp [flagsL]
  | cons f l =>
    simp only [flagsL, flagsG]
    split
    · rcases flagsG_ne l false 1 (by omega) with h1 | h1
      · exact h1
      · omega
    · rcases flagsG_ne l f 1 (by omega) with h1 | h1
      · intro e
        injection e with e1 e2
        cases l <;> simp [flagsG] at e2
        split at e2
        · rename_i h; revert e2; rename_i a b; intro e2
          have : ∀ (l : List Bool) (now : Bool) (c : Int), flagsG now c l ≠ [] := by
            intro l
            induction l with
            | nil => intro now c; simp [flagsG]
            | cons x l ih => intro now c; simp only [flagsG]; split; exact ih _ _; simp
          exact this _ _ _ e2
        · simp at e2
      · omega
theorem unflag_flags (l : List Bool) (h : l.length ≤ 400) : unflagF (flagsL l) = .ok l := by
  have hu : unflagG 0 [] (flagsL l) = .ok l := by
    cases l with
    | nil => rfl
    | cons f l =>
      have := unflag_flagsG (f :: l) false 0 0 [] (by simpa using h) (by omega) (by simp)
      simpa [flagsL] using this
  rw [unflagF, hu]
  simp only [flagsL_ne, if_false]
end Go.Proofs.YtgkpeeilmknmfaaDoor
