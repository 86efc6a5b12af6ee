/- Plain: a tree that is balanced by heights (no program in sight); each node with its place. -/
import Derived.Test.YtfaihilehdjfjaaDoorMem
namespace Go.Proofs.YtfaihilehdjfjaaDoor

inductive T where
  | nil : T
  | node : T → Nat → Int → Int → T → T
namespace T
def ht : T → Nat
  | nil => 0
  | node l _ _ _ r => 1 + max (ht l) (ht r)
def cnt : T → Nat
  | nil => 0
  | node l _ _ _ r => 1 + cnt l + cnt r
def wid : T → Int
  | nil => 0
  | node l _ _ b r => b + wid l + wid r
def toL : T → List (Int × Int)
  | nil => []
  | node l _ a b r => toL l ++ (a, b) :: toL r
def ads : T → List Nat
  | nil => []
  | node l g _ _ r => g :: (ads l ++ ads r)
def left : T → T
  | nil => nil
  | node l _ _ _ _ => l
def right : T → T
  | nil => nil
  | node _ _ _ _ r => r
def rotR : T → T
  | node (node a k p q b) g x y r => node a k p q (node b g x y r)
  | t => t
def rotL : T → T
  | node l g x y (node a k p q b) => node (node l g x y a) k p q b
  | t => t
def evenT (l : T) (g : Nat) (x y : Int) (r : T) : T :=
  if ht r + 1 < ht l then (if ht l.left < ht l.right then rotR (node (rotL l) g x y r) else rotR (node l g x y r))
  else if ht l + 1 < ht r then (if ht r.right < ht r.left then rotL (node l g x y (rotR r)) else rotL (node l g x y r))
  else node l g x y r
def insT : T → Nat → Nat → Int → Int → T
  | nil, _, k, a, b => node nil k a b nil
  | node l g x y r, at_, k, a, b => if at_ ≤ cnt l then evenT (insT l at_ k a b) g x y r else evenT l g x y (insT r (at_ - cnt l - 1) k a b)
/-- the first one taken out: what stays, and the first one -/
def firstT : T → T × Nat × Int × Int
  | nil => (nil, 0, 0, 0)
  | node nil g x y r => (r, g, x, y)
  | node (node a k p q b) g x y r => (evenT (firstT (node a k p q b)).1 g x y r, (firstT (node a k p q b)).2)
def remT : T → Nat → T × Nat × Int × Int
  | nil, _ => (nil, 0, 0, 0)
  | node l g x y r, at_ =>
    if at_ < cnt l then (evenT (remT l at_).1 g x y r, (remT l at_).2)
    else if cnt l < at_ then (evenT l g x y (remT r (at_ - cnt l - 1)).1, (remT r (at_ - cnt l - 1)).2)
    else match r with
      | nil => (l, g, x, y)
      | node a k p q b => (evenT l (firstT (node a k p q b)).2.1 (firstT (node a k p q b)).2.2.1 (firstT (node a k p q b)).2.2.2 (firstT (node a k p q b)).1, g, x, y)
def avl : T → Prop
  | nil => True
  | node l _ _ _ r => avl l ∧ avl r ∧ ht l ≤ ht r + 1 ∧ ht r ≤ ht l + 1
theorem ht_pos {t : T} (h : 0 < ht t) : ∃ l g x y r, t = node l g x y r := by
  cases t with
  | nil => simp [ht] at h
  | node l g x y r => exact ⟨l, g, x, y, r, rfl⟩
theorem cnt_pos {t : T} (h : 0 < cnt t) : ∃ l g x y r, t = node l g x y r := by
  cases t with
  | nil => simp [cnt] at h
  | node l g x y r => exact ⟨l, g, x, y, r, rfl⟩
theorem ht_le_cnt : ∀ t : T, ht t ≤ cnt t
  | nil => Nat.le_refl _
  | node l _ _ _ r => by have := ht_le_cnt l; have := ht_le_cnt r; simp only [ht, cnt]; omega
theorem cnt_toL : ∀ t : T, (toL t).length = cnt t
  | nil => rfl
  | node l _ _ _ r => by have := cnt_toL l; have := cnt_toL r; simp only [toL, cnt, List.length_append, List.length_cons]; omega
theorem cnt_ads : ∀ t : T, (ads t).length = cnt t
  | nil => rfl
  | node l _ _ _ r => by have := cnt_ads l; have := cnt_ads r; simp only [ads, cnt, List.length_append, List.length_cons]; omega
theorem toL_rotR (t : T) : toL (rotR t) = toL t := by
  match t with
  | nil => rfl
  | node nil g x y r => rfl
  | node (node a k p q b) g x y r => simp [rotR, toL]
theorem toL_rotL (t : T) : toL (rotL t) = toL t := by
  match t with
  | nil => rfl
  | node l g x y nil => rfl
  | node l g x y (node a k p q b) => simp [rotL, toL]
theorem toL_even (l : T) (g : Nat) (x y : Int) (r : T) : toL (evenT l g x y r) = toL l ++ (x, y) :: toL r := by
  unfold evenT
  split
  · split
    · rw [toL_rotR, toL, toL_rotL]
    · rw [toL_rotR, toL]
  · split
    · split
      · rw [toL_rotL, toL, toL_rotR]
      · rw [toL_rotL, toL]
    · rw [toL]
theorem cnt_even (l : T) (g : Nat) (x y : Int) (r : T) : cnt (evenT l g x y r) = 1 + cnt l + cnt r := by
  rw [← cnt_toL, toL_even, List.length_append, List.length_cons, cnt_toL, cnt_toL]; omega
theorem perm_rotR (t : T) : (ads (rotR t)).Perm (ads t) := by
  match t with
  | nil => exact .refl _
  | node nil g x y r => exact .refl _
  | node (node a k p q b) g x y r =>
    simp only [rotR, ads]
    refine List.perm_iff_count.2 fun z => ?_
    simp only [List.count_cons, List.count_append]
    omega
theorem perm_rotL (t : T) : (ads (rotL t)).Perm (ads t) := by
  match t with
  | nil => exact .refl _
  | node l g x y nil => exact .refl _
  | node l g x y (node a k p q b) =>
    simp only [rotL, ads]
    refine List.perm_iff_count.2 fun z => ?_
    simp only [List.count_cons, List.count_append]
    omega
theorem perm_even (l : T) (g : Nat) (x y : Int) (r : T) : (ads (evenT l g x y r)).Perm (g :: (ads l ++ ads r)) := by
  unfold evenT
  split
  · split
    · refine (perm_rotR _).trans ?_
      simp only [ads]
      exact ((perm_rotL l).append_right _).cons _
    · exact perm_rotR _
  · split
    · split
      · refine (perm_rotL _).trans ?_
        simp only [ads]
        exact ((perm_rotR r).append_left _).cons _
      · exact perm_rotL _
    · exact .refl _
theorem toL_ins : ∀ (t : T) (at_ k : Nat) (a b : Int), at_ ≤ cnt t → toL (insT t at_ k a b) = (toL t).take at_ ++ (a, b) :: (toL t).drop at_
  | nil, at_, _, _, _, h => by
    have : at_ = 0 := by simpa [cnt] using h
    subst this; rfl
  | node l g x y r, at_, k, a, b, h => by
    simp only [cnt] at h
    have hl := cnt_toL l
    simp only [insT]
    split
    · rename_i hc
      rw [toL_even, toL_ins l at_ k a b hc, toL, List.take_append_of_le_length (by omega), List.drop_append_of_le_length (by omega)]
      simp
    · rename_i hc
      rw [toL_even, toL_ins r _ k a b (by omega), toL]
      obtain ⟨d, rfl⟩ : ∃ d, at_ = (toL l).length + (d + 1) := ⟨at_ - cnt l - 1, by omega⟩
      rw [List.take_append, List.drop_append]
      have e : (toL l).length + (d + 1) - cnt l - 1 = d := by omega
      rw [e, show (toL l).take ((toL l).length + (d + 1)) = toL l from List.take_of_length_le (by omega), show (toL l).drop ((toL l).length + (d + 1)) = [] from List.drop_eq_nil_of_le (by omega)]
      simp
theorem cnt_ins (t : T) (at_ k : Nat) (a b : Int) : cnt (insT t at_ k a b) = cnt t + 1 := by
  induction t generalizing at_ with
  | nil => rfl
  | node l g x y r ihl ihr =>
    simp only [insT]
    split
    · rw [cnt_even, ihl, cnt]; omega
    · rw [cnt_even, ihr, cnt]; omega
theorem perm_ins : ∀ (t : T) (at_ k : Nat) (a b : Int), (ads (insT t at_ k a b)).Perm (k :: ads t)
  | nil, _, _, _, _ => .refl _
  | node l g x y r, at_, k, a, b => by
    simp only [insT]
    split
    · refine (perm_even _ _ _ _ _).trans ?_
      have h := perm_ins l at_ k a b
      refine List.perm_iff_count.2 fun z => ?_
      have := (List.perm_iff_count.1 h) z
      simp only [ads, List.count_cons, List.count_append] at *
      omega
    · refine (perm_even _ _ _ _ _).trans ?_
      have h := perm_ins r (at_ - cnt l - 1) k a b
      refine List.perm_iff_count.2 fun z => ?_
      have := (List.perm_iff_count.1 h) z
      simp only [ads, List.count_cons, List.count_append] at *
      omega
theorem even_avl {l r : T} (g : Nat) (x y : Int) (hl : avl l) (hr : avl r) (h1 : ht l ≤ ht r + 2) (h2 : ht r ≤ ht l + 2) :
    avl (evenT l g x y r) ∧ max (ht l) (ht r) ≤ ht (evenT l g x y r) ∧ ht (evenT l g x y r) ≤ 1 + max (ht l) (ht r) ∧ (ht l ≤ ht r + 1 → ht r ≤ ht l + 1 → ht (evenT l g x y r) = 1 + max (ht l) (ht r)) := by
  unfold evenT
  split
  · rename_i hd
    obtain ⟨a, k, p, q, b, rfl⟩ := ht_pos (t := l) (by omega)
    simp only [left, right]
    obtain ⟨ha, hb, hab, hba⟩ := hl
    simp only [ht] at h1 h2 hd ⊢
    by_cases hlr : ht a < ht b
    · simp only [hlr, ↓reduceIte]
      obtain ⟨c, k', p', q', d, rfl⟩ := ht_pos (t := b) (by omega)
      obtain ⟨hc, hd', hcd, hdc⟩ := hb
      simp only [rotL, rotR, avl, ht] at *
      refine ⟨⟨⟨ha, hc, ?_, ?_⟩, ⟨hd', hr, ?_, ?_⟩, ?_, ?_⟩, ?_, ?_, ?_⟩ <;> omega
    · simp only [hlr, ↓reduceIte]
      simp only [rotR, avl, ht] at *
      refine ⟨⟨ha, ⟨hb, hr, ?_, ?_⟩, ?_, ?_⟩, ?_, ?_, ?_⟩ <;> omega
  · rename_i hd
    split
    · rename_i hd2
      obtain ⟨a, k, p, q, b, rfl⟩ := ht_pos (t := r) (by omega)
      simp only [left, right]
      obtain ⟨ha, hb, hab, hba⟩ := hr
      simp only [ht] at h1 h2 hd hd2 ⊢
      by_cases hlr : ht b < ht a
      · simp only [hlr, ↓reduceIte]
        obtain ⟨c, k', p', q', d, rfl⟩ := ht_pos (t := a) (by omega)
        obtain ⟨hc, hd', hcd, hdc⟩ := ha
        simp only [rotL, rotR, avl, ht] at *
        refine ⟨⟨⟨hl, hc, ?_, ?_⟩, ⟨hd', hb, ?_, ?_⟩, ?_, ?_⟩, ?_, ?_, ?_⟩ <;> omega
      · simp only [hlr, ↓reduceIte]
        simp only [rotL, avl, ht] at *
        refine ⟨⟨⟨hl, ha, ?_, ?_⟩, hb, ?_, ?_⟩, ?_, ?_, ?_⟩ <;> omega
    · rename_i hd2
      simp only [avl, ht]
      exact ⟨⟨hl, hr, by omega, by omega⟩, by omega, by omega, fun _ _ => by trivial⟩
theorem ins_avl : ∀ {t : T} (at_ k : Nat) (a b : Int), avl t → avl (insT t at_ k a b) ∧ ht t ≤ ht (insT t at_ k a b) ∧ ht (insT t at_ k a b) ≤ ht t + 1
  | nil, _, _, _, _, _ => by simp [insT, avl, ht]
  | node l g x y r, at_, k, a, b, h => by
    obtain ⟨hl, hr, h1, h2⟩ := h
    simp only [insT]
    split
    · obtain ⟨g1, g2, g3⟩ := ins_avl at_ k a b hl
      obtain ⟨e1, e2, e3, e4⟩ := even_avl g x y g1 hr (by omega) (by omega)
      simp only [ht]
      refine ⟨e1, ?_, ?_⟩
      · by_cases hc : ht (insT l at_ k a b) ≤ ht r + 1
        · have := e4 hc (by omega); omega
        · omega
      · by_cases hc : ht (insT l at_ k a b) ≤ ht r + 1
        · have := e4 hc (by omega); omega
        · omega
    · obtain ⟨g1, g2, g3⟩ := ins_avl (at_ - cnt l - 1) k a b hr
      obtain ⟨e1, e2, e3, e4⟩ := even_avl g x y hl g1 (by omega) (by omega)
      simp only [ht]
      refine ⟨e1, ?_, ?_⟩
      · by_cases hc : ht (insT r (at_ - cnt l - 1) k a b) ≤ ht l + 1
        · have := e4 (by omega) hc; omega
        · omega
      · by_cases hc : ht (insT r (at_ - cnt l - 1) k a b) ≤ ht l + 1
        · have := e4 (by omega) hc; omega
        · omega
/-- the first one taken out: what it was, and what stays -/
theorem first_spec : ∀ (t : T), 0 < cnt t → toL t = (firstT t).2.2 :: toL (firstT t).1 ∧ (ads t).Perm ((firstT t).2.1 :: ads (firstT t).1)
  | nil, h => by simp [cnt] at h
  | node nil g x y r, _ => ⟨rfl, .refl _⟩
  | node (node a k p q b) g x y r, _ => by
    obtain ⟨h1, h2⟩ := first_spec (node a k p q b) (by simp only [cnt]; omega)
    simp only [firstT]
    generalize firstT (node a k p q b) = f at h1 h2
    refine ⟨?_, ?_⟩
    · rw [toL, h1, toL_even]; rfl
    · refine List.perm_iff_count.2 fun z => ?_
      have e1 := (List.perm_iff_count.1 h2) z
      have e2 := (List.perm_iff_count.1 (perm_even f.1 g x y r)) z
      rw [ads]
      simp only [List.count_cons, List.count_append] at *
      omega
theorem first_avl : ∀ (t : T), 0 < cnt t → avl t → avl (firstT t).1 ∧ ht (firstT t).1 ≤ ht t ∧ ht t ≤ ht (firstT t).1 + 1
  | nil, h, _ => by simp [cnt] at h
  | node nil g x y r, _, h => by
    obtain ⟨_, hr, h1, h2⟩ := h
    simp only [firstT, ht] at *
    exact ⟨hr, by omega, by omega⟩
  | node (node a k p q b) g x y r, _, h => by
    obtain ⟨hl, hr, h1, h2⟩ := h
    obtain ⟨f1, f2, f3⟩ := first_avl (node a k p q b) (by simp only [cnt]; omega) hl
    simp only [firstT]
    generalize firstT (node a k p q b) = f at f1 f2 f3
    generalize hh : ht (node a k p q b) = n at h1 h2 f2 f3
    obtain ⟨e1, e2, e3, e4⟩ := even_avl g x y f1 hr (by omega) (by omega)
    rw [ht, hh]
    refine ⟨e1, ?_, ?_⟩
    · omega
    · by_cases hc : ht r ≤ ht f.1 + 1
      · have := e4 (by omega) hc; omega
      · omega
theorem rem_spec : ∀ (t : T) (at_ : Nat), at_ < cnt t → (∃ A B, toL t = A ++ (remT t at_).2.2 :: B ∧ A.length = at_ ∧ toL (remT t at_).1 = A ++ B) ∧ (ads t).Perm ((remT t at_).2.1 :: ads (remT t at_).1)
  | nil, _, h => by simp [cnt] at h
  | node l g x y r, at_, h => by
    simp only [cnt] at h
    have hlen := cnt_toL l
    simp only [remT]
    split
    · rename_i hc
      obtain ⟨⟨A, B, h1, h2, h3⟩, h4⟩ := rem_spec l at_ hc
      generalize remT l at_ = f at h1 h2 h3 h4
      refine ⟨⟨A, B ++ (x, y) :: toL r, ?_, h2, ?_⟩, ?_⟩
      · rw [toL, h1]; simp
      · rw [toL_even, h3]; simp
      · refine List.perm_iff_count.2 fun z => ?_
        have e1 := (List.perm_iff_count.1 h4) z
        have e2 := (List.perm_iff_count.1 (perm_even f.1 g x y r)) z
        rw [ads]
        simp only [List.count_cons, List.count_append] at *
        omega
    · split
      · rename_i hc
        obtain ⟨⟨A, B, h1, h2, h3⟩, h4⟩ := rem_spec r (at_ - cnt l - 1) (by omega)
        generalize remT r (at_ - cnt l - 1) = f at h1 h2 h3 h4
        refine ⟨⟨toL l ++ (x, y) :: A, B, ?_, ?_, ?_⟩, ?_⟩
        · rw [toL, h1]; simp
        · simp only [List.length_append, List.length_cons]; omega
        · rw [toL_even, h3]; simp
        · refine List.perm_iff_count.2 fun z => ?_
          have e1 := (List.perm_iff_count.1 h4) z
          have e2 := (List.perm_iff_count.1 (perm_even l g x y f.1)) z
          rw [ads]
          simp only [List.count_cons, List.count_append] at *
          omega
      · have ha : at_ = (toL l).length := by omega
        split
        · refine ⟨⟨toL l, [], rfl, ha.symm, by simp⟩, ?_⟩
          simp [ads]
        · rename_i a k p q b
          obtain ⟨h1, h2⟩ := first_spec (node a k p q b) (by simp only [cnt]; omega)
          generalize hn : node a k p q b = n at h1 h2
          generalize firstT n = f at h1 h2
          refine ⟨⟨toL l, toL n, rfl, ha.symm, ?_⟩, ?_⟩
          · rw [toL_even, h1]
          · refine List.perm_iff_count.2 fun z => ?_
            have e1 := (List.perm_iff_count.1 h2) z
            have e2 := (List.perm_iff_count.1 (perm_even l f.2.1 f.2.2.1 f.2.2.2 f.1)) z
            rw [ads]
            simp only [List.count_cons, List.count_append] at *
            omega
theorem rem_avl : ∀ (t : T) (at_ : Nat), at_ < cnt t → avl t → avl (remT t at_).1 ∧ ht (remT t at_).1 ≤ ht t ∧ ht t ≤ ht (remT t at_).1 + 1
  | nil, _, h, _ => by simp [cnt] at h
  | node l g x y r, at_, h, ha => by
    obtain ⟨hl, hr, h1, h2⟩ := ha
    simp only [cnt] at h
    simp only [remT]
    split
    · rename_i hc
      obtain ⟨f1, f2, f3⟩ := rem_avl l at_ hc hl
      generalize remT l at_ = f at f1 f2 f3
      obtain ⟨e1, e2, e3, e4⟩ := even_avl g x y f1 hr (by omega) (by omega)
      rw [ht]; dsimp only
      refine ⟨e1, ?_, ?_⟩
      · omega
      · by_cases hc : ht r ≤ ht f.1 + 1
        · have := e4 (by omega) hc; omega
        · omega
    · split
      · rename_i hc
        obtain ⟨f1, f2, f3⟩ := rem_avl r (at_ - cnt l - 1) (by omega) hr
        generalize remT r (at_ - cnt l - 1) = f at f1 f2 f3
        obtain ⟨e1, e2, e3, e4⟩ := even_avl g x y hl f1 (by omega) (by omega)
        rw [ht]; dsimp only
        refine ⟨e1, ?_, ?_⟩
        · omega
        · by_cases hc : ht l ≤ ht f.1 + 1
          · have := e4 hc (by omega); omega
          · omega
      · split
        · simp only [ht] at *
          exact ⟨hl, by omega, by omega⟩
        · rename_i a k p q b
          obtain ⟨f1, f2, f3⟩ := first_avl (node a k p q b) (by simp only [cnt]; omega) hr
          generalize hn : node a k p q b = n at f1 f2 f3 h1 h2
          generalize firstT n = f at f1 f2 f3
          obtain ⟨e1, e2, e3, e4⟩ := even_avl f.2.1 f.2.2.1 f.2.2.2 hl f1 (by omega) (by omega)
          rw [ht]; dsimp only
          refine ⟨e1, ?_, ?_⟩
          · omega
          · by_cases hc : ht l ≤ ht f.1 + 1
            · have := e4 hc (by omega); omega
            · omega
theorem rem_cnt {t : T} {at_ : Nat} (h : at_ < cnt t) : cnt (remT t at_).1 + 1 = cnt t := by
  obtain ⟨⟨A, B, h1, _, h3⟩, _⟩ := rem_spec t at_ h
  rw [← cnt_toL, ← cnt_toL t, h1, h3]; simp only [List.length_append, List.length_cons]; omega
theorem wid_toL : ∀ t : T, wid t = ((toL t).map (·.2)).sum
  | nil => rfl
  | node l _ _ b r => by
    simp only [wid, toL, List.map_append, List.map_cons, List.sum_append, List.sum_cons]
    rw [wid_toL l, wid_toL r]; omega
theorem sq_sum {A B P : Nat} (hA : 2 * P ≤ A * A) (hB : P ≤ B * B) : 4 * P ≤ (A + B) * (A + B) := by
  have h : P ≤ A * B := by
    rcases Nat.le_total A B with h | h
    · exact Nat.le_trans (by omega) (Nat.mul_le_mul_left A h)
    · exact Nat.le_trans hB (Nat.mul_le_mul_right B h)
  have e : (A + B) * (A + B) = A * A + B * B + 2 * (A * B) := by
    rw [Nat.mul_add, Nat.add_mul, Nat.add_mul, Nat.mul_comm B A]; omega
  omega
theorem avl_size : ∀ {t : T}, avl t → 2 ^ ht t ≤ (cnt t + 1) * (cnt t + 1)
  | nil, _ => by simp [ht, cnt]
  | node l g x y r, h => by
    obtain ⟨hl, hr, h1, h2⟩ := h
    have gl := avl_size hl
    have gr := avl_size hr
    simp only [ht, cnt]
    have e : 1 + cnt l + cnt r + 1 = (cnt l + 1) + (cnt r + 1) := by omega
    rw [e]
    rcases Nat.le_total (ht r) (ht l) with hh | hh
    · rw [Nat.max_eq_left hh]
      rcases Nat.eq_zero_or_pos (ht l) with h0 | h0
      · rw [h0]
        have : (1 + 1) * (1 + 1) ≤ ((cnt l + 1) + (cnt r + 1)) * ((cnt l + 1) + (cnt r + 1)) := Nat.mul_le_mul (by omega) (by omega)
        simp at this ⊢; omega
      · obtain ⟨k, hk⟩ : ∃ k, ht l = k + 1 := ⟨ht l - 1, by omega⟩
        have hr' : 2 ^ k ≤ (cnt r + 1) * (cnt r + 1) := Nat.le_trans (Nat.pow_le_pow_right (by omega) (by omega)) gr
        have := sq_sum (P := 2 ^ k) (A := cnt l + 1) (B := cnt r + 1) (by rw [hk, Nat.pow_succ] at gl; omega) hr'
        rw [hk, show 1 + (k + 1) = k + 2 by omega, Nat.pow_add]
        omega
    · rw [Nat.max_eq_right hh]
      rcases Nat.eq_zero_or_pos (ht r) with h0 | h0
      · rw [h0]
        have : (1 + 1) * (1 + 1) ≤ ((cnt l + 1) + (cnt r + 1)) * ((cnt l + 1) + (cnt r + 1)) := Nat.mul_le_mul (by omega) (by omega)
        simp at this ⊢; omega
      · obtain ⟨k, hk⟩ : ∃ k, ht r = k + 1 := ⟨ht r - 1, by omega⟩
        have hl' : 2 ^ k ≤ (cnt l + 1) * (cnt l + 1) := Nat.le_trans (Nat.pow_le_pow_right (by omega) (by omega)) gl
        have := sq_sum (P := 2 ^ k) (A := cnt r + 1) (B := cnt l + 1) (by rw [hk, Nat.pow_succ] at gr; omega) hl'
        rw [hk, show 1 + (k + 1) = k + 2 by omega, Nat.pow_add, Nat.add_comm (cnt l + 1)]
        omega
/-- so high at most, of so many -/
theorem avl_high {t : T} (h : avl t) {d : Nat} (hc : cnt t < 2 ^ d) : ht t ≤ 2 * d := by
  have h1 := avl_size h
  have h2 : (cnt t + 1) * (cnt t + 1) ≤ 2 ^ d * 2 ^ d := Nat.mul_le_mul hc hc
  rw [← Nat.pow_add] at h2
  have h3 : 2 ^ ht t ≤ 2 ^ (2 * d) := by rw [Nat.two_mul]; omega
  exact (Nat.pow_le_pow_iff_right (by omega)).1 h3
end T
end Go.Proofs.YtfaihilehdjfjaaDoor
