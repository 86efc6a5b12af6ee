/- Plain: what a plain list of widths tells of places; a tree's own answers against it. -/
import Derived.Test.YtfaihilehdjfjaaDoorTree13
namespace Go.Proofs.YtfaihilehdjfjaaDoor

def T.wids (t : T) : List Int := (T.toL t).map (·.2)
def T.things (t : T) : List Int := (T.toL t).map (·.1)
theorem T.wids_length (t : T) : t.wids.length = t.cnt := by simp [T.wids, T.cnt_toL]
theorem T.things_length (t : T) : t.things.length = t.cnt := by simp [T.things, T.cnt_toL]
theorem T.wids_sum (t : T) : t.wids.sum = t.wid := (T.wid_toL t).symm
theorem T.wids_ok {t : T} (h : t.small) : ∀ y ∈ t.wids, 0 ≤ y ∧ y ≤ 1000000 := by
  intro y hy
  obtain ⟨e, he, rfl⟩ := List.mem_map.mp hy
  exact T.small_iff.mp h e he
theorem T.ahead_sum : ∀ (t : T) (i : Nat), i ≤ t.cnt → t.aheadT i = (t.wids.take i).sum
  | .nil, i, _ => by simp [T.aheadT, T.wids, T.toL]
  | .node l g x y r, i, h => by
    have hl := T.wids_length l
    have e : (T.node l g x y r).wids = l.wids ++ y :: r.wids := by simp [T.wids, T.toL]
    simp only [T.cnt] at h
    rw [e, T.aheadT]
    by_cases hi : i ≤ l.cnt
    · rw [if_pos hi, T.ahead_sum l i hi, List.take_append_of_le_length (by omega)]
    · obtain ⟨j, rfl⟩ : ∃ j, i = l.cnt + 1 + j := ⟨i - (l.cnt + 1), by omega⟩
      have e1 : l.cnt + 1 + j - l.wids.length = j + 1 := by omega
      have e2 : l.cnt + 1 + j - (l.cnt + 1) = j := by omega
      have e3 : l.wids.take (l.cnt + 1 + j) = l.wids := List.take_of_length_le (by omega)
      rw [if_neg hi, e2, T.ahead_sum r _ (by omega), List.take_append, e1, e3, List.sum_append, T.wids_sum, List.take_succ_cons, List.sum_cons]
      omega
/-- the place k lies within the thing a, as far as b -/
def LocP (W : List Int) (k : Int) (a : Nat) (b : Int) : Prop := b = k - (W.take a).sum ∧ 0 ≤ b ∧ ∃ y, W[a]? = some y ∧ b < y
theorem LocP.left {A C : List Int} {k b : Int} {a : Nat} (h : LocP A k a b) : LocP (A ++ C) k a b := by
  obtain ⟨h1, h2, y, h3, h4⟩ := h
  have ha : a < A.length := by
    rcases Nat.lt_or_ge a A.length with h | h
    · exact h
    · rw [List.getElem?_eq_none h] at h3; cases h3
  refine ⟨?_, h2, y, ?_, h4⟩
  · rw [List.take_append_of_le_length (by omega)]; exact h1
  · rw [List.getElem?_append_left ha]; exact h3
theorem LocP.right {A B : List Int} {k b y : Int} {a : Nat} (h : LocP B (k - (A.sum + y)) a b) : LocP (A ++ y :: B) k (a + (A.length + 1)) b := by
  obtain ⟨h1, h2, z, h3, h4⟩ := h
  refine ⟨?_, h2, z, ?_, h4⟩
  · rw [List.take_append, List.take_of_length_le (by omega), show a + (A.length + 1) - A.length = a + 1 from by omega, List.take_succ_cons, List.sum_append, List.sum_cons]
    omega
  · rw [List.getElem?_append_right (by omega), show a + (A.length + 1) - A.length = a + 1 from by omega, List.getElem?_cons_succ]; exact h3
theorem T.find_loc : ∀ (t : T) (p : Int), t.small → 0 ≤ p → p < t.wid → LocP t.wids p (t.findT p).1 (t.findT p).2
  | .nil, p, _, h1, h2 => by simp only [T.wid] at h2; omega
  | .node l g x y r, p, hs, h1, h2 => by
    have hl := T.wids_length l
    have e : (T.node l g x y r).wids = l.wids ++ y :: r.wids := by simp [T.wids, T.toL]
    simp only [T.wid] at h2
    rw [e, T.findT]
    by_cases h3 : p < l.wid
    · rw [if_pos h3]; exact (T.find_loc l p hs.1 h1 h3).left
    · by_cases h4 : p < l.wid + y
      · rw [if_neg h3, if_pos h4]
        refine ⟨?_, by show 0 ≤ p - l.wid; omega, y, ?_, by show p - l.wid < y; omega⟩
        · show p - l.wid = p - _
          rw [List.take_append_of_le_length (by omega), List.take_of_length_le (by omega), T.wids_sum]
        · show (l.wids ++ y :: r.wids)[l.cnt]? = some y
          rw [List.getElem?_append_right (by omega), hl]; simp
      · rw [if_neg h3, if_neg h4]
        have := T.find_loc r (p - (l.wid + y)) hs.2.1 (by omega) (by omega)
        rw [← T.wids_sum l] at this
        have := this.right
        rw [hl, T.wids_sum] at this
        exact this
theorem sum_take_mono {W : List Int} (hW : ∀ y ∈ W, 0 ≤ y) : ∀ {a b : Nat}, a ≤ b → (W.take a).sum ≤ (W.take b).sum := by
  induction W with
  | nil => intro a b _; simp
  | cons y l ih =>
    intro a b h
    have h0 := hW y List.mem_cons_self
    have ih' := @ih fun z hz => hW z (List.mem_cons_of_mem _ hz)
    match a, b with
    | 0, 0 => simp
    | 0, b + 1 => have := @ih' 0 b (by omega); simp only [List.take_zero, List.take_succ_cons, List.sum_nil, List.sum_cons] at this ⊢; omega
    | a + 1, 0 => omega
    | a + 1, b + 1 => have := @ih' a b (by omega); simp only [List.take_succ_cons, List.sum_cons]; omega
theorem sum_take_succ : ∀ {W : List Int} {a : Nat} {y : Int}, W[a]? = some y → (W.take (a + 1)).sum = (W.take a).sum + y
  | [], a, y, h => by simp at h
  | z :: l, 0, y, h => by simp at h; simp [h]
  | z :: l, a + 1, y, h => by
    rw [List.getElem?_cons_succ] at h
    have := sum_take_succ h
    simp only [List.take_succ_cons, List.sum_cons, this]; omega
theorem LocP.one {W : List Int} (hW : ∀ y ∈ W, 0 ≤ y) {k b b' : Int} {a a' : Nat} (h : LocP W k a b) (h' : LocP W k a' b') : a = a' ∧ b = b' := by
  obtain ⟨h1, h2, y, h3, h4⟩ := h
  obtain ⟨g1, g2, z, g3, g4⟩ := h'
  have e1 := sum_take_succ h3
  have e2 := sum_take_succ g3
  have : a = a' := by
    rcases Nat.lt_trichotomy a a' with h | h | h
    · have := sum_take_mono hW (a := a + 1) (b := a') h; omega
    · exact h
    · have := sum_take_mono hW (a := a' + 1) (b := a) h; omega
  subst this
  exact ⟨rfl, by omega⟩
/-- what the plain search knows behind so many widths -/
def FindS (W : List Int) (k : Int) (j : Nat) (e a b s : Int) : Prop :=
  s = (W.take j).sum ∧ ((0 ≤ k ∧ k < s ∧ e = 0 ∧ ∃ a' : Nat, a = a' ∧ LocP W k a' b) ∨ ((k < 0 ∨ s ≤ k) ∧ e = 1 ∧ a = 0 ∧ b = 0))
theorem FindS.start (W : List Int) (k : Int) : FindS W k 0 1 0 0 0 := by
  refine ⟨by simp, .inr ⟨by omega, rfl, rfl, rfl⟩⟩
theorem FindS.hit {W : List Int} {k e a b s y : Int} {j : Nat} (hW : ∀ y ∈ W, 0 ≤ y) (h : FindS W k j e a b s) (hy : W[j]? = some y) (h1 : s ≤ k) (h2 : k < s + y) : FindS W k (j + 1) 0 j (k - s) (s + y) := by
  have e1 := sum_take_succ hy
  have h0 := sum_take_mono hW (a := 0) (b := j) (by omega)
  simp only [List.take_zero, List.sum_nil] at h0
  have hs := h.1
  refine ⟨by rw [e1, hs], .inl ⟨by omega, h2, rfl, j, rfl, by rw [hs], by omega, y, hy, by omega⟩⟩
theorem FindS.miss {W : List Int} {k e a b s y : Int} {j : Nat} (hW : ∀ y ∈ W, 0 ≤ y) (h : FindS W k j e a b s) (hy : W[j]? = some y) (h1 : ¬ (s ≤ k ∧ k < s + y)) : FindS W k (j + 1) e a b (s + y) := by
  have e1 := sum_take_succ hy
  have hy0 := hW y (List.mem_of_getElem? hy)
  obtain ⟨hs, h⟩ := h
  refine ⟨by rw [e1, hs], ?_⟩
  rcases h with ⟨g1, g2, g3, g4⟩ | ⟨g1, g2⟩
  · exact .inl ⟨g1, by omega, g3, g4⟩
  · exact .inr ⟨by omega, g2⟩
/-- a tree with one width changed -/
def T.setT : T → Nat → Int → T
  | nil, _, _ => nil
  | node l g x y r, i, v => if i < cnt l then node (setT l i v) g x y r else if cnt l < i then node l g x y (setT r (i - cnt l - 1) v) else node l g x v r
theorem T.ht_set : ∀ (t : T) (i : Nat) (v : Int), (t.setT i v).ht = t.ht
  | .nil, _, _ => rfl
  | .node l g x y r, i, v => by simp only [T.setT]; (split <;> try split) <;> simp only [T.ht, T.ht_set]
theorem T.cnt_set : ∀ (t : T) (i : Nat) (v : Int), (t.setT i v).cnt = t.cnt
  | .nil, _, _ => rfl
  | .node l g x y r, i, v => by simp only [T.setT]; (split <;> try split) <;> simp only [T.cnt, T.cnt_set]
theorem T.ads_set : ∀ (t : T) (i : Nat) (v : Int), (t.setT i v).ads = t.ads
  | .nil, _, _ => rfl
  | .node l g x y r, i, v => by simp only [T.setT]; (split <;> try split) <;> simp only [T.ads, T.ads_set]
theorem T.ptr_set : ∀ (t : T) (i : Nat) (v : Int), (t.setT i v).ptr = t.ptr
  | .nil, _, _ => rfl
  | .node l g x y r, i, v => by simp only [T.setT]; (split <;> try split) <;> rfl
theorem T.avl_set : ∀ {t : T} (i : Nat) (v : Int), t.avl → (t.setT i v).avl
  | .nil, _, _, _ => trivial
  | .node l g x y r, i, v, h => by
    have h1 := T.avl_set (i - l.cnt - 1) v h.2.1
    have h2 := T.avl_set i v h.1
    simp only [T.setT]; (split <;> try split) <;> simp only [T.avl, T.ht_set] <;> simp only [T.avl] at h <;> simp [h1, h2, h]
theorem T.small_set : ∀ {t : T} (i : Nat) (v : Int), t.small → 0 ≤ v ∧ v ≤ 1000000 → (t.setT i v).small
  | .nil, _, _, _, _ => trivial
  | .node l g x y r, i, v, h, hv => by
    have h1 := T.small_set (i - l.cnt - 1) v h.2.1 hv
    have h2 := T.small_set i v h.1 hv
    simp only [T.setT]; (split <;> try split) <;> simp only [T.small] <;> simp only [T.small] at h <;> simp [h1, h2, h, hv]
theorem T.things_set : ∀ (t : T) (i : Nat) (v : Int), (t.setT i v).things = t.things
  | .nil, _, _ => rfl
  | .node l g x y r, i, v => by
    have h1 := T.things_set l i v
    have h2 := T.things_set r (i - l.cnt - 1) v
    simp only [T.things] at h1 h2
    simp only [T.setT]; (split <;> try split) <;> simp [T.things, T.toL, h1, h2]
theorem T.wids_set : ∀ (t : T) (i : Nat) (v : Int), i < t.cnt → (t.setT i v).wids = t.wids.set i v
  | .nil, _, _, h => by simp [T.cnt] at h
  | .node l g x y r, i, v, h => by
    have hl := T.wids_length l
    have e : (T.node l g x y r).wids = l.wids ++ y :: r.wids := by simp [T.wids, T.toL]
    simp only [T.cnt] at h
    rw [e]
    simp only [T.setT]
    by_cases h1 : i < l.cnt
    · have e1 : (T.node (l.setT i v) g x y r).wids = (l.setT i v).wids ++ y :: r.wids := by simp [T.wids, T.toL]
      rw [if_pos h1, e1, T.wids_set l i v h1, List.set_append_left _ _ (by omega)]
    · by_cases h2 : l.cnt < i
      · have e1 : (T.node l g x y (r.setT (i - l.cnt - 1) v)).wids = l.wids ++ y :: (r.setT (i - l.cnt - 1) v).wids := by simp [T.wids, T.toL]
        rw [if_neg h1, if_pos h2, e1, T.wids_set r _ v (by omega), List.set_append_right _ _ (by omega), hl]
        rw [show i - l.cnt = (i - l.cnt - 1) + 1 from by omega, List.set_cons_succ]
        simp
      · have e1 : (T.node l g x v r).wids = l.wids ++ v :: r.wids := by simp [T.wids, T.toL]
        rw [if_neg h1, if_neg h2, e1, List.set_append_right _ _ (by omega), show i - l.wids.length = 0 from by omega, List.set_cons_zero]
end Go.Proofs.YtfaihilehdjfjaaDoor
