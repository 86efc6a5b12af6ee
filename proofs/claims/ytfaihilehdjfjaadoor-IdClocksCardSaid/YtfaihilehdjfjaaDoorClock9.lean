/- The plain law of clocks: a clock is what it tells of each actor; a join tells the greater. -/
import Derived.Test.YtfaihilehdjfjaaDoorClock8
namespace Go.Proofs.YtfaihilehdjfjaaDoor
open Go.ChangeShapes Go.WideShapes Go.ChangeAt Go.RowKit

/-- the greatest that a list tells of an actor -/
def mx : List Rf → Int → Int
  | [], _ => 0
  | r :: l, x => if r.1 = x then max r.2 (mx l x) else mx l x
theorem mx_nonneg : ∀ (l : List Rf) (x : Int), 0 ≤ mx l x
  | [], _ => Int.le_refl _
  | r :: l, x => by have := mx_nonneg l x; simp only [mx]; split <;> omega
theorem mx_append : ∀ (a b : List Rf) (x : Int), mx (a ++ b) x = max (mx a x) (mx b x)
  | [], b, x => by have := mx_nonneg b x; simp only [List.nil_append, mx]; omega
  | r :: a, b, x => by have := mx_append a b x; simp only [List.cons_append, mx]; split <;> omega
theorem mx_perm {l l' : List Rf} (h : l.Perm l') (x : Int) : mx l x = mx l' x := by
  induction h with
  | nil => rfl
  | cons r _ ih => simp only [mx, ih]
  | swap r q l => simp only [mx]; split <;> split <;> omega
  | trans _ _ h1 h2 => exact h1.trans h2
theorem mx_le : ∀ (l : List Rf) (x m : Int), 0 ≤ m → (∀ r ∈ l, r.1 = x → r.2 ≤ m) → mx l x ≤ m
  | [], _, _, h, _ => h
  | r :: l, x, m, h, hr => by
    have ih := mx_le l x m h fun q hq => hr q (List.mem_cons_of_mem _ hq)
    have h1 := hr r (List.mem_cons_self ..)
    simp only [mx]
    split
    · have := h1 (by assumption); omega
    · exact ih
theorem mx_ge : ∀ (l : List Rf) (r : Rf), r ∈ l → r.2 ≤ mx l r.1
  | q :: l, r, h => by
    rcases List.mem_cons.mp h with rfl | h
    · simp only [mx, if_pos]; omega
    · have := mx_ge l r h
      simp only [mx]; split <;> omega
theorem mx_zero (l : List Rf) (x : Int) (h : ∀ r ∈ l, r.1 ≠ x) : mx l x = 0 := by
  have h1 := mx_le l x 0 (Int.le_refl _) fun r hr e => absurd e (h r hr)
  have := mx_nonneg l x
  omega
/-- a clock with nothing wrong -/
def Vc (l : List Rf) : Prop := (∀ r ∈ l, isRef r = true) ∧ l.Pairwise fun x y => x.1 < y.1
theorem refsE_iff : ∀ (l : List Rf) (p : Int), refsE p l = 0 ↔ ((∀ r ∈ l, isRef r = true ∧ p < r.1) ∧ l.Pairwise fun x y => x.1 < y.1)
  | [], p => by simp [refsE]
  | q :: l, p => by
    have ih := refsE_iff l q.1
    simp only [refsE, List.pairwise_cons, List.mem_cons, forall_eq_or_imp]
    by_cases h1 : isRef q = false
    · simp [h1]
    · rw [if_neg h1]
      by_cases h2 : q.1 ≤ p
      · rw [if_pos h2]
        constructor
        · intro h; cases h
        · rintro ⟨⟨⟨_, h⟩, _⟩, _⟩; omega
      · rw [if_neg h2, ih]
        constructor
        · rintro ⟨h3, h4⟩
          exact ⟨⟨⟨by simpa using h1, by omega⟩, fun r hr => ⟨(h3 r hr).1, by have := (h3 r hr).2; omega⟩⟩, fun r hr => (h3 r hr).2, h4⟩
        · rintro ⟨⟨_, h3⟩, h4, h5⟩
          exact ⟨fun r hr => ⟨(h3 r hr).1, h4 r hr⟩, h5⟩
theorem refsE_vc (l : List Rf) : refsE 0 l = 0 ↔ Vc l := by
  rw [refsE_iff]
  constructor
  · rintro ⟨h1, h2⟩
    exact ⟨fun r hr => (h1 r hr).1, h2⟩
  · rintro ⟨h1, h2⟩
    exact ⟨fun r hr => ⟨h1 r hr, by have := isRef_bd (h1 r hr); omega⟩, h2⟩
theorem Vc.tail {r : Rf} {l : List Rf} (h : Vc (r :: l)) : Vc l := ⟨fun q hq => h.1 q (List.mem_cons_of_mem _ hq), (List.pairwise_cons.mp h.2).2⟩
theorem Vc.rest {r : Rf} {l : List Rf} (h : Vc (r :: l)) (x : Int) (hx : x ≤ r.1) : mx l x = 0 :=
  mx_zero l x fun q hq e => by have := (List.pairwise_cons.mp h.2).1 q hq; omega
theorem Vc.pos {r : Rf} {l : List Rf} (h : Vc (r :: l)) : 1 ≤ r.2 := (isRef_bd (h.1 r (List.mem_cons_self ..))).2.2.1
/-- a clock is what it tells -/
theorem Vc.ext : ∀ {l l' : List Rf}, Vc l → Vc l' → (∀ x, mx l x = mx l' x) → l = l'
  | [], [], _, _, _ => rfl
  | [], r :: l, _, h', h => by
    have := h r.1
    have := h'.pos
    simp only [mx, if_pos] at *
    omega
  | r :: l, [], h', _, h => by
    have := h r.1
    have := h'.pos
    simp only [mx, if_pos] at *
    omega
  | r :: l, q :: m, h1, h2, h => by
    have p1 := h1.pos
    have p2 := h2.pos
    have e1 := h r.1
    have e2 := h q.1
    have a1 := h1.rest
    have a2 := h2.rest
    have hact : r.1 = q.1 := by
      rcases Int.lt_trichotomy r.1 q.1 with hlt | he | hgt
      · have := a2 r.1 (by omega)
        simp only [mx, if_pos, if_neg (show ¬ q.1 = r.1 by omega)] at e1
        omega
      · exact he
      · have := a1 q.1 (by omega)
        simp only [mx, if_pos, if_neg (show ¬ r.1 = q.1 by omega)] at e2
        omega
    have hseq : r.2 = q.2 := by
      have := a1 r.1 (by omega)
      have := a2 r.1 (by omega)
      simp only [mx, if_pos, if_pos hact.symm] at e1
      omega
    have hrq : r = q := Prod.ext hact hseq
    subst hrq
    have := Vc.ext h1.tail h2.tail fun x => by
      by_cases hx : r.1 = x
      · subst hx
        rw [a1 _ (Int.le_refl _), a2 _ (Int.le_refl _)]
      · have := h x
        simp only [mx, if_neg hx] at this
        exact this
    rw [this]
theorem fold_mx : ∀ (l : List Rf) (s x : Int), Vc l → l.foldl (fun s r => if r.1 = x then r.2 else s) s = if mx l x = 0 then s else mx l x
  | [], s, x, _ => by simp [mx]
  | r :: l, s, x, h => by
    rw [List.foldl_cons, fold_mx l _ x h.tail]
    have hp := h.pos
    by_cases hx : r.1 = x
    · have := h.rest x (by omega)
      simp only [mx, if_pos hx, this]
      rw [if_pos trivial, if_neg (by omega)]
      omega
    · simp only [mx, if_neg hx]
theorem seqOf_mx {l : List Rf} (h : Vc l) (x : Int) : seqOf l x = mx l x := by
  unfold seqOf
  rw [fold_mx l 0 x h]
  split
  · rename_i e; exact e.symm
  · rfl
theorem aheadB_iff {a b : List Rf} (ha : Vc a) : aheadB a b = false ↔ ∀ x, mx b x ≤ mx a x := by
  unfold aheadB
  rw [List.any_eq_false]
  constructor
  · intro h x
    refine mx_le b x _ (mx_nonneg _ _) fun r hr e => ?_
    have := h r hr
    rw [seqOf_mx ha, decide_eq_true_eq] at this
    subst e
    omega
  · intro h r hr
    rw [seqOf_mx ha, decide_eq_true_eq]
    have := h r.1
    have := mx_ge b r hr
    omega
/-- the order in which Join sorts -/
def geR (x y : Rf) : Prop := ¬ (x.1 < y.1 ∨ x.1 = y.1 ∧ x.2 < y.2)
theorem DescR.pair {l : List Rf} (h : DescR l) : l.Pairwise geR := by
  rw [List.pairwise_iff_getElem]
  intro i j hi hj hij
  exact h i j _ _ hij (List.getElem?_eq_getElem hi) (List.getElem?_eq_getElem hj)
theorem keepF_spec : ∀ (l : List Rf) (p : Int), l.Pairwise geR → (∀ y ∈ l, y.1 ≤ p) →
    ((keepF p l).Pairwise fun x y => y.1 < x.1) ∧ (∀ y ∈ keepF p l, y.1 < p ∧ y ∈ l) ∧ ∀ x, mx (keepF p l) x = if x < p then mx l x else 0
  | [], p, _, _ => by simp [keepF, mx]
  | q :: l, p, h, hp => by
    obtain ⟨h1, h2⟩ := List.pairwise_cons.mp h
    have hq := hp q (List.mem_cons_self ..)
    obtain ⟨i1, i2, i3⟩ := keepF_spec l q.1 h2 fun y hy => by
      have := h1 y hy
      unfold geR at this
      omega
    by_cases he : p = q.1
    · simp only [keepF, if_pos he]
      refine ⟨i1, fun y hy => ⟨by have := (i2 y hy).1; omega, List.mem_cons_of_mem _ (i2 y hy).2⟩, fun x => ?_⟩
      rw [i3]
      by_cases hx : x < p
      · rw [if_pos (by omega), if_pos hx]
        simp only [mx]
        rw [if_neg (by omega)]
      · rw [if_neg (by omega), if_neg hx]
    · simp only [keepF, if_neg he]
      refine ⟨List.pairwise_cons.mpr ⟨fun y hy => (i2 y hy).1, i1⟩, ?_, fun x => ?_⟩
      · intro y hy
        rcases List.mem_cons.mp hy with rfl | hy
        · exact ⟨by omega, List.mem_cons_self ..⟩
        · exact ⟨by have := (i2 y hy).1; omega, List.mem_cons_of_mem _ (i2 y hy).2⟩
      · simp only [mx]
        rw [i3]
        by_cases hx : q.1 = x
        · subst hx
          rw [if_pos rfl, if_neg (by omega), if_pos (by omega), if_pos rfl]
          have := mx_le l q.1 (max q.2 0) (by omega) fun r hr e => by
            have := h1 r hr
            unfold geR at this
            omega
          have := mx_nonneg l q.1
          omega
        · rw [if_neg hx, if_neg hx]
          by_cases hx2 : x < q.1
          · rw [if_pos hx2, if_pos (by omega)]
          · rw [if_neg hx2]
            have : mx l x = 0 := mx_zero l x fun r hr e => by
              have := h1 r hr
              unfold geR at this
              omega
            rw [this]
            split <;> rfl
theorem compactF_spec (l : List Rf) (h : l.Pairwise geR) : ((compactF l).Pairwise fun x y => y.1 < x.1) ∧ (∀ y ∈ compactF l, y ∈ l) ∧ ∀ x, mx (compactF l) x = mx l x := by
  cases l with
  | nil => simp [compactF]
  | cons r l =>
    obtain ⟨i1, i2, i3⟩ := keepF_spec (r :: l) (r.1 + 1) h fun y hy => by
      rcases List.mem_cons.mp hy with rfl | hy
      · omega
      · have := (List.pairwise_cons.mp h).1 y hy
        unfold geR at this
        omega
    have e : keepF (r.1 + 1) (r :: l) = compactF (r :: l) := by
      simp only [keepF, compactF]
      rw [if_neg (by omega)]
    rw [e] at i1 i2 i3
    refine ⟨i1, fun y hy => (i2 y hy).2, fun x => ?_⟩
    rw [i3]
    by_cases hx : x < r.1 + 1
    · rw [if_pos hx]
    · rw [if_neg hx]
      exact (mx_zero _ x fun q hq e => by
        rcases List.mem_cons.mp hq with rfl | hq
        · omega
        · have := (List.pairwise_cons.mp h).1 q hq
          unfold geR at this
          omega).symm
/-- a join of two clocks -/
def JoinV (a b R : List Rf) : Prop := Vc R ∧ ∀ x, mx R x = max (mx a x) (mx b x)
theorem JoinV.of {a b L : List Rf} (ha : Vc a) (hb : Vc b) (hp : L.Perm (a ++ b)) (hd : DescR L) : JoinV a b (compactF L).reverse := by
  obtain ⟨i1, i2, i3⟩ := compactF_spec L hd.pair
  refine ⟨⟨fun r hr => ?_, ?_⟩, fun x => ?_⟩
  · have := hp.mem_iff.mp (i2 r (List.mem_reverse.mp hr))
    rcases List.mem_append.mp this with h | h
    · exact ha.1 r h
    · exact hb.1 r h
  · rw [List.pairwise_reverse]
    exact i1
  · rw [mx_perm (List.reverse_perm _), i3, mx_perm hp, mx_append]
theorem bothE_iff (a b : List Rf) : bothE a b = 0 ↔ Vc a ∧ Vc b := by
  rw [← refsE_vc, ← refsE_vc]
  unfold bothE
  split
  · rename_i h; exact ⟨fun h' => ⟨h, h'⟩, fun h' => h'.2⟩
  · rename_i h; exact ⟨fun h' => absurd h' h, fun h' => absurd h'.1 h⟩
theorem Vc.len {l : List Rf} (h : Vc l) : l.length ≤ 99 := by
  have := refsE_len l 0 (by omega) ((refsE_vc l).mpr h)
  omega
end Go.Proofs.YtfaihilehdjfjaaDoor
