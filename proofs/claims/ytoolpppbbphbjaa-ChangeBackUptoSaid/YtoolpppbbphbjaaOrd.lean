/- Plain: the comparisons stand in a row (no program in sight). -/
import Derived.Test.YtoolpppbbphbjaaVal
namespace Go.Proofs.Ytoolpppbbphbjaa

theorem bl_asym : ∀ (x y : List UInt8), Op.bytesLess x y = true → Op.bytesLess y x = false
  | _, [], h => by simp [Op.bytesLess] at h
  | [], _ :: _, _ => by simp [Op.bytesLess]
  | a :: x, b :: y, h => by
    simp only [Op.bytesLess, Bool.or_eq_true, Bool.and_eq_true, decide_eq_true_eq, beq_iff_eq, UInt8.lt_iff_toNat_lt] at h
    simp only [Op.bytesLess, Bool.or_eq_false_iff, Bool.and_eq_false_iff, decide_eq_false_iff_not, beq_eq_false_iff_ne, UInt8.lt_iff_toNat_lt]
    rcases h with h | ⟨h, h2⟩
    · exact ⟨by omega, .inl (fun e => by subst e; omega)⟩
    · subst h; exact ⟨by omega, .inr (bl_asym x y h2)⟩
theorem bl_tri : ∀ (x y : List UInt8), Op.bytesLess x y = false → Op.bytesLess y x = false → x = y
  | [], [], _, _ => rfl
  | _ :: _, [], _, h => by simp [Op.bytesLess] at h
  | [], _ :: _, h, _ => by simp [Op.bytesLess] at h
  | a :: x, b :: y, h, k => by
    simp only [Op.bytesLess, Bool.or_eq_false_iff, Bool.and_eq_false_iff, decide_eq_false_iff_not, beq_eq_false_iff_ne, UInt8.lt_iff_toNat_lt] at h k
    have e : a = b := UInt8.toNat_inj.1 (by omega)
    subst e
    rw [bl_tri x y (h.2.resolve_left (by simp)) (k.2.resolve_left (by simp))]
theorem bl_trans : ∀ (x y z : List UInt8), Op.bytesLess x y = true → Op.bytesLess y z = true → Op.bytesLess x z = true
  | _, [], _, h, _ => by simp [Op.bytesLess] at h
  | _, _ :: _, [], _, h => by simp [Op.bytesLess] at h
  | [], _ :: _, _ :: _, _, _ => by simp [Op.bytesLess]
  | a :: x, b :: y, c :: z, h, k => by
    simp only [Op.bytesLess, Bool.or_eq_true, Bool.and_eq_true, decide_eq_true_eq, beq_iff_eq, UInt8.lt_iff_toNat_lt] at h k ⊢
    rcases h with h | ⟨h, h2⟩ <;> rcases k with k | ⟨k, k2⟩
    · exact .inl (by omega)
    · subst k; exact .inl h
    · subst h; exact .inl k
    · subst h; subst k; exact .inr ⟨rfl, bl_trans x y z h2 k2⟩
theorem bl_irrefl (x : List UInt8) : Op.bytesLess x x = false := by
  cases h : Op.bytesLess x x
  · rfl
  · exact (bl_asym x x h).symm.trans h |>.symm

structure TotC {α : Type} (c : α → α → Int) : Prop where
  neg : ∀ a b, c a b = - c b a
  tr : ∀ a b d, c a b ≤ 0 → c b d ≤ 0 → c a d ≤ 0

theorem TotC.comap {α β : Type} {c : α → α → Int} (h : TotC c) (f : β → α) : TotC fun a b => c (f a) (f b) :=
  ⟨fun a b => h.neg _ _, fun a b d => h.tr _ _ _⟩
theorem TotC.lex {α : Type} {c d : α → α → Int} (h : TotC c) (k : TotC d) : TotC fun a b => if c a b = 0 then d a b else c a b := by
  refine ⟨fun a b => ?_, fun x y z h1 h2 => ?_⟩
  · have := h.neg a b
    have := k.neg a b
    show (if c a b = 0 then d a b else c a b) = -(if c b a = 0 then d b a else c b a)
    split <;> split <;> omega
  · have a1 := h.neg x y
    have a2 := h.neg y z
    have a3 := h.neg x z
    change (if c x y = 0 then d x y else c x y) ≤ 0 at h1
    change (if c y z = 0 then d y z else c y z) ≤ 0 at h2
    show (if c x z = 0 then d x z else c x z) ≤ 0
    have t1 := h.tr x y z
    have t2 := h.tr z x y
    have t3 := h.tr y z x
    have t4 := k.tr x y z
    split at h1 <;> split at h2 <;> split <;> omega
theorem TotC.const {α : Type} : TotC fun (_ _ : α) => (0 : Int) := ⟨fun _ _ => rfl, fun _ _ _ _ _ => Int.le_refl 0⟩

theorem cmpI_tot : TotC cmpI := by
  refine ⟨fun a b => ?_, fun a b d => ?_⟩
  · unfold cmpI; split <;> split <;> omega
  · unfold cmpI; split <;> split <;> split <;> (try split) <;> (try split) <;> omega
theorem cmpI_zero {a b : Int} : cmpI a b = 0 ↔ a = b := by unfold cmpI; split <;> (try split) <;> omega

theorem cmpS_cases (a b : List UInt8) : (Op.bytesLess a b = true ∧ cmpS a b = -1) ∨ (a = b ∧ cmpS a b = 0) ∨ (Op.bytesLess b a = true ∧ cmpS a b = 1) := by
  cases h : Op.bytesLess a b
  · by_cases e : a = b
    · exact .inr (.inl ⟨e, by subst e; simp [cmpS, h]⟩)
    · refine .inr (.inr ⟨?_, by simp [cmpS, h, e]⟩)
      cases k : Op.bytesLess b a
      · exact absurd (bl_tri a b h k) e
      · rfl
  · exact .inl ⟨rfl, by simp [cmpS, h]⟩
theorem cmpS_zero {a b : List UInt8} : cmpS a b = 0 ↔ a = b := by
  rcases cmpS_cases a b with ⟨h, e⟩ | ⟨h, e⟩ | ⟨h, e⟩
  · rw [e]; exact ⟨fun k => by omega, fun k => by subst k; rw [bl_irrefl] at h; cases h⟩
  · rw [e]; exact ⟨fun _ => h, fun _ => rfl⟩
  · rw [e]; exact ⟨fun k => by omega, fun k => by subst k; rw [bl_irrefl] at h; cases h⟩
theorem cmpS_tot : TotC cmpS := by
  refine ⟨fun a b => ?_, fun a b d h1 h2 => ?_⟩
  · rcases cmpS_cases a b with ⟨h, e⟩ | ⟨h, e⟩ | ⟨h, e⟩ <;> rcases cmpS_cases b a with ⟨k, f⟩ | ⟨k, f⟩ | ⟨k, f⟩
    all_goals first | omega | (subst h; rw [bl_irrefl] at k; cases k) | (subst k; rw [bl_irrefl] at h; cases h) | (rw [bl_asym _ _ h] at k; cases k)
  · rcases cmpS_cases a b with ⟨h, e⟩ | ⟨h, e⟩ | ⟨h, e⟩
    · rcases cmpS_cases b d with ⟨k, f⟩ | ⟨k, f⟩ | ⟨k, f⟩
      · rcases cmpS_cases a d with ⟨m, g⟩ | ⟨m, g⟩ | ⟨m, g⟩
        · omega
        · omega
        · have := bl_asym _ _ (bl_trans _ _ _ h k); rw [m] at this; cases this
      · subst k; omega
      · omega
    · subst h; exact h2
    · omega

theorem firstNZ_cons (x : Int) (l : List Int) : firstNZ (x :: l) = if x = 0 then firstNZ l else x := rfl

theorem cmp2_tot : TotC fun (x y : Int × Int) => cmp2 x.1 x.2 y.1 y.2 :=
  (cmpI_tot.comap Prod.fst).lex ((cmpI_tot.comap Prod.snd).lex TotC.const)
theorem cmp2_zero {a b c d : Int} : cmp2 a b c d = 0 ↔ a = c ∧ b = d := by
  simp only [cmp2, firstNZ]
  rw [← cmpI_zero (a := a), ← cmpI_zero (a := b)]
  split <;> (try split) <;> omega

/-- a value's fields -/
structure V5 where
  k : Int
  n : Int
  t : List UInt8
  a : Int
  b : Int

def cmpV5 (x y : V5) : Int := cmpV x.k x.n x.t x.a x.b y.k y.n y.t y.a y.b
theorem cmpV5_tot : TotC cmpV5 :=
  (cmpI_tot.comap V5.k).lex ((cmpI_tot.comap V5.n).lex ((cmpS_tot.comap V5.t).lex ((cmp2_tot.comap fun v : V5 => (v.a, v.b)).lex TotC.const)))
theorem cmpV_zero {k n a b k' n' a' b' : Int} {t t' : List UInt8} : cmpV k n t a b k' n' t' a' b' = 0 ↔ k = k' ∧ n = n' ∧ t = t' ∧ a = a' ∧ b = b' := by
  simp only [cmpV, firstNZ]
  rw [← cmpI_zero (a := k), ← cmpI_zero (a := n), ← cmpS_zero, ← cmp2_zero]
  split <;> (try split) <;> (try split) <;> (try split) <;> omega
theorem firstNZ_bd : ∀ (l : List Int), (∀ x ∈ l, -1 ≤ x ∧ x ≤ 1) → -1 ≤ firstNZ l ∧ firstNZ l ≤ 1
  | [], _ => by simp [firstNZ]
  | x :: l, h => by
    rw [firstNZ_cons]
    split
    · exact firstNZ_bd l fun y hy => h y (List.mem_cons_of_mem _ hy)
    · exact h x (by simp)
theorem cmpI_bd (a b : Int) : -1 ≤ cmpI a b ∧ cmpI a b ≤ 1 := by unfold cmpI; split <;> (try split) <;> omega
theorem cmpS_bd (a b : List UInt8) : -1 ≤ cmpS a b ∧ cmpS a b ≤ 1 := by rcases cmpS_cases a b with ⟨_, e⟩ | ⟨_, e⟩ | ⟨_, e⟩ <;> omega
theorem cmp2_bd (a b c d : Int) : -1 ≤ cmp2 a b c d ∧ cmp2 a b c d ≤ 1 := firstNZ_bd _ (by simp [cmpI_bd])
theorem cmpV_bd (k n a b k' n' a' b' : Int) (t t' : List UInt8) : -1 ≤ cmpV k n t a b k' n' t' a' b' ∧ cmpV k n t a b k' n' t' a' b' ≤ 1 :=
  firstNZ_bd _ (by simp [cmpI_bd, cmpS_bd, cmp2_bd])
end Go.Proofs.Ytoolpppbbphbjaa
