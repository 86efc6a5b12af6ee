/- Contracts: change.Ids: the ids of a change's ops; a change with no fault can be written. -/
import Derived.Test.YtoolpppbbphbjaaEnc
import Derived.Lib.Strings
namespace Go.Proofs.Ytoolpppbbphbjaa
open Go.ChangeShapes Go.WideShapes Go.ChangeAt Go.RowKit

theorem infoId : (Try.prog.info? 28).map (fun i => (i.zero, i.size, i.bytes)) = some (some (.agg #[.int .i64 0, .int .i64 0]), 2, 16) := by kernel_rfl
theorem refC_one_ (l : List Rf) : ∀ u ∈ refC l, u.oneCell' = true := by
  intro u hu
  simp only [refC, List.mem_flatMap] at hu
  obtain ⟨r, _, hu⟩ := hu
  simp at hu
  rcases hu with rfl | rfl <;> rfl
def idsL (a st : Int) : Nat → List Rf
  | 0 => []
  | k + 1 => idsL a st k ++ [(st + k, a)]
theorem idsL_len (a st : Int) : ∀ k, (idsL a st k).length = k
  | 0 => rfl
  | k + 1 => by simp [idsL, idsL_len a st k]
theorem idsL_at (a st : Int) : ∀ (k i : Nat), i < k → (idsL a st k)[i]? = some (st + i, a)
  | k + 1, i, h => by
    rw [idsL]
    rcases Nat.lt_or_ge i k with h1 | h1
    · rw [List.getElem?_append_left (by rw [idsL_len]; exact h1)]
      exact idsL_at a st k i h1
    · have : i = k := by omega
      subst this
      rw [List.getElem?_append_right (by rw [idsL_len]; omega), idsL_len]
      simp
theorem ite_zero {c : Prop} [Decidable c] {a b : Nat} (h : (if c then a else b) = 0) (ha : a ≠ 0) : ¬ c ∧ b = 0 := by
  by_cases hc : c
  · rw [if_pos hc] at h; exact absurd h ha
  · rw [if_neg hc] at h; exact ⟨hc, h⟩
theorem id_nat {a b : Int} (h : idB a b = true) : NatI a ∧ NatI b := by
  simp only [idB, rootB, realB, numB, actorB, Bool.or_eq_true, Bool.and_eq_true, decide_eq_true_eq] at h
  unfold NatI
  omega
theorem real_nat {a b : Int} (h : realB a b = true) : NatI a ∧ NatI b := id_nat (by rw [idB, h, Bool.or_true])
theorem value_good {k n : Int} {t : ByteArray} {a b : Int} (h : valueB k n t a b = true) : NatI k ∧ t.size ≤ 60 := by
  have he : ∀ t : ByteArray, t.toList.isEmpty = true → t.size ≤ 60 := fun t ht => by
    rw [Lib.toList_data] at ht
    have h0 : t.data.toList = [] := by simpa using ht
    have : t.data.toList.length = 0 := by rw [h0]; rfl
    rw [Array.length_toList] at this
    rw [ByteArray.size]; omega
  unfold valueB at h
  split at h
  · subst_vars; exact ⟨⟨by omega, by omega⟩, he t (by simp [bareB] at h ⊢; exact h.1.1)⟩
  split at h
  · subst_vars; exact ⟨⟨by omega, by omega⟩, he t (by simp [bareB] at h ⊢; exact h.1.1)⟩
  split at h
  · rename_i hk; exact ⟨⟨by omega, by omega⟩, he t (by simp [bareB] at h ⊢; exact h.1)⟩
  split at h
  · subst_vars; exact ⟨⟨by omega, by omega⟩, by simp at h; exact h.2⟩
  split at h
  · rename_i hk; exact ⟨⟨by omega, by omega⟩, he t (by simp at h ⊢; exact h.1.2)⟩
  · cases h
theorem tail_value {k : Int} {kn root ins pe v kb : Bool} (h : tailE k kn root ins pe v kb = 0) : v = true := by
  unfold tailE at h
  have h1 := (ite_zero h (by omega)).2
  have h2 := (ite_zero h1 (by omega)).1
  simpa using h2
theorem op_good {o : OpD} (h : opE' o = 0) (hv : (Lit.int .i64 o.vn).wf = true) : OpG o := by
  unfold opE' opE at h
  obtain ⟨h1, h⟩ := ite_zero h (by omega)
  obtain ⟨h2, h⟩ := ite_zero h (by omega)
  obtain ⟨h3, h⟩ := ite_zero h (by omega)
  by_cases h4 : idsE o.l ≠ 0
  · rw [if_pos h4] at h; exact absurd h h4
  rw [if_neg h4] at h
  have hI : idB o.on o.oa = true := by
    cases hx : idB o.on o.oa
    · exact absurd (Or.inr (Or.inr (Or.inl hx))) h1
    · rfl
  have hJ : idB o.en o.ea = true := by
    cases hx : idB o.en o.ea
    · exact absurd (Or.inr (Or.inr (Or.inr hx))) h1
    · rfl
  have hV := value_good (tail_value h)
  have hL : o.l.length ≤ 12 := by
    have : idsE o.l = 0 := by omega
    unfold idsE at this
    have := (ite_zero this (by omega)).1
    omega
  refine ⟨?_, (id_nat hI).1, (id_nat hI).2, by omega, (id_nat hJ).1, (id_nat hJ).2, hV.1, hv, hV.2, hL, fun r hr => ?_⟩
  · have : ¬ o.k < 1 ∧ ¬ 4 < o.k := ⟨fun hx => h1 (Or.inl hx), fun hx => h1 (Or.inr (Or.inl hx))⟩
    exact ⟨by omega, by omega⟩
  · have : o.l.all (fun r => realB r.1 r.2) = true := by simpa using h2
    exact real_nat (List.all_eq_true.1 this r hr)
theorem ops_good : ∀ {l : List OpD}, opsE l = 0 → (∀ o ∈ l, (Lit.int .i64 o.vn).wf = true) → ∀ o ∈ l, OpG o
  | [], _, _, _, h => by cases h
  | x :: l, h, hv, o, ho => by
    have hx : opE' x = 0 := by
      by_cases h0 : opE' x = 0
      · exact h0
      · simp only [opsE, if_neg h0] at h; exact absurd h h0
    have hr : opsE l = 0 := by simp only [opsE, if_pos hx] at h; exact h
    rcases List.mem_cons.1 ho with rfl | ho
    · exact op_good hx (hv _ (by simp))
    · exact ops_good hr (fun o ho => hv o (by simp [ho])) o ho
theorem refs_good : ∀ {l : List Rf} {p : Int}, refsE p l = 0 → ∀ r ∈ l, NatI r.1 ∧ NatI r.2
  | [], _, _, _, h => by cases h
  | x :: l, p, h, r, hr => by
    simp only [refsE] at h
    obtain ⟨h1, h⟩ := ite_zero h (by omega)
    obtain ⟨_, h⟩ := ite_zero h (by omega)
    rcases List.mem_cons.1 hr with rfl | hr
    · have : isRef r = true := by simpa using h1
      simp only [isRef, Bool.and_eq_true, decide_eq_true_eq] at this
      unfold NatI
      omega
    · exact refs_good h r hr
theorem chg_good {a s st : Int} {deps : List Rf} {ops : List OpD} (h : chgE a s st deps ops = 0) (hv : ∀ o ∈ ops, (Lit.int .i64 o.vn).wf = true) : EncG a s st deps ops ∧ 1 ≤ st ∧ st ≤ 1000000 := by
  unfold chgE at h
  obtain ⟨h1, h⟩ := ite_zero h (by omega)
  obtain ⟨h2, h⟩ := ite_zero h (by omega)
  by_cases h3 : refsE 0 deps ≠ 0
  · rw [if_pos h3] at h; exact absurd h h3
  rw [if_neg h3] at h
  obtain ⟨h4, h⟩ := ite_zero h (by omega)
  obtain ⟨h5, h⟩ := ite_zero h (by omega)
  have hr : isRef (a, s) = true := by
    cases hx : isRef (a, s)
    · exact absurd (Or.inl hx) h1
    · rfl
  simp only [isRef, Bool.and_eq_true, decide_eq_true_eq] at hr
  have hs : ¬ st < 1 ∧ ¬ 1000000 < st := ⟨fun hx => h1 (Or.inr (Or.inl hx)), fun hx => h1 (Or.inr (Or.inr hx))⟩
  refine ⟨⟨⟨by omega, by omega⟩, ⟨by omega, by omega⟩, ⟨by omega, by omega⟩, by omega, refs_good (p := 0) (by omega), by omega, ops_good h hv⟩, by omega, by omega⟩
end Go.Proofs.Ytoolpppbbphbjaa
