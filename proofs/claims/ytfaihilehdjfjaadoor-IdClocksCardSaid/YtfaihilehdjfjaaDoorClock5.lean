/- Contracts: a row of refs sorted, and turned round. -/
import Derived.Test.YtfaihilehdjfjaaDoorClock4
namespace Go.Proofs.YtfaihilehdjfjaaDoor
open Go.ChangeShapes Go.WideShapes Go.ChangeAt Go.RowKit

def encR (r : Rf) : List Value := [.int .i64 r.1, .int .i64 r.2]
/-- a row whose cells hold refs, none of them frozen -/
def RefRow (w : World) (g : Nat) (l : List Rf) : Prop := ∀ j u, (refC l)[j]? = some u → w.cell? ⟨g, j, none⟩ = some u ∧ w.frozen? ⟨g, j, none⟩ = false
theorem refC_get (l : List Rf) (t : Nat) (h : t < l.length * 2) : (refC l)[t]? = some ((encR (l.toArray[t / 2]!))[t % 2]!) := by
  obtain ⟨q, m, ht, hm⟩ : ∃ q m, t = q * 2 + m ∧ m < 2 := ⟨t / 2, t % 2, by omega, by omega⟩
  subst ht
  rw [show (q * 2 + m) / 2 = q from by omega, show (q * 2 + m) % 2 = m from by omega]
  have hk : q < l.length := by omega
  obtain ⟨h1, h2⟩ := refC_at (List.getElem?_eq_getElem hk)
  rw [getElem!_pos l.toArray q (by simpa using hk)]
  match m, hm with
  | 0, _ => simpa [encR] using h1
  | 1, _ => simpa [encR] using h2
theorem RefRow.holds {w : World} {g : Nat} {l : List Rf} (h : RefRow w g l) : Sort.HoldsK encR 2 w g 0 l.toArray := by
  intro j hj
  have hj' : j < l.length * 2 := by simpa using hj
  have := h j _ (refC_get l j hj')
  rw [Sort.get_flatK encR 2 l.toArray j (by simpa using hj')]
  simpa using this
theorem RefRow.of_holds {w : World} {g : Nat} {l : List Rf} (h : Sort.HoldsK encR 2 w g 0 l.toArray) : RefRow w g l := by
  intro j u hu
  have hj' : j < l.length * 2 := by
    rcases Nat.lt_or_ge j (l.length * 2) with h | h
    · exact h
    · rw [List.getElem?_eq_none (by rw [refC_length]; exact h)] at hu; cases hu
  have h1 := h j (by simpa using hj')
  rw [Sort.get_flatK encR 2 l.toArray j (by simpa using hj')] at h1
  rw [refC_get l j hj'] at hu
  obtain rfl := Option.some.inj hu
  simpa using h1
theorem RefRow.keep {w w' : World} {g : Nat} {l : List Rf} (h : RefRow w g l) (hk : w'.heap[g]? = w.heap[g]?) : RefRow w' g l := fun j u hu => by
  obtain ⟨h1, h2⟩ := h j u hu
  exact ⟨(World.cell?_of_block (w := w) (a := ⟨g, j, none⟩) hk).trans h1, (World.frozen?_of_block (w := w) (a := ⟨g, j, none⟩) hk).trans h2⟩
theorem RefRow.reads {w : World} {g : Nat} {l : List Rf} (h : RefRow w g l) : Reads (fun k => k = g) w 2 (some ⟨g, 0, none⟩) l.length (refC l) :=
  ⟨refC_length l, fun _ => ⟨_, rfl, rfl, fun j u hu => by
    have := (h j u hu).1
    unfold Addr.add
    split
    · rename_i e; rw [e] at this; exact this
    · simpa using this⟩⟩
theorem sortWorld_chg {w : World} {g n : Nat} {d : Array Rf} {os : Array Obj} : Chg (fun k => k = g) w (sortWorldK encR 2 w g 0 n d os) := by
  refine ⟨rfl, rfl, rfl, size_sortWorldK_c encR 2 w g 0 n d os, fun k hk hne => ?_⟩
  have e : (sortWorldK encR 2 w g 0 n d os).heap = (w.heap.modify g (Sort.onCells (Sort.putCells id 0 (Sort.flatK encR 2 d)))) ++ os := rfl
  rw [e, Array.getElem?_append_left (by simpa using hk), Array.getElem?_modify, if_neg (fun h => hne h.symm)]
theorem encR_one (x : Rf) : ∀ v ∈ encR x, v.oneCell' = true := by
  intro v hv
  simp only [encR, List.mem_cons, List.not_mem_nil, or_false] at hv
  rcases hv with rfl | rfl <;> rfl
/-- which ref is ahead, as Join sorts: the greater one -/
theorem lt_cmp (x y : Rf) : ltOf (fun a b => cmpR b a) x y = decide (y.1 < x.1 ∨ y.1 = x.1 ∧ y.2 < x.2) := by
  unfold ltOf cmpR Lib.compareInt
  by_cases h1 : y.1 < x.1
  · simp [h1]
  · by_cases h2 : x.1 < y.1
    · have h3 : y.1 ≠ x.1 := by omega
      simp [h1, h2, h3]
    · have h3 : y.1 = x.1 := by omega
      by_cases h4 : y.2 < x.2
      · simp [h3, h4]
      · by_cases h5 : x.2 < y.2 <;> simp [h3, h4, h5]
theorem swo_cmp : Sort.SWO (ltOf fun a b : Rf => cmpR b a) where
  irrefl x := by rw [lt_cmp]; simp
  trans x y z h1 h2 := by rw [lt_cmp] at *; simp only [decide_eq_true_eq] at *; omega
  ntrans x y z h1 h2 := by rw [lt_cmp] at *; simp only [decide_eq_false_iff_not] at *; omega
/-- sorted: no later one is greater -/
def DescR (l : List Rf) : Prop := ∀ (i j : Nat) (x y : Rf), i < j → l[i]? = some x → l[j]? = some y → ¬ (x.1 < y.1 ∨ x.1 = y.1 ∧ x.2 < y.2)
theorem sort_any (g cap : Nat) (l : List Rf) (w : World) (h : RefRow w g l) (hg : g < w.heap.size) (hl : l.length ≤ 1000000) :
    Calls Tryd.prog 48 #[.slice (some ⟨g, 0, none⟩) l.length cap, .func (.func 49) #[] #[]] w fun e w' =>
      e = .returned (.tuple #[]) ∧ ∃ l', l'.Perm l ∧ DescR l' ∧ RefRow w' g l' ∧ Chg (fun k => k = g) w w' := by
  have eg : ∀ args w, (callFunc 49 args).run Tryd.prog w = .ok (.enter 49 args) w := enters_of Tryd.func49 (by kernel_rfl) rfl
  have hc : CmpLays Tryd.prog 49 #[] encR 2 (fun x y => cmpR y x) g 0 l.toArray.size w := fun _ _ _ _ x y => join1_any x y _
  have := AnyQ.slices_SortFunc Tryd.sortRef 2 Tryd.isAgg79 Tryd.sizeOf79 encR (fun _ => rfl) encR_one (fun x y => cmpR y x) swo_cmp 49 #[] g 0 cap l.toArray w eg hc h.holds hg (by simp; omega)
  rw [show l.toArray.size = l.length from by simp] at this
  refine this.mono ?_
  rintro e w' ⟨rfl, d', n, os, hp, hs, rfl⟩
  have hsz : d'.size = l.length := by simpa using hp.1
  refine ⟨rfl, d'.toList, ?_, ?_, RefRow.of_holds (by simpa using holdsK_sortWorldK_c encR 2 w g 0 l.toArray d' n os h.holds hg (by simpa using hsz)), sortWorld_chg⟩
  · have h1 : d'.extract 0 l.length = d' := by rw [← hsz]; exact Array.extract_size
    have h2 : l.toArray.extract 0 l.length = l.toArray := by
      have : l.length = l.toArray.size := by simp
      rw [this]; exact Array.extract_size
    have h3 := hp.2.2
    rw [h1, h2] at h3
    exact h3
  · intro i j x y hij hx hy
    have hj : j < l.length := by
      rw [← hsz]
      rcases Nat.lt_or_ge j d'.size with h | h
      · exact h
      · rw [List.getElem?_eq_none (by simpa using h)] at hy; cases hy
    have h1 := hs i j (Nat.zero_le _) hij hj
    have ex : d'[i]! = x := by
      rw [Array.getElem?_toList] at hx
      rw [Array.getElem!_eq_getD, Array.getD_eq_getD_getElem?, hx]; rfl
    have ey : d'[j]! = y := by
      rw [Array.getElem?_toList] at hy
      rw [Array.getElem!_eq_getD, Array.getD_eq_getD_getElem?, hy]; rfl
    rw [lt_cmp, ex, ey] at h1
    simpa using h1
theorem reverse_any (g cap : Nat) (l : List Rf) (w : World) (h : RefRow w g l) (hg : g < w.heap.size) (hl : l.length ≤ 1000000) :
    Calls Tryd.prog 53 #[.slice (some ⟨g, 0, none⟩) l.length cap] w fun e w' =>
      e = .returned (.tuple #[]) ∧ RefRow w' g l.reverse ∧ Chg (fun k => k = g) w w' := by
  have := AnyQ.slices_Reverse Tryd.reverseRef 2 Tryd.isAgg79 Tryd.sizeOf79 encR (fun _ => rfl) encR_one g 0 cap l.toArray w h.holds (by simp; omega)
  rw [show l.toArray.size = l.length from by simp] at this
  refine this.mono ?_
  rintro e w' ⟨rfl, n, rfl⟩
  have e1 : l.toArray.reverse = l.reverse.toArray := by simp
  have e2 : Sort.putRowK encR 2 (Sort.ahead w n) g 0 l.toArray.reverse = sortWorldK encR 2 w g 0 n l.reverse.toArray #[] := by
    rw [e1]; unfold sortWorldK; rw [Sort.grow_empty]
  rw [e2]
  exact ⟨rfl, RefRow.of_holds (holdsK_sortWorldK_c encR 2 w g 0 l.toArray l.reverse.toArray n #[] h.holds hg (by simp)), sortWorld_chg⟩
theorem reverse_none (A : Option Addr) (cap : Nat) (w : World) : Calls Tryd.prog 53 #[.slice A 0 cap] w fun e w' => e = .returned (.tuple #[]) ∧ w' = w :=
  AnyQ.slices_Reverse_empty Tryd.reverseRef A cap w
end Go.Proofs.YtfaihilehdjfjaaDoor
