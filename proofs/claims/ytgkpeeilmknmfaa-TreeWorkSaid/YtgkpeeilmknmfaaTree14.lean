/- Contracts: package tree, over a row of the call's own; and pick. -/
import Derived.Test.YtgkpeeilmknmfaaTree13
namespace Go.Proofs.Ytgkpeeilmknmfaa
open Go.ChangeShapes Go.WideShapes Go.ChangeAt Go.RowKit

theorem tmod_low (k n : Int) (hn : 0 < n) : -n < k.tmod n := by
  rcases Int.le_total 0 k with h | h
  · have := Int.tmod_nonneg n h; omega
  · have h1 : (-k).tmod n < n := Int.tmod_lt_of_pos (-k) hn
    rw [Int.neg_tmod] at h1
    omega
theorem pick_any (k n : Int) (w : World) (hk : -9223372036854775808 ≤ k ∧ k ≤ 9223372036854775807) (hn : 0 < n ∧ n ≤ 1000000) :
    Calls Try.prog 12 #[.int .i64 k, .int .i64 n] w fun e w' => e = .returned (.int .i64 ((k.tmod n + n) % n)) ∧ w' = w := by
  have h1 : -n < k.tmod n := tmod_low k n hn.1
  have h2 : k.tmod n < n := Int.tmod_lt_of_pos k hn.1
  have hn0 : n ≠ 0 := by omega
  go_enter Try.func12, Try.ntmps12
  go_wp2_with fail
  go_ret
  exact ⟨rfl, rfl⟩
structure WorkI (w wr : World) (b : Nat) (t : T) (k : Nat) : Prop where
  row : RowOf wr b t k
  base : w.heap.size ≤ b
  ads : ∀ g ∈ t.ads, w.heap.size ≤ g
  below : Below w.heap.size w wr
theorem WorkI.step {w wr w' : World} {b : Nat} {t t' : T} {k k' : Nat} (h : WorkI w wr b t k) (hr : RowOf w' b t' k') (hc : Chg (fun j => j = b ∨ j ∈ t.ads) wr w') (ha : ∀ g ∈ t'.ads, w.heap.size ≤ g) : WorkI w w' b t' k' :=
  ⟨hr, h.base, ha, h.below.trans (hc.below h.below.size fun _ e => e.elim (fun e => e ▸ h.base) (h.ads _))⟩
theorem WorkI.same {w wr w' : World} {b : Nat} {t : T} {k k' : Nat} (h : WorkI w wr b t k) (hr : RowOf w' b t k') (hc : Chg (fun j => j = b) wr w') : WorkI w w' b t k' :=
  h.step hr (hc.mono fun _ _ e => .inl e) h.ads
section
variable {w wr : World} {b k : Nat} {t : T}
theorem insW (h : WorkI w wr b t k) (hk : k ≤ 1000) (x : Int) (i : Nat) (hi : i ≤ t.cnt) (hn : t.cnt ≤ 3000) (y : Int) (hy : 0 ≤ y ∧ y ≤ 1000000) :
    Calls Try.prog 10 #[.pointer (some ⟨b, 0, none⟩), .int .i64 i, .int .i64 x, .int .i64 y] wr fun e w' => e = .returned .nilIface ∧ ∃ t' k', t'.cnt = t.cnt + 1 ∧ t'.wid = t.wid + y ∧ WorkI w w' b t' k' ∧ k' ≤ k + 3 * t.ht := by
  refine (insertRow_any b t k i x y wr h.row (by omega)).mono ?_
  intro e w' hh
  unfold InsP at hh
  rw [if_neg (InsP.neg (by omega) (by omega) hy), if_neg (by omega)] at hh
  obtain ⟨rfl, g, k', hR, h1, h2, hg, hC⟩ := hh
  rw [Int.toNat_natCast] at hR
  have hcn := T.cnt_ins t i g x y
  refine ⟨rfl, T.insT t i g x y, k', hcn, ?_, h.step hR hC ?_, h2⟩
  · have h9 : ((t.toL.map (·.2)).take i).sum + ((t.toL.map (·.2)).drop i).sum = (t.toL.map (·.2)).sum := by rw [← List.sum_append, List.take_append_drop]
    rw [T.wid_toL, T.wid_toL, T.toL_ins _ _ _ _ _ hi]
    simp only [List.map_append, List.map_cons, List.map_take, List.map_drop, List.sum_append, List.sum_cons]
    omega
  · intro j hj
    rcases List.mem_cons.mp ((T.perm_ins t i g x y).mem_iff.mp hj) with e | e
    · have := h.below.size; omega
    · exact h.ads j e
theorem workW (h : WorkI w wr b t k) :
    Calls Try.prog 13 #[.pointer (some ⟨b, 0, none⟩)] wr fun e w' => e = .returned (.int .i64 k) ∧ WorkI w w' b t 0 :=
  (work_any b t k wr h.row).mono fun _ _ ⟨h1, h2, h3⟩ => ⟨h1, h.same h2 h3⟩
theorem aheadW (h : WorkI w wr b t k) (hk : k ≤ 1000) (i : Nat) (hi : i ≤ t.cnt) :
    Calls Try.prog 14 #[.pointer (some ⟨b, 0, none⟩), .int .i64 i] wr fun e w' => ∃ x, e = .returned (.tuple #[.int .i64 x, .nilIface]) ∧ ∃ k', WorkI w w' b t k' ∧ k' ≤ k + t.ht :=
  (aheadRow_any b t k i wr h.row (by omega) hi).mono fun _ _ ⟨h1, k', h2, _, h3, h4⟩ => ⟨_, h1, k', h.same h2 h4, h3⟩
theorem findW (h : WorkI w wr b t k) (hk : k ≤ 1000) (i : Nat) :
    Calls Try.prog 15 #[.pointer (some ⟨b, 0, none⟩), .int .i64 i] wr fun e w' => ∃ x, e = .returned x ∧ ∃ k', WorkI w w' b t k' ∧ k' ≤ k + t.ht := by
  by_cases hi : (i : Int) < t.wid
  · exact (findRow_any b t k i wr h.row (by omega) (by omega) hi).mono fun _ _ ⟨h1, k', h2, _, h3, h4⟩ => ⟨_, h1, k', h.same h2 h4, h3⟩
  · exact (findRow_bad b t k i wr h.row (.inr (by omega))).mono fun _ _ ⟨h1, h2⟩ => ⟨_, h1, k, h2 ▸ h, by omega⟩
theorem getW (h : WorkI w wr b t k) (hk : k ≤ 1000) (i : Nat) :
    Calls Try.prog 16 #[.pointer (some ⟨b, 0, none⟩), .int .i64 i] wr fun e w' => ∃ x, e = .returned x ∧ ∃ k', WorkI w w' b t k' ∧ k' ≤ k + t.ht := by
  by_cases hi : i < t.cnt
  · exact (getRow_any b t k i wr h.row (by omega) hi).mono fun _ _ ⟨h1, k', h2, _, h3, h4⟩ => ⟨_, h1, k', h.same h2 h4, h3⟩
  · exact (getRow_bad b t k i wr h.row (.inr (by omega))).mono fun _ _ ⟨h1, h2⟩ => ⟨_, h1, k, h2 ▸ h, by omega⟩
theorem removeW (h : WorkI w wr b t k) (hk : k ≤ 1000) (i : Nat) :
    Calls Try.prog 17 #[.pointer (some ⟨b, 0, none⟩), .int .i64 i] wr fun e w' => ∃ x, e = .returned x ∧ ∃ t' k', WorkI w w' b t' k' ∧ k' ≤ k + 3 * t.ht := by
  by_cases hi : i < t.cnt
  · exact (removeRow_any b t k i wr h.row (by omega) hi).mono fun _ _ ⟨h1, k', h2, _, h3, h4⟩ => ⟨_, h1, _, k', h.step h2 h4 (fun g hg => h.ads g ((T.rem_spec t i hi).2.mem_iff.mpr (List.mem_cons_of_mem _ hg))), h3⟩
  · exact (removeRow_bad b t k i wr h.row (.inr (by omega))).mono fun _ _ ⟨h1, h2⟩ => ⟨_, h1, t, k, h2 ▸ h, by omega⟩
end
end Go.Proofs.Ytgkpeeilmknmfaa
