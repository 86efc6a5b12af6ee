/- Contracts for the law TreePlays: each step. -/
import Derived.Test.YtfaihilehdjfjaaDoorPlay2
namespace Go.Proofs.YtfaihilehdjfjaaDoor
open Go.ChangeShapes Go.WideShapes Go.ChangeAt Go.RowKit

section
variable {w wr w' : World} {v4 v5 : Value} {l4 l5 : List Int} {b k : Nat} {t : T}
theorem T.split_lists {t : T} {A B : List (Int × Int)} {e : Int × Int} {i : Nat} (h : t.toL = A ++ e :: B) (hi : A.length = i) :
    t.things[i]? = some e.1 ∧ t.wids[i]? = some e.2 ∧ t.things.take i ++ t.things.drop (i + 1) = (A ++ B).map (·.1) ∧ t.wids.take i ++ t.wids.drop (i + 1) = (A ++ B).map (·.2) := by
  subst hi
  simp only [T.things, T.wids, h, List.map_append, List.map_cons]
  have h1 : (A.map (·.1)).length = A.length := by simp
  have h2 : (A.map (·.2)).length = A.length := by simp
  refine ⟨?_, ?_, ?_, ?_⟩
  · rw [List.getElem?_append_right (by omega), h1]; simp
  · rw [List.getElem?_append_right (by omega), h2]; simp
  · rw [List.take_append_of_le_length (by omega), List.take_of_length_le (by omega), List.drop_append, List.drop_of_length_le (by omega), h1]; simp
  · rw [List.take_append_of_le_length (by omega), List.take_of_length_le (by omega), List.drop_append, List.drop_of_length_le (by omega), h2]; simp
theorem insP (h : PlayI w wr b t k v4 v5) (hk : k ≤ 900000000) (i : Nat) (x y : Int) (hi : i ≤ t.cnt) (hn : t.cnt ≤ 3000) (hy : 0 ≤ y ∧ y ≤ 1000000) :
    Calls Tryd.prog 23 #[.pointer (some ⟨b, 0, none⟩), .int .i64 i, .int .i64 x, .int .i64 y] wr fun e w' => e = .returned .nilIface ∧ ∃ t' k', WorkI w w' b t' k' ∧ Lists w w' v4 v5 t.things t.wids ∧
      t'.things = t.things.take i ++ x :: t.things.drop i ∧ t'.wids = t.wids.take i ++ y :: t.wids.drop i ∧ t'.cnt = t.cnt + 1 ∧ k' ≤ k + 200 := by
  refine (insertRow_any b t k i x y wr h.work.row (by omega)).mono ?_
  intro e w' hh
  unfold InsP at hh
  rw [if_neg (InsP.neg (by omega) (by omega) hy), if_neg (by omega)] at hh
  obtain ⟨rfl, g, k', hR, h1, h2, hg, hC⟩ := hh
  rw [Int.toNat_natCast] at hR
  have ht := h.work.row.ht
  refine ⟨rfl, T.insT t i g x y, k', h.work.step hR hC ?_, h.lists.chg hC (h.lists.apart h.work), ?_, ?_, T.cnt_ins t i g x y, by omega⟩
  · intro j hj
    rcases List.mem_cons.mp ((T.perm_ins t i g x y).mem_iff.mp hj) with e | e
    · have := h.work.below.size; omega
    · exact h.work.ads j e
  · simp only [T.things, T.toL_ins _ _ _ _ _ hi, List.map_append, List.map_cons, List.map_take, List.map_drop]
  · simp only [T.wids, T.toL_ins _ _ _ _ _ hi, List.map_append, List.map_cons, List.map_take, List.map_drop]
theorem insP_bad (h : PlayI w wr b t k v4 v5) (hk : k ≤ 900000000) (i x y : Int) (hi : i < 0 ∨ t.cnt < i ∨ ¬ (0 ≤ y ∧ y ≤ 1000000)) :
    Calls Tryd.prog 23 #[.pointer (some ⟨b, 0, none⟩), .int .i64 i, .int .i64 x, .int .i64 y] wr fun e w' => e = .returned (.iface 80 (.int .i64 1)) ∧ w' = wr := by
  refine (insertRow_any b t k i x y wr h.work.row (by omega)).mono ?_
  intro e w' hh
  unfold InsP at hh
  rwa [if_pos hi] at hh
theorem remP (h : PlayI w wr b t k v4 v5) (hk : k ≤ 900000000) (i : Nat) (hi : i < t.cnt) :
    Calls Tryd.prog 25 #[.pointer (some ⟨b, 0, none⟩), .int .i64 i] wr fun e w' => ∃ x y, e = .returned (outV x y) ∧ t.things[i]? = some x ∧ t.wids[i]? = some y ∧ ∃ t' k', WorkI w w' b t' k' ∧ Lists w w' v4 v5 t.things t.wids ∧
      t'.things = t.things.take i ++ t.things.drop (i + 1) ∧ t'.wids = t.wids.take i ++ t.wids.drop (i + 1) ∧ t'.cnt + 1 = t.cnt ∧ k' ≤ k + 200 := by
  refine (removeRow_any b t k i wr h.work.row (by omega) hi).mono ?_
  rintro e w' ⟨rfl, k', hR, h1, h2, hC⟩
  have ht := h.work.row.ht
  obtain ⟨⟨A, B, e1, e2, e3⟩, hp⟩ := T.rem_spec t i hi
  obtain ⟨f1, f2, f3, f4⟩ := T.split_lists e1 e2
  refine ⟨_, _, rfl, f1, f2, _, k', h.work.step hR hC (fun g hg => h.work.ads g (hp.mem_iff.mpr (List.mem_cons_of_mem _ hg))), h.lists.chg hC (h.lists.apart h.work), ?_, ?_, T.rem_cnt hi, by omega⟩
  · rw [f3, T.things, e3]
  · rw [f4, T.wids, e3]
theorem getP (h : PlayI w wr b t k v4 v5) (hk : k ≤ 900000000) (i : Nat) (hi : i < t.cnt) :
    Calls Tryd.prog 27 #[.pointer (some ⟨b, 0, none⟩), .int .i64 i] wr fun e w' => ∃ x y, e = .returned (outV x y) ∧ t.things[i]? = some x ∧ t.wids[i]? = some y ∧ ∃ k', PlayI w w' b t k' v4 v5 ∧ k' ≤ k + 200 := by
  refine (getRow_any b t k i wr h.work.row (by omega) hi).mono ?_
  rintro e w' ⟨rfl, k', hR, h1, h2, hC⟩
  have ht := h.work.row.ht
  have hg := T.getT_toL t i hi
  exact ⟨_, _, rfl, by rw [T.things, List.getElem?_map, hg]; rfl, by rw [T.wids, List.getElem?_map, hg]; rfl, k', h.same hR hC, by omega⟩
theorem setP (h : WorkI w wr b t k) (hl : Lists w wr v4 v5 l4 l5) (hk : k ≤ 900000000) (i : Nat) (y : Int) (hi : i < t.cnt) (hy : 0 ≤ y ∧ y ≤ 1000000) :
    Calls Tryd.prog 28 #[.pointer (some ⟨b, 0, none⟩), .int .i64 i, .int .i64 y] wr fun e w' => e = .returned .nilIface ∧ ∃ t' k', WorkI w w' b t' k' ∧ Lists w w' v4 v5 l4 l5 ∧
      t'.things = t.things ∧ t'.wids = t.wids.set i y ∧ t'.cnt = t.cnt ∧ k' ≤ k + 200 := by
  refine (setRow_any b t k i y wr h.row (by omega) hi hy).mono ?_
  rintro e w' ⟨rfl, k', hR, h1, h2, hC⟩
  have ht := h.row.ht
  exact ⟨rfl, _, k', h.step hR hC (fun g hg => h.ads g (by rwa [T.ads_set] at hg)), hl.chg hC (hl.apart h), T.things_set _ _ _, T.wids_set _ _ _ hi, T.cnt_set _ _ _, by omega⟩
theorem findP (h : PlayI w wr b t k v4 v5) (hk : k ≤ 900000000) (p : Int) (hp : 0 ≤ p) (hpt : p < t.wid) :
    Calls Tryd.prog 29 #[.pointer (some ⟨b, 0, none⟩), .int .i64 p] wr fun e w' => ∃ (x : Nat) (y : Int), e = .returned (outV x y) ∧ LocP t.wids p x y ∧ ∃ k', PlayI w w' b t k' v4 v5 ∧ k' ≤ k + 200 := by
  refine (findRow_any b t k p wr h.work.row (by omega) hp hpt).mono ?_
  rintro e w' ⟨rfl, k', hR, h1, h2, hC⟩
  have ht := h.work.row.ht
  exact ⟨_, _, rfl, T.find_loc t p h.work.row.small hp hpt, k', h.same hR hC, by omega⟩
theorem aheadP (h : PlayI w wr b t k v4 v5) (hk : k ≤ 900000000) (i : Nat) (hi : i ≤ t.cnt) :
    Calls Tryd.prog 30 #[.pointer (some ⟨b, 0, none⟩), .int .i64 i] wr fun e w' => e = .returned (.tuple #[.int .i64 ((t.wids.take i).sum), .nilIface]) ∧ ∃ k', PlayI w w' b t k' v4 v5 ∧ k' ≤ k + 200 := by
  refine (aheadRow_any b t k i wr h.work.row (by omega) hi).mono ?_
  rintro e w' ⟨rfl, k', hR, h1, h2, hC⟩
  have ht := h.work.row.ht
  exact ⟨by rw [T.ahead_sum t i hi], k', h.same hR hC, by omega⟩
theorem put4 (h : Lists w wr v4 v5 l4 l5) (hw : w.heap.size ≤ wr.heap.size) (hl : l4.length ≤ 3000) (k : Nat) (x : Int) (hk : k ≤ l4.length) :
    Calls Tryd.prog 24 #[v4, .int .i64 k, .int .i64 x] wr fun e w' => ∃ v, e = .returned v ∧ Lists w w' v v5 (l4.take k ++ x :: l4.drop k) l5 ∧ Below wr.heap.size wr w' := by
  obtain ⟨A, c, rfl, hc, hm, hr⟩ := Reads.of_own h.own4
  refine (put_any l4 k x _ A c wr hr (fun g hg => (own_lt h.own4 hg).2) (by omega) hc hm hk).mono ?_
  rintro e w' ⟨v, rfl, ho, hb⟩
  have hle : (l4.take k ++ x :: l4.drop k).length = l4.length + 1 := by simp; omega
  exact ⟨v, rfl, ⟨by rw [hle]; exact own_base ho (fun g hg => Nat.le_trans hw (own_lt ho hg).1), own_below h.own5 hb, fun g hg e => by have := (own_lt ho hg).1; have := (own_lt h.own5 e).2; omega⟩, hb⟩
theorem put5 (h : Lists w wr v4 v5 l4 l5) (hw : w.heap.size ≤ wr.heap.size) (hl : l5.length ≤ 3000) (k : Nat) (x : Int) (hk : k ≤ l5.length) :
    Calls Tryd.prog 24 #[v5, .int .i64 k, .int .i64 x] wr fun e w' => ∃ v, e = .returned v ∧ Lists w w' v4 v l4 (l5.take k ++ x :: l5.drop k) ∧ Below wr.heap.size wr w' := by
  obtain ⟨A, c, rfl, hc, hm, hr⟩ := Reads.of_own h.own5
  refine (put_any l5 k x _ A c wr hr (fun g hg => (own_lt h.own5 hg).2) (by omega) hc hm hk).mono ?_
  rintro e w' ⟨v, rfl, ho, hb⟩
  have hle : (l5.take k ++ x :: l5.drop k).length = l5.length + 1 := by simp; omega
  exact ⟨v, rfl, ⟨own_below h.own4 hb, by rw [hle]; exact own_base ho (fun g hg => Nat.le_trans hw (own_lt ho hg).1), fun g hg e => by have := (own_lt ho e).1; have := (own_lt h.own4 hg).2; omega⟩, hb⟩
theorem cut4 (h : Lists w wr v4 v5 l4 l5) (hw : w.heap.size ≤ wr.heap.size) (hl : l4.length ≤ 3000) (k : Nat) (hk : k < l4.length) :
    Calls Tryd.prog 26 #[v4, .int .i64 k] wr fun e w' => ∃ v, e = .returned v ∧ Lists w w' v v5 (l4.take k ++ l4.drop (k + 1)) l5 ∧ Below wr.heap.size wr w' := by
  obtain ⟨A, c, rfl, hc, hm, hr⟩ := Reads.of_own h.own4
  refine (cut_any l4 k _ A c wr hr (fun g hg => (own_lt h.own4 hg).2) (by omega) hc hm hk).mono ?_
  rintro e w' ⟨v, rfl, ho, hb⟩
  have hle : (l4.take k ++ l4.drop (k + 1)).length = l4.length - 1 := by simp; omega
  exact ⟨v, rfl, ⟨by rw [hle]; exact own_base ho (fun g hg => Nat.le_trans hw (own_lt ho hg).1), own_below h.own5 hb, fun g hg e => by have := (own_lt ho hg).1; have := (own_lt h.own5 e).2; omega⟩, hb⟩
theorem cut5 (h : Lists w wr v4 v5 l4 l5) (hw : w.heap.size ≤ wr.heap.size) (hl : l5.length ≤ 3000) (k : Nat) (hk : k < l5.length) :
    Calls Tryd.prog 26 #[v5, .int .i64 k] wr fun e w' => ∃ v, e = .returned v ∧ Lists w w' v4 v l4 (l5.take k ++ l5.drop (k + 1)) ∧ Below wr.heap.size wr w' := by
  obtain ⟨A, c, rfl, hc, hm, hr⟩ := Reads.of_own h.own5
  refine (cut_any l5 k _ A c wr hr (fun g hg => (own_lt h.own5 hg).2) (by omega) hc hm hk).mono ?_
  rintro e w' ⟨v, rfl, ho, hb⟩
  have hle : (l5.take k ++ l5.drop (k + 1)).length = l5.length - 1 := by simp; omega
  exact ⟨v, rfl, ⟨own_below h.own4 hb, by rw [hle]; exact own_base ho (fun g hg => Nat.le_trans hw (own_lt ho hg).1), fun g hg e => by have := (own_lt ho e).1; have := (own_lt h.own4 hg).2; omega⟩, hb⟩
end
end Go.Proofs.YtfaihilehdjfjaaDoor
