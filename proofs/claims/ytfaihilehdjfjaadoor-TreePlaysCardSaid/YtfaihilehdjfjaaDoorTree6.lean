/- Contracts: package tree: one thing put in. -/
import Derived.Test.YtfaihilehdjfjaaDoorTree5
namespace Go.Proofs.YtfaihilehdjfjaaDoor
open Go.ChangeShapes Go.WideShapes Go.ChangeAt Go.RowKit

namespace T
theorem small_iff : ∀ {t : T}, t.small ↔ ∀ e ∈ t.toL, 0 ≤ e.2 ∧ e.2 ≤ 1000000
  | .nil => by simp [small, toL]
  | .node l g x y r => by
    have h1 := @small_iff l
    have h2 := @small_iff r
    simp only [small, toL, List.mem_append, List.mem_cons]
    constructor
    · rintro ⟨a, b, c⟩ e (h | rfl | h)
      · exact h1.mp a e h
      · exact c
      · exact h2.mp b e h
    · intro h
      exact ⟨h1.mpr fun e he => h e (.inl he), h2.mpr fun e he => h e (.inr (.inr he)), h (x, y) (.inr (.inl rfl))⟩
theorem small_even {l r : T} {g : Nat} {x y : Int} (hl : l.small) (hr : r.small) (hy : 0 ≤ y ∧ y ≤ 1000000) : (evenT l g x y r).small := by
  rw [small_iff, toL_even]
  exact (@small_iff (.node l g x y r)).mp ⟨hl, hr, hy⟩
theorem small_ins {t : T} {at_ k : Nat} {a c : Int} (h : t.small) (hc : 0 ≤ c ∧ c ≤ 1000000) (ha : at_ ≤ t.cnt) : (insT t at_ k a c).small := by
  rw [small_iff, toL_ins _ _ _ _ _ ha]
  intro e he
  simp only [List.mem_append, List.mem_cons] at he
  rcases he with he | rfl | he
  · exact small_iff.mp h e (List.mem_of_mem_take he)
  · exact hc
  · exact small_iff.mp h e (List.mem_of_mem_drop he)
theorem perm_insL (l r : T) (at_ k g : Nat) (a c x y : Int) : ((T.node (insT l at_ k a c) g x y r).ads).Perm (k :: (T.node l g x y r).ads) := by
  simp only [ads]
  exact (((perm_ins l at_ k a c).append_right (ads r)).cons g).trans (List.Perm.swap _ _ _)
theorem perm_insR (l r : T) (at_ k g : Nat) (a c x y : Int) : ((T.node l g x y (insT r at_ k a c)).ads).Perm (k :: (T.node l g x y r).ads) := by
  simp only [ads]
  refine (((perm_ins r at_ k a c).append_left (ads l)).cons g).trans ?_
  exact ((List.perm_middle (l₁ := ads l)).cons g).trans (List.Perm.swap _ _ _)
end T
theorem Lk.then {w' : World} {b : Nat} {root : Value} {work n m : Nat} {k : Nat} (h1 : work ≤ k) (h2 : k ≤ work + n) (h : Lk w' b root k m) : Lk w' b root work (n + m) := by
  obtain ⟨k', h3, h4, h5⟩ := h
  exact ⟨k', h3, by omega, by omega⟩

set_option maxHeartbeats 2000000 in
set_option maxRecDepth 20000 in
theorem insert_any : ∀ (t : T) (at_ kx : Nat) (a c : Int) (b : Nat) (root : Value) (work : Nat) (w : World), RowAt w b root work → work + 3 * t.ht ≤ 999999990 → TreeAt w t → TreeAt w (.node .nil kx a c .nil) →
    (kx :: t.ads).Nodup → t.small → 0 ≤ c ∧ c ≤ 1000000 → at_ ≤ t.cnt → t.cnt ≤ 199000 →
    Calls Tryd.prog 64 #[.pointer (some ⟨b, 0, none⟩), t.ptr, .int .i64 at_, .pointer (some ⟨kx, 0, none⟩)] w fun e w' =>
      e = .returned (T.ptr (T.insT t at_ kx a c)) ∧ TreeAt w' (T.insT t at_ kx a c) ∧ Lk w' b root work (3 * t.ht) ∧ Chg (fun i => i = b ∨ i ∈ kx :: t.ads) w w'
  | .nil, at_, kx, a, c, b, root, work, w, hR, hwk, hT, hX, hnd, hs, hc, ha, hn => by
    simp only [T.ptr, T.insT]
    have H : Hid (RowAt w b root work ∧ TreeAt w (.node .nil kx a c .nil)) := ⟨hR, hX⟩
    clear hR hX
    go_enter Tryd.func64, Tryd.ntmps64
    go_wp2_with fail
    go_ret
    exact ⟨rfl, H.out.2, ⟨work, H.out.1, by omega, by omega⟩, Chg.refl w⟩
  | .node l g x y r, at_, kx, a, c, b, root, work, w, hR, hwk, hT, hX, hnd, hs, hc, ha, hn => by
    have hbg : b ≠ g := Blk.ne_ hR hT.1 (by decide)
    have hbk : b ≠ kx := Blk.ne_ hR hX.1 (by decide)
    have hbl : b ∉ l.ads := TreeAt.no_row hR hT.2.1
    have hbr : b ∉ r.ads := TreeAt.no_row hR hT.2.2
    have H : Hid (RowAt w b root work ∧ RawN w g l r x y _ _ _ ∧ TreeAt w l ∧ TreeAt w r ∧ TreeAt w (.node .nil kx a c .nil)) := ⟨hR, hT.1, hT.2.1, hT.2.2, hX⟩
    have hcl : l.cnt + r.cnt + 1 ≤ 199000 := by simp only [T.cnt] at hn; omega
    have hal : at_ ≤ l.cnt + r.cnt + 1 := by simp only [T.cnt] at ha; omega
    have hhl : work + 3 * l.ht + 3 ≤ 999999990 := by simp only [T.ht] at hwk; omega
    have hhr : work + 3 * r.ht + 3 ≤ 999999990 := by simp only [T.ht] at hwk; omega
    have kn : kx ∉ (T.node l g x y r).ads := (List.nodup_cons.mp hnd).1
    have nd1 : (T.node l g x y r).ads.Nodup := (List.nodup_cons.mp hnd).2
    obtain ⟨n1, n2, n3, n4, n5⟩ := T.nodup_node.mp nd1
    have kn' : kx ≠ g ∧ kx ∉ l.ads ∧ kx ∉ r.ads := by simpa [T.ads, not_or] using kn
    have c0 : w.cell? ⟨g, 0, none⟩ = some l.ptr := H.out.2.1.cell 0
    have c1 : w.cell? ⟨g, 1, none⟩ = some r.ptr := H.out.2.1.cell 1
    have IH1 := insert_any l at_ kx a c b root work w H.out.1 (by omega) H.out.2.2.1 H.out.2.2.2.2 (List.nodup_cons.mpr ⟨kn'.2.1, n3⟩) hs.1 hc
    have IH2 := insert_any r (at_ - l.cnt - 1) kx a c b root work w H.out.1 (by omega) H.out.2.2.2.1 H.out.2.2.2.2 (List.nodup_cons.mpr ⟨kn'.2.2, n4⟩) hs.2.1 hc
    clear hR hT hX hn ha hwk nd1 kn
    have he : T.insT (.node l g x y r) at_ kx a c = if at_ ≤ l.cnt then T.evenT (T.insT l at_ kx a c) g x y r else T.evenT l g x y (T.insT r (at_ - l.cnt - 1) kx a c) := rfl
    rw [he]
    change Calls _ _ #[_, .pointer (some ⟨g, 0, none⟩), _, _] _ _
    by_cases hlt : at_ ≤ l.cnt
    · rw [if_pos hlt]
      go_enter Tryd.func64, Tryd.ntmps64
      go_wp2_with fail
      go_at_call 73
      refine (count_any l _ H.out.2.2.1).mono ?_
      rintro e w1 ⟨rfl, e1⟩
      rw [e1]
      clear e1 w1
      go_wp2_with fail
      go_at_call 64
      refine (IH1 (by omega) (by omega)).mono ?_
      rintro e w2 ⟨rfl, hT2, ⟨k2, hR2, hk2, hk2'⟩, hC2⟩
      have hno : ∀ i ∈ T.ads r, ¬ (i = b ∨ i ∈ kx :: T.ads l) := by
        intro i hi e
        rcases e with e | e
        · exact hbr (e ▸ hi)
        · rcases List.mem_cons.mp e with e | e
          · exact kn'.2.2 (e ▸ hi)
          · exact n5 i e hi
      have hgo : ¬ (g = b ∨ g ∈ kx :: T.ads l) := by
        intro e
        rcases e with e | e
        · exact hbg e.symm
        · rcases List.mem_cons.mp e with e | e
          · exact kn'.1 e.symm
          · exact n1 e
      have H2 : Hid (RowAt w2 b root k2 ∧ RawN w2 g l r x y _ _ _ ∧ TreeAt w2 (T.insT l at_ kx a c) ∧ TreeAt w2 r ∧ Chg (fun i => i = b ∨ i ∈ kx :: (T.node l g x y r).ads) w w2) :=
        ⟨hR2, H.out.2.1.keep hC2 hgo, hT2, (H.out.2.2.2.1.chg hC2 hno), hC2.mono (fun i _ e => e.elim .inl (fun e => .inr (by rcases List.mem_cons.mp e with e | e <;> simp [T.ads, e])))⟩
      clear hT2 hR2 hC2 c0 c1 IH1 IH2
      have c0 : w2.cell? ⟨g, 0, none⟩ = some (T.ptr l) := H2.out.2.1.cell 0
      have f0 : w2.frozen? ⟨g, 0, none⟩ = false := H2.out.2.1.frozen 0
      obtain ⟨u, hu⟩ := T.ptr_pointer l
      rw [hu] at c0
      obtain ⟨v, hv⟩ := T.ptr_pointer (T.insT l at_ kx a c)
      rw [hv]
      go_wp2_with fail
      rw [← hv]
      have hnd2 : (T.node (T.insT l at_ kx a c) g x y r).ads.Nodup := (List.Perm.nodup_iff (T.perm_insL l r at_ kx g a c x y)).mpr hnd
      have hC3 : Chg (fun i => i = g) w2 (w2.setCell ⟨g, 0, none⟩ (T.ptr (T.insT l at_ kx a c))) := Chg.put g 0 _
      have H3 : Hid (RowAt (w2.setCell ⟨g, 0, none⟩ (T.ptr (T.insT l at_ kx a c))) b root k2 ∧ RawN (w2.setCell ⟨g, 0, none⟩ (T.ptr (T.insT l at_ kx a c))) g (T.insT l at_ kx a c) r x y _ _ _ ∧ TreeAt (w2.setCell ⟨g, 0, none⟩ (T.ptr (T.insT l at_ kx a c))) (T.insT l at_ kx a c) ∧ TreeAt (w2.setCell ⟨g, 0, none⟩ (T.ptr (T.insT l at_ kx a c))) r ∧ Chg (fun i => i = b ∨ i ∈ kx :: (T.node l g x y r).ads) w (w2.setCell ⟨g, 0, none⟩ (T.ptr (T.insT l at_ kx a c)))) :=
        ⟨H2.out.1.chg hC3 hbg, H2.out.2.1.put0 (T.insT l at_ kx a c), H2.out.2.2.1.put (T.nodup_node.mp hnd2).1 _ _, H2.out.2.2.2.1.put (T.nodup_node.mp hnd2).2.1 _ _, H2.out.2.2.2.2.trans hC3 (fun i _ e => .inr (by simp [T.ads, e]))⟩
      generalize w2.setCell ⟨g, 0, none⟩ (T.ptr (T.insT l at_ kx a c)) = w3 at H3 ⊢
      clear hC3 c0 f0 H2
      go_at_call 110
      have hci := T.cnt_ins l at_ kx a c
      refine (even_any (T.insT l at_ kx a c) r g x y _ _ _ b root k2 w3 H3.out.1 (by omega) H3.out.2.1 H3.out.2.2.1 H3.out.2.2.2.1 hnd2 (T.small_ins hs.1 hc (by omega)) hs.2.1 hs.2.2 (by omega)).mono ?_
      rintro e w4 ⟨rfl, hT4, hL4, hC4⟩
      go_wp2_with fail
      go_ret
      refine ⟨rfl, hT4, (Lk.then hk2 hk2' hL4).mono (by simp only [T.ht]; omega), H3.out.2.2.2.2.trans hC4 (fun i _ e => e.elim .inl (fun e => .inr ((T.perm_insL l r at_ kx g a c x y).mem_iff.mp e)))⟩
    · rw [if_neg hlt]
      have he2 : ((at_ - l.cnt - 1 : Nat) : Int) = (at_ : Int) - l.cnt - 1 := by omega
      rw [he2] at IH2
      go_enter Tryd.func64, Tryd.ntmps64
      go_wp2_with fail
      go_at_call 73
      refine (count_any l _ H.out.2.2.1).mono ?_
      rintro e w1 ⟨rfl, e1⟩
      rw [e1]
      clear e1 w1
      go_wp2_with fail
      go_at_call 64
      refine (IH2 (by omega) (by omega)).mono ?_
      rintro e w2 ⟨rfl, hT2, ⟨k2, hR2, hk2, hk2'⟩, hC2⟩
      have hno : ∀ i ∈ T.ads l, ¬ (i = b ∨ i ∈ kx :: T.ads r) := by
        intro i hi e
        rcases e with e | e
        · exact hbl (e ▸ hi)
        · rcases List.mem_cons.mp e with e | e
          · exact kn'.2.1 (e ▸ hi)
          · exact n5 i hi e
      have hgo : ¬ (g = b ∨ g ∈ kx :: T.ads r) := by
        intro e
        rcases e with e | e
        · exact hbg e.symm
        · rcases List.mem_cons.mp e with e | e
          · exact kn'.1 e.symm
          · exact n2 e
      have H2 : Hid (RowAt w2 b root k2 ∧ RawN w2 g l r x y _ _ _ ∧ TreeAt w2 l ∧ TreeAt w2 (T.insT r (at_ - l.cnt - 1) kx a c) ∧ Chg (fun i => i = b ∨ i ∈ kx :: (T.node l g x y r).ads) w w2) :=
        ⟨hR2, H.out.2.1.keep hC2 hgo, (H.out.2.2.1.chg hC2 hno), hT2, hC2.mono (fun i _ e => e.elim .inl (fun e => .inr (by rcases List.mem_cons.mp e with e | e <;> simp [T.ads, e])))⟩
      clear hT2 hR2 hC2 c0 c1 IH1 IH2
      have c0 : w2.cell? ⟨g, 1, none⟩ = some (T.ptr r) := H2.out.2.1.cell 1
      have f0 : w2.frozen? ⟨g, 1, none⟩ = false := H2.out.2.1.frozen 1
      obtain ⟨u, hu⟩ := T.ptr_pointer r
      rw [hu] at c0
      obtain ⟨v, hv⟩ := T.ptr_pointer (T.insT r (at_ - l.cnt - 1) kx a c)
      rw [hv]
      go_wp2_with fail
      rw [← hv]
      have hnd2 : (T.node l g x y (T.insT r (at_ - l.cnt - 1) kx a c)).ads.Nodup := (List.Perm.nodup_iff (T.perm_insR l r (at_ - l.cnt - 1) kx g a c x y)).mpr hnd
      have hC3 : Chg (fun i => i = g) w2 (w2.setCell ⟨g, 1, none⟩ (T.ptr (T.insT r (at_ - l.cnt - 1) kx a c))) := Chg.put g 1 _
      have H3 : Hid (RowAt (w2.setCell ⟨g, 1, none⟩ (T.ptr (T.insT r (at_ - l.cnt - 1) kx a c))) b root k2 ∧ RawN (w2.setCell ⟨g, 1, none⟩ (T.ptr (T.insT r (at_ - l.cnt - 1) kx a c))) g l (T.insT r (at_ - l.cnt - 1) kx a c) x y _ _ _ ∧ TreeAt (w2.setCell ⟨g, 1, none⟩ (T.ptr (T.insT r (at_ - l.cnt - 1) kx a c))) l ∧ TreeAt (w2.setCell ⟨g, 1, none⟩ (T.ptr (T.insT r (at_ - l.cnt - 1) kx a c))) (T.insT r (at_ - l.cnt - 1) kx a c) ∧ Chg (fun i => i = b ∨ i ∈ kx :: (T.node l g x y r).ads) w (w2.setCell ⟨g, 1, none⟩ (T.ptr (T.insT r (at_ - l.cnt - 1) kx a c)))) :=
        ⟨H2.out.1.chg hC3 hbg, H2.out.2.1.put1 (T.insT r (at_ - l.cnt - 1) kx a c), H2.out.2.2.1.put (T.nodup_node.mp hnd2).1 _ _, H2.out.2.2.2.1.put (T.nodup_node.mp hnd2).2.1 _ _, H2.out.2.2.2.2.trans hC3 (fun i _ e => .inr (by simp [T.ads, e]))⟩
      generalize w2.setCell ⟨g, 1, none⟩ (T.ptr (T.insT r (at_ - l.cnt - 1) kx a c)) = w3 at H3 ⊢
      clear hC3 c0 f0 H2
      go_at_call 110
      have hci := T.cnt_ins r (at_ - l.cnt - 1) kx a c
      refine (even_any l (T.insT r (at_ - l.cnt - 1) kx a c) g x y _ _ _ b root k2 w3 H3.out.1 (by omega) H3.out.2.1 H3.out.2.2.1 H3.out.2.2.2.1 hnd2 hs.1 (T.small_ins hs.2.1 hc (by omega)) hs.2.2 (by omega)).mono ?_
      rintro e w4 ⟨rfl, hT4, hL4, hC4⟩
      go_wp2_with fail
      go_ret
      refine ⟨rfl, hT4, (Lk.then hk2 hk2' hL4).mono (by simp only [T.ht]; omega), H3.out.2.2.2.2.trans hC4 (fun i _ e => e.elim .inl (fun e => .inr ((T.perm_insR l r (at_ - l.cnt - 1) kx g a c x y).mem_iff.mp e)))⟩
end Go.Proofs.YtfaihilehdjfjaaDoor
