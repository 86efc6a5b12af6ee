/- Contracts: package tree: one thing taken out. -/
import Derived.Test.YtfaihilehdjfjaaDoorTree7
namespace Go.Proofs.YtfaihilehdjfjaaDoor
open Go.ChangeShapes Go.WideShapes Go.ChangeAt Go.RowKit

theorem T.small_rem {t : T} {at_ : Nat} (h : t.small) (hn : at_ < t.cnt) : (T.remT t at_).1.small := by
  obtain ⟨A, B, h1, -, h3⟩ := (T.rem_spec t at_ hn).1
  have h2 := T.small_iff.mp h
  rw [h1] at h2
  rw [T.small_iff, h3]
  intro e he
  refine h2 e ?_
  rcases List.mem_append.mp he with he | he
  · exact List.mem_append_left _ he
  · exact List.mem_append_right _ (List.mem_cons_of_mem _ he)

set_option maxHeartbeats 2000000 in
set_option maxRecDepth 20000 in
theorem remove_any : ∀ (t : T) (at_ : Nat) (b : Nat) (root : Value) (work : Nat) (w : World), RowAt w b root work → work + 3 * t.ht ≤ 999999990 → TreeAt w t → t.ads.Nodup → t.small → at_ < t.cnt → t.cnt ≤ 199000 →
    Calls Tryd.prog 66 #[.pointer (some ⟨b, 0, none⟩), t.ptr, .int .i64 at_] w fun e w' =>
      e = .returned (.tuple #[T.ptr (T.remT t at_).1, .pointer (some ⟨(T.remT t at_).2.1, 0, none⟩)]) ∧ TreeAt w' (T.remT t at_).1 ∧ (∃ l' r' h' m' s', RawN w' ((T.remT t at_).2.1) l' r' ((T.remT t at_).2.2.1) ((T.remT t at_).2.2.2) h' m' s') ∧ Lk w' b root work (3 * T.ht t) ∧ Chg (fun i => i = b ∨ i ∈ T.ads t) w w'
  | .nil, at_, b, root, work, w, hR, hwk, hT, hnd, hs, hp, hn => by simp [T.cnt] at hp
  | .node l g x y r, at_, b, root, work, w, hR, hwk, hT, hnd, hs, hp, hn => by
    have hbg : b ≠ g := Blk.ne_ hR hT.1 (by decide)
    have hbl : b ∉ T.ads l := TreeAt.no_row hR hT.2.1
    have hbr : b ∉ T.ads r := TreeAt.no_row hR hT.2.2
    have H : Hid (RowAt w b root work ∧ RawN w g l r x y _ _ _ ∧ TreeAt w l ∧ TreeAt w r) := ⟨hR, hT.1, hT.2.1, hT.2.2⟩
    have hcl : T.cnt l + T.cnt r + 1 ≤ 199000 := by simp only [T.cnt] at hn ⊢; omega
    have hhl : work + 3 * T.ht l + 3 ≤ 999999990 := by simp only [T.ht] at hwk ⊢; omega
    have hhr : work + 3 * T.ht r + 3 ≤ 999999990 := by simp only [T.ht] at hwk ⊢; omega
    obtain ⟨n1, n2, n3, n4, n5⟩ := T.nodup_node.mp hnd
    have c0 : w.cell? ⟨g, 0, none⟩ = some (T.ptr l) := H.out.2.1.cell 0
    have c1 : w.cell? ⟨g, 1, none⟩ = some (T.ptr r) := H.out.2.1.cell 1
    have hp' : at_ < 1 + l.cnt + r.cnt := by simpa only [T.cnt] using hp
    have IH1 := remove_any l at_ b root work w H.out.1 (by omega) H.out.2.2.1 n3 hs.1
    have IH2 := remove_any r (at_ - l.cnt - 1) b root work w H.out.1 (by omega) H.out.2.2.2 n4 hs.2.1
    clear hR hT hn hwk hp
    by_cases hlt : at_ < l.cnt
    · have he : T.remT (.node l g x y r) at_ = (T.evenT (T.remT l at_).1 g x y r, (T.remT l at_).2) := by
        cases r <;> simp only [T.remT, hlt, ↓reduceIte]
      rw [he]
      clear IH2 he
      change Calls _ _ #[_, .pointer (some ⟨g, 0, none⟩), _] _ _
      dsimp only
      go_enter Tryd.func66, Tryd.ntmps66
      go_wp2_with fail
      go_at_call 73
      refine (count_any l _ H.out.2.2.1).mono ?_
      rintro e w1 ⟨rfl, e1⟩
      rw [e1]
      clear e1 w1
      go_wp2_with fail
      go_at_call 66
      refine (IH1 (by omega) (by omega)).mono ?_
      rintro e w2 ⟨rfl, hT2, ⟨l2, r2, h2, m2, s2, hG2⟩, ⟨k2, hR2, hk2, hk2'⟩, hC2⟩
      have hsp : (T.ads l).Perm ((T.remT l at_).2.1 :: T.ads (T.remT l at_).1) := (T.rem_spec l at_ hlt).2
      have hme : (T.remT l at_).2.1 ∈ T.ads l := hsp.mem_iff.mpr List.mem_cons_self
      have hno : ∀ i ∈ T.ads r, ¬ (i = b ∨ i ∈ T.ads l) := by
        intro i hi e
        rcases e with e | e
        · exact hbr (e ▸ hi)
        · exact n5 i e hi
      have hgo : ¬ (g = b ∨ g ∈ T.ads l) := fun e => e.elim (fun e => hbg e.symm) n1
      have H2 : Hid (RowAt w2 b root k2 ∧ RawN w2 g l r x y _ _ _ ∧ TreeAt w2 (T.remT l at_).1 ∧ TreeAt w2 r ∧ RawN w2 ((T.remT l at_).2.1) l2 r2 _ _ h2 m2 s2 ∧ Chg (fun i => i = b ∨ i ∈ (T.node l g x y r).ads) w w2) :=
        ⟨hR2, H.out.2.1.keep hC2 hgo, hT2, (H.out.2.2.2.chg hC2 hno), hG2, hC2.mono (fun i _ e => e.elim .inl (fun e => .inr (by simp [T.ads, e])))⟩
      clear hT2 hR2 hC2 hG2 c0 c1
      have c0 : w2.cell? ⟨g, 0, none⟩ = some (T.ptr l) := H2.out.2.1.cell 0
      have f0 : w2.frozen? ⟨g, 0, none⟩ = false := H2.out.2.1.frozen 0
      obtain ⟨u, hu⟩ := T.ptr_pointer l
      rw [hu] at c0
      obtain ⟨v, hv⟩ := T.ptr_pointer (T.remT l at_).1
      rw [hv]
      go_wp2_with fail
      rw [← hv]
      have hpp : ((T.node l g x y r).ads).Perm ((T.remT l at_).2.1 :: (T.node (T.remT l at_).1 g x y r).ads) := by simp only [T.ads]; exact (((T.rem_spec l at_ hlt).2.append_right (T.ads r)).cons g).trans (List.Perm.swap _ _ _)
      have hnd2 : (T.node (T.remT l at_).1 g x y r).ads.Nodup := (List.nodup_cons.mp (hpp.nodup_iff.mp hnd)).2
      have hgn : (T.remT l at_).2.1 ∉ (T.node (T.remT l at_).1 g x y r).ads := (List.nodup_cons.mp (hpp.nodup_iff.mp hnd)).1
      have hgg : (T.remT l at_).2.1 ≠ g := fun e => hgn (by simp [T.ads, e])
      have hgb : (T.remT l at_).2.1 ≠ b := fun e => hbl (e ▸ hme)
      have hC3 : Chg (fun i => i = g) w2 (w2.setCell ⟨g, 0, none⟩ (T.ptr (T.remT l at_).1)) := Chg.put g 0 _
      have H3 : Hid (RowAt (w2.setCell ⟨g, 0, none⟩ (T.ptr (T.remT l at_).1)) b root k2 ∧ RawN (w2.setCell ⟨g, 0, none⟩ (T.ptr (T.remT l at_).1)) g (T.remT l at_).1 r x y _ _ _ ∧ TreeAt (w2.setCell ⟨g, 0, none⟩ (T.ptr (T.remT l at_).1)) (T.remT l at_).1 ∧ TreeAt (w2.setCell ⟨g, 0, none⟩ (T.ptr (T.remT l at_).1)) r ∧ RawN (w2.setCell ⟨g, 0, none⟩ (T.ptr (T.remT l at_).1)) ((T.remT l at_).2.1) l2 r2 _ _ h2 m2 s2 ∧ Chg (fun i => i = b ∨ i ∈ (T.node l g x y r).ads) w (w2.setCell ⟨g, 0, none⟩ (T.ptr (T.remT l at_).1))) :=
        ⟨H2.out.1.chg hC3 hbg, H2.out.2.1.put0 (T.remT l at_).1, H2.out.2.2.1.put (T.nodup_node.mp hnd2).1 _ _, H2.out.2.2.2.1.put (T.nodup_node.mp hnd2).2.1 _ _, H2.out.2.2.2.2.1.keep hC3 hgg, H2.out.2.2.2.2.2.trans hC3 (fun i _ e => .inr (by simp [T.ads, e]))⟩
      generalize w2.setCell ⟨g, 0, none⟩ (T.ptr (T.remT l at_).1) = w3 at H3 ⊢
      clear hC3 c0 f0 H2
      go_at_call 110
      have hci : T.cnt (T.remT l at_).1 + 1 = T.cnt l := T.rem_cnt hlt
      refine (even_any (T.remT l at_).1 r g x y _ _ _ b root k2 w3 H3.out.1 (by omega) H3.out.2.1 H3.out.2.2.1 H3.out.2.2.2.1 hnd2 (T.small_rem hs.1 hlt) hs.2.1 hs.2.2 (by omega)).mono ?_
      rintro e w4 ⟨rfl, hT4, hL4, hC4⟩
      go_wp2_with fail
      go_ret2
      exact ⟨rfl, hT4, ⟨_, _, _, _, _, H3.out.2.2.2.2.1.keep hC4 (fun e => e.elim hgb hgn)⟩, (Lk.then hk2 hk2' hL4).mono (by simp only [T.ht]; omega), H3.out.2.2.2.2.2.trans hC4 (fun i _ e => e.elim .inl (fun e => .inr (hpp.mem_iff.mpr (List.mem_cons_of_mem _ e))))⟩
    · by_cases hgt : l.cnt < at_
      · have hrt : at_ - l.cnt - 1 < r.cnt := by omega
        have he : T.remT (.node l g x y r) at_ = (T.evenT l g x y (T.remT r (at_ - l.cnt - 1)).1, (T.remT r (at_ - l.cnt - 1)).2) := by
          cases r <;> simp only [T.remT, hlt, hgt, ↓reduceIte]
        rw [he]
        clear IH1 he
        have he2 : ((at_ - l.cnt - 1 : Nat) : Int) = (at_ : Int) - l.cnt - 1 := by omega
        rw [he2] at IH2
        change Calls _ _ #[_, .pointer (some ⟨g, 0, none⟩), _] _ _
        dsimp only
        go_enter Tryd.func66, Tryd.ntmps66
        go_wp2_with fail
        go_at_call 73
        refine (count_any l _ H.out.2.2.1).mono ?_
        rintro e w1 ⟨rfl, e1⟩
        rw [e1]
        clear e1 w1
        go_wp2_with fail
        go_at_call 66
        refine (IH2 (by omega) (by omega)).mono ?_
        rintro e w2 ⟨rfl, hT2, ⟨l2, r2, h2, m2, s2, hG2⟩, ⟨k2, hR2, hk2, hk2'⟩, hC2⟩
        have hsp : (T.ads r).Perm ((T.remT r (at_ - l.cnt - 1)).2.1 :: T.ads (T.remT r (at_ - l.cnt - 1)).1) := (T.rem_spec r _ hrt).2
        have hme : (T.remT r (at_ - l.cnt - 1)).2.1 ∈ T.ads r := hsp.mem_iff.mpr List.mem_cons_self
        have hno : ∀ i ∈ T.ads l, ¬ (i = b ∨ i ∈ T.ads r) := by
          intro i hi e
          rcases e with e | e
          · exact hbl (e ▸ hi)
          · exact n5 i hi e
        have hgo : ¬ (g = b ∨ g ∈ T.ads r) := fun e => e.elim (fun e => hbg e.symm) n2
        have H2 : Hid (RowAt w2 b root k2 ∧ RawN w2 g l r x y _ _ _ ∧ TreeAt w2 l ∧ TreeAt w2 (T.remT r (at_ - l.cnt - 1)).1 ∧ RawN w2 ((T.remT r (at_ - l.cnt - 1)).2.1) l2 r2 _ _ h2 m2 s2 ∧ Chg (fun i => i = b ∨ i ∈ (T.node l g x y r).ads) w w2) :=
          ⟨hR2, H.out.2.1.keep hC2 hgo, (H.out.2.2.1.chg hC2 hno), hT2, hG2, hC2.mono (fun i _ e => e.elim .inl (fun e => .inr (by simp [T.ads, e])))⟩
        clear hT2 hR2 hC2 hG2 c0 c1
        have c0 : w2.cell? ⟨g, 1, none⟩ = some (T.ptr r) := H2.out.2.1.cell 1
        have f0 : w2.frozen? ⟨g, 1, none⟩ = false := H2.out.2.1.frozen 1
        obtain ⟨u, hu⟩ := T.ptr_pointer r
        rw [hu] at c0
        obtain ⟨v, hv⟩ := T.ptr_pointer (T.remT r (at_ - l.cnt - 1)).1
        rw [hv]
        go_wp2_with fail
        rw [← hv]
        have hpp : ((T.node l g x y r).ads).Perm ((T.remT r (at_ - l.cnt - 1)).2.1 :: (T.node l g x y (T.remT r (at_ - l.cnt - 1)).1).ads) := by simp only [T.ads]; exact ((((T.rem_spec r _ hrt).2.append_left (T.ads l)).trans List.perm_middle).cons g).trans (List.Perm.swap _ _ _)
        have hnd2 : (T.node l g x y (T.remT r (at_ - l.cnt - 1)).1).ads.Nodup := (List.nodup_cons.mp (hpp.nodup_iff.mp hnd)).2
        have hgn : (T.remT r (at_ - l.cnt - 1)).2.1 ∉ (T.node l g x y (T.remT r (at_ - l.cnt - 1)).1).ads := (List.nodup_cons.mp (hpp.nodup_iff.mp hnd)).1
        have hgg : (T.remT r (at_ - l.cnt - 1)).2.1 ≠ g := fun e => hgn (by simp [T.ads, e])
        have hgb : (T.remT r (at_ - l.cnt - 1)).2.1 ≠ b := fun e => hbr (e ▸ hme)
        have hC3 : Chg (fun i => i = g) w2 (w2.setCell ⟨g, 1, none⟩ (T.ptr (T.remT r (at_ - l.cnt - 1)).1)) := Chg.put g 1 _
        have H3 : Hid (RowAt (w2.setCell ⟨g, 1, none⟩ (T.ptr (T.remT r (at_ - l.cnt - 1)).1)) b root k2 ∧ RawN (w2.setCell ⟨g, 1, none⟩ (T.ptr (T.remT r (at_ - l.cnt - 1)).1)) g l (T.remT r (at_ - l.cnt - 1)).1 x y _ _ _ ∧ TreeAt (w2.setCell ⟨g, 1, none⟩ (T.ptr (T.remT r (at_ - l.cnt - 1)).1)) l ∧ TreeAt (w2.setCell ⟨g, 1, none⟩ (T.ptr (T.remT r (at_ - l.cnt - 1)).1)) (T.remT r (at_ - l.cnt - 1)).1 ∧ RawN (w2.setCell ⟨g, 1, none⟩ (T.ptr (T.remT r (at_ - l.cnt - 1)).1)) ((T.remT r (at_ - l.cnt - 1)).2.1) l2 r2 _ _ h2 m2 s2 ∧ Chg (fun i => i = b ∨ i ∈ (T.node l g x y r).ads) w (w2.setCell ⟨g, 1, none⟩ (T.ptr (T.remT r (at_ - l.cnt - 1)).1))) :=
          ⟨H2.out.1.chg hC3 hbg, H2.out.2.1.put1 (T.remT r (at_ - l.cnt - 1)).1, H2.out.2.2.1.put (T.nodup_node.mp hnd2).1 _ _, H2.out.2.2.2.1.put (T.nodup_node.mp hnd2).2.1 _ _, H2.out.2.2.2.2.1.keep hC3 hgg, H2.out.2.2.2.2.2.trans hC3 (fun i _ e => .inr (by simp [T.ads, e]))⟩
        generalize w2.setCell ⟨g, 1, none⟩ (T.ptr (T.remT r (at_ - l.cnt - 1)).1) = w3 at H3 ⊢
        clear hC3 c0 f0 H2
        go_at_call 110
        have hci : T.cnt (T.remT r (at_ - l.cnt - 1)).1 + 1 = T.cnt r := T.rem_cnt hrt
        refine (even_any l (T.remT r (at_ - l.cnt - 1)).1 g x y _ _ _ b root k2 w3 H3.out.1 (by omega) H3.out.2.1 H3.out.2.2.1 H3.out.2.2.2.1 hnd2 hs.1 (T.small_rem hs.2.1 hrt) hs.2.2 (by omega)).mono ?_
        rintro e w4 ⟨rfl, hT4, hL4, hC4⟩
        go_wp2_with fail
        go_ret2
        exact ⟨rfl, hT4, ⟨_, _, _, _, _, H3.out.2.2.2.2.1.keep hC4 (fun e => e.elim hgb hgn)⟩, (Lk.then hk2 hk2' hL4).mono (by simp only [T.ht]; omega), H3.out.2.2.2.2.2.trans hC4 (fun i _ e => e.elim .inl (fun e => .inr (hpp.mem_iff.mpr (List.mem_cons_of_mem _ e))))⟩
      · have hat : (at_ : Int) = l.cnt := by omega
        clear IH1 IH2
        have hh : 1 ≤ T.ht (.node l g x y r) := by simp only [T.ht]; omega
        have hwk' : work ≤ 1000000000 := by omega
        cases r with
        | nil =>
          have he : T.remT (.node l g x y .nil) at_ = (l, g, x, y) := by
            rw [T.remT, if_neg hlt, if_neg hgt]
          rw [he]
          change Calls _ _ #[_, .pointer (some ⟨g, 0, none⟩), _] _ _
          dsimp only
          have c1' : w.cell? ⟨g, 1, none⟩ = some (.pointer none) := c1
          clear he c1 hlt hgt
          go_enter Tryd.func66, Tryd.ntmps66
          go_wp2_with fail
          go_at_call 73
          refine (count_any l _ H.out.2.2.1).mono ?_
          rintro e w1 ⟨rfl, e1⟩
          rw [e1]
          clear e1 w1
          go_wp2_with fail
          go_at_call 71
          refine (look_any b root work w H.out.1 hwk').mono ?_
          rintro e w1 ⟨rfl, hR1, hC1⟩
          have H1 : Hid (RowAt w1 b root (work + 1) ∧ RawN w1 g l .nil x y _ _ _ ∧ TreeAt w1 l ∧ Chg (fun j => j = b) w w1) := ⟨hR1, H.out.2.1.keep hC1 (fun e => hbg e.symm), H.out.2.2.1.chg hC1 (fun i hi e => hbl (e ▸ hi)), hC1⟩
          clear hR1 hC1 c0 c1'
          have c0 : w1.cell? ⟨g, 0, none⟩ = some l.ptr := H1.out.2.1.cell 0
          go_wp2_with fail
          go_ret2
          exact ⟨rfl, H1.out.2.2.1, ⟨_, _, _, _, _, H1.out.2.1⟩, ⟨_, H1.out.1, by omega, by omega⟩, H1.out.2.2.2.mono (fun i _ e => .inl e)⟩
        | node a k p q c =>
          have hr0 : 0 < T.cnt (.node a k p q c) := by simp only [T.cnt]; omega
          have he : T.remT (.node l g x y (.node a k p q c)) at_ = (T.evenT l (T.firstT (.node a k p q c)).2.1 (T.firstT (.node a k p q c)).2.2.1 (T.firstT (.node a k p q c)).2.2.2 (T.firstT (.node a k p q c)).1, g, x, y) := by
            rw [T.remT, if_neg hlt, if_neg hgt]
          rw [he]
          change Calls _ _ #[_, .pointer (some ⟨g, 0, none⟩), _] _ _
          dsimp only
          have c1' : w.cell? ⟨g, 1, none⟩ = some (.pointer (some ⟨k, 0, none⟩)) := c1
          have FI := first_any (.node a k p q c) b root work w H.out.1 (by omega) H.out.2.2.2 n4 hs.2.1 hr0 (by omega)
          have hrp : T.ptr (.node a k p q c) = .pointer (some ⟨k, 0, none⟩) := rfl
          rw [hrp] at FI
          clear he c1 hlt hgt
          generalize hr : T.node a k p q c = r at *
          have hsp := (T.first_spec r hr0).2
          have hf := T.small_first hs.2.1 hr0
          have hcf := T.cnt_first hr0
          generalize T.firstT r = F at *
          obtain ⟨F1, f, fx, fy⟩ := F
          dsimp only at *
          go_enter Tryd.func66, Tryd.ntmps66
          go_wp2_with fail
          go_at_call 73
          refine (count_any l _ H.out.2.2.1).mono ?_
          rintro e w1 ⟨rfl, e1⟩
          rw [e1]
          clear e1 w1
          go_wp2_with fail
          go_at_call 112
          refine FI.mono ?_
          rintro e w2 ⟨rfl, hT2, ⟨l2, r2, h2, m2, s2, hG2⟩, ⟨k2, hR2, hk2, hk2'⟩, hC2⟩
          have hme : f ∈ T.ads r := hsp.mem_iff.mpr List.mem_cons_self
          have hpp : ((T.node l g x y r).ads).Perm (g :: (T.node l f fx fy F1).ads) := by
            simp only [T.ads]
            exact ((hsp.append_left (T.ads l)).trans List.perm_middle).cons g
          have hnd2 : (T.node l f fx fy F1).ads.Nodup := (List.nodup_cons.mp (hpp.nodup_iff.mp hnd)).2
          have hgn : g ∉ (T.node l f fx fy F1).ads := (List.nodup_cons.mp (hpp.nodup_iff.mp hnd)).1
          have hgf : g ≠ f := fun e => hgn (by simp [T.ads, e])
          have hfb : f ≠ b := fun e => hbr (e ▸ hme)
          have H2 : Hid (RowAt w2 b root k2 ∧ RawN w2 g l r x y _ _ _ ∧ TreeAt w2 l ∧ TreeAt w2 F1 ∧ RawN w2 f l2 r2 fx fy h2 m2 s2 ∧ Chg (fun i => i = b ∨ i ∈ (T.node l g x y r).ads) w w2) :=
            ⟨hR2, H.out.2.1.keep hC2 (fun e => e.elim (fun e => hbg e.symm) n2), H.out.2.2.1.chg hC2 (fun i hi e => e.elim (fun e => hbl (e ▸ hi)) (n5 i hi)), hT2, hG2, hC2.mono (fun i _ e => e.elim .inl (fun e => .inr (by simp [T.ads, e])))⟩
          clear hT2 hR2 hC2 hG2 c0 c1' FI
          have c0 : w2.cell? ⟨g, 0, none⟩ = some (T.ptr l) := H2.out.2.1.cell 0
          have c1 : w2.cell? ⟨f, 0, none⟩ = some (T.ptr l2) := H2.out.2.2.2.2.1.cell 0
          have c2 : w2.cell? ⟨f, 1, none⟩ = some (T.ptr r2) := H2.out.2.2.2.2.1.cell 1
          have f0 : w2.frozen? ⟨f, 0, none⟩ = false := H2.out.2.2.2.2.1.frozen 0
          have f1 : w2.frozen? ⟨f, 1, none⟩ = false := H2.out.2.2.2.2.1.frozen 1
          obtain ⟨u, hu⟩ := T.ptr_pointer l
          rw [hu] at c0
          obtain ⟨u2, hu2⟩ := T.ptr_pointer l2
          rw [hu2] at c1
          obtain ⟨u3, hu3⟩ := T.ptr_pointer r2
          rw [hu3] at c2
          obtain ⟨v, hv⟩ := T.ptr_pointer F1
          rw [hv]
          go_wp2_with fail
          rw [← hv, ← hu]
          have hfl : f ∉ l.ads := (T.nodup_node.mp hnd2).1
          have hfF : f ∉ F1.ads := (T.nodup_node.mp hnd2).2.1
          have hC3 : Chg (fun i => i = f) w2 ((w2.setCell ⟨f, 0, none⟩ (T.ptr l)).setCell ⟨f, 1, none⟩ (T.ptr F1)) := (Chg.put f 0 _).put_ 1 _
          have H3 : Hid (RowAt ((w2.setCell ⟨f, 0, none⟩ (T.ptr l)).setCell ⟨f, 1, none⟩ (T.ptr F1)) b root k2 ∧ RawN ((w2.setCell ⟨f, 0, none⟩ (T.ptr l)).setCell ⟨f, 1, none⟩ (T.ptr F1)) g l r x y _ _ _ ∧ TreeAt ((w2.setCell ⟨f, 0, none⟩ (T.ptr l)).setCell ⟨f, 1, none⟩ (T.ptr F1)) l ∧ TreeAt ((w2.setCell ⟨f, 0, none⟩ (T.ptr l)).setCell ⟨f, 1, none⟩ (T.ptr F1)) F1 ∧ RawN ((w2.setCell ⟨f, 0, none⟩ (T.ptr l)).setCell ⟨f, 1, none⟩ (T.ptr F1)) f l F1 fx fy _ _ _ ∧ Chg (fun i => i = b ∨ i ∈ (T.node l g x y r).ads) w ((w2.setCell ⟨f, 0, none⟩ (T.ptr l)).setCell ⟨f, 1, none⟩ (T.ptr F1))) :=
            ⟨H2.out.1.chg hC3 (fun e => hfb e.symm), H2.out.2.1.keep hC3 hgf, (H2.out.2.2.1.put hfl _ _).put hfl _ _, (H2.out.2.2.2.1.put hfF _ _).put hfF _ _, (H2.out.2.2.2.2.1.put0 l).put1 F1, H2.out.2.2.2.2.2.trans hC3 (fun i _ e => .inr (by simp [T.ads, e, hme]))⟩
          generalize (w2.setCell ⟨f, 0, none⟩ (T.ptr l)).setCell ⟨f, 1, none⟩ (T.ptr F1) = w3 at H3 ⊢
          clear hC3 c0 c1 c2 f0 f1 H2
          go_at_call 110
          refine (even_any l F1 f fx fy _ _ _ b root k2 w3 H3.out.1 (by omega) H3.out.2.2.2.2.1 H3.out.2.2.1 H3.out.2.2.2.1 hnd2 hs.1 hf.1 hf.2 (by omega)).mono ?_
          rintro e w4 ⟨rfl, hT4, hL4, hC4⟩
          go_wp2_with fail
          go_ret2
          exact ⟨rfl, hT4, ⟨_, _, _, _, _, H3.out.2.1.keep hC4 (fun e => e.elim (fun e => hbg e.symm) hgn)⟩, (Lk.then hk2 hk2' hL4).mono (by simp only [T.ht]; omega), H3.out.2.2.2.2.2.trans hC4 (fun i _ e => e.elim .inl (fun e => .inr (hpp.mem_iff.mpr (List.mem_cons_of_mem _ e))))⟩
end Go.Proofs.YtfaihilehdjfjaaDoor
