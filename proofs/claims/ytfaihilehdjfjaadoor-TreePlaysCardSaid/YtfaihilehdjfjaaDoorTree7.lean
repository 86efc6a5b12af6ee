/- Contracts: package tree: the first thing taken out. -/
import Derived.Test.YtfaihilehdjfjaaDoorTree6
namespace Go.Proofs.YtfaihilehdjfjaaDoor
open Go.ChangeShapes Go.WideShapes Go.ChangeAt Go.RowKit

theorem T.small_first {t : T} (h : t.small) (hn : 0 < t.cnt) : (T.firstT t).1.small ∧ 0 ≤ (T.firstT t).2.2.2 ∧ (T.firstT t).2.2.2 ≤ 1000000 := by
  have h1 := (T.first_spec t hn).1
  have h2 := T.small_iff.mp h
  rw [h1] at h2
  exact ⟨T.small_iff.mpr fun e he => h2 e (List.mem_cons_of_mem _ he), h2 _ List.mem_cons_self⟩
theorem T.cnt_first {t : T} (hn : 0 < t.cnt) : (T.firstT t).1.cnt + 1 = t.cnt := by
  have h1 := (T.first_spec t hn).1
  rw [← T.cnt_toL, ← T.cnt_toL, h1]; rfl

set_option maxHeartbeats 2000000 in
set_option maxRecDepth 20000 in
theorem first_any : ∀ (t : T) (b : Nat) (root : Value) (work : Nat) (w : World), RowAt w b root work → work + 3 * t.ht ≤ 999999990 → TreeAt w t → t.ads.Nodup → t.small → 0 < t.cnt → t.cnt ≤ 199000 →
    Calls Tryd.prog 112 #[.pointer (some ⟨b, 0, none⟩), t.ptr] w fun e w' =>
      e = .returned (.tuple #[T.ptr (T.firstT t).1, .pointer (some ⟨(T.firstT t).2.1, 0, none⟩)]) ∧ TreeAt w' (T.firstT t).1 ∧ (∃ l' r' h' m' s', RawN w' ((T.firstT t).2.1) l' r' ((T.firstT t).2.2.1) ((T.firstT t).2.2.2) h' m' s') ∧ Lk w' b root work (3 * T.ht t) ∧ Chg (fun i => i = b ∨ i ∈ T.ads t) w w'
  | .nil, b, root, work, w, hR, hwk, hT, hnd, hs, hp, hn => by simp [T.cnt] at hp
  | .node .nil g x y r, b, root, work, w, hR, hwk, hT, hnd, hs, hp, hn => by
    have hbg : b ≠ g := Blk.ne_ hR hT.1 (by decide)
    have hbr : b ∉ r.ads := TreeAt.no_row hR hT.2.2
    have H : Hid (RowAt w b root work ∧ RawN w g .nil r x y _ _ _ ∧ TreeAt w r) := ⟨hR, hT.1, hT.2.2⟩
    have hk : work ≤ 1000000000 := by omega
    have hh : 1 ≤ T.ht (.node .nil g x y r) := by simp only [T.ht]; omega
    have c0 : w.cell? ⟨g, 0, none⟩ = some (.pointer none) := H.out.2.1.cell 0
    clear hR hT hwk
    change Calls _ _ #[_, .pointer (some ⟨g, 0, none⟩)] _ _
    go_enter Tryd.func112, Tryd.ntmps112
    go_wp2_with fail
    go_at_call 71
    refine (look_any b root work w H.out.1 hk).mono ?_
    rintro e w1 ⟨rfl, hR1, hC1⟩
    have H1 : Hid (RowAt w1 b root (work + 1) ∧ RawN w1 g .nil r x y _ _ _ ∧ TreeAt w1 r ∧ Chg (fun j => j = b) w w1) := ⟨hR1, H.out.2.1.keep hC1 (fun e => hbg e.symm), H.out.2.2.chg hC1 (fun i hi e => hbr (e ▸ hi)), hC1⟩
    have c1 : w1.cell? ⟨g, 1, none⟩ = some r.ptr := H1.out.2.1.cell 1
    clear hR1 hC1
    go_wp2_with fail
    go_ret2
    exact ⟨rfl, H1.out.2.2.1, ⟨_, _, _, _, _, H1.out.2.1⟩, ⟨_, H1.out.1, by omega, by omega⟩, H1.out.2.2.2.mono (fun i _ e => .inl e)⟩
  | .node (.node a k p q c) g x y r, b, root, work, w, hR, hwk, hT, hnd, hs, hp, hn => by
    have IH := first_any (.node a k p q c) b root work w hR (by simp only [T.ht] at hwk ⊢; omega) hT.2.1 (T.nodup_node.mp hnd).2.2.1 hs.1 (by simp only [T.cnt]; omega) (by simp only [T.cnt] at hn ⊢; omega)
    have hl0 : 0 < T.cnt (.node a k p q c) := by simp only [T.cnt]; omega
    have he : T.firstT (.node (.node a k p q c) g x y r) = (T.evenT (T.firstT (.node a k p q c)).1 g x y r, (T.firstT (.node a k p q c)).2) := rfl
    rw [he]
    change Calls _ _ #[_, .pointer (some ⟨g, 0, none⟩)] _ _
    have c9 : w.cell? ⟨g, 0, none⟩ = some (.pointer (some ⟨k, 0, none⟩)) := hT.1.cell 0
    have hlp : T.ptr (.node a k p q c) = .pointer (some ⟨k, 0, none⟩) := rfl
    rw [hlp] at IH
    generalize hl : T.node a k p q c = l at *
    dsimp only
    have hbg : b ≠ g := Blk.ne_ hR hT.1 (by decide)
    have hbl : b ∉ T.ads l := TreeAt.no_row hR hT.2.1
    have hbr : b ∉ T.ads r := TreeAt.no_row hR hT.2.2
    have H : Hid (RowAt w b root work ∧ RawN w g l r x y _ _ _ ∧ TreeAt w l ∧ TreeAt w r) := ⟨hR, hT.1, hT.2.1, hT.2.2⟩
    have hcl : T.cnt l + T.cnt r + 1 ≤ 199000 := by simp only [T.cnt] at hn ⊢; omega
    have hhl : work + 3 * T.ht l + 3 ≤ 999999990 := by simp only [T.ht] at hwk ⊢; omega
    have hhr : work + 3 * T.ht r + 3 ≤ 999999990 := by simp only [T.ht] at hwk ⊢; omega
    obtain ⟨n1, n2, n3, n4, n5⟩ := T.nodup_node.mp hnd
    have c0 : w.cell? ⟨g, 0, none⟩ = some (T.ptr l) := H.out.2.1.cell 0
    have c1 : w.cell? ⟨g, 1, none⟩ = some (T.ptr r) := H.out.2.1.cell 1
    clear hR hT
    rw [hlp] at c0
    go_enter Tryd.func112, Tryd.ntmps112
    · go_wp2_with fail
      clear c9
      go_at_call 112
      refine (IH).mono ?_
      rintro e w2 ⟨rfl, hT2, ⟨l2, r2, h2, m2, s2, hG2⟩, ⟨k2, hR2, hk2, hk2'⟩, hC2⟩
      have hsp : (T.ads l).Perm ((T.firstT l).2.1 :: T.ads (T.firstT l).1) := (T.first_spec l hl0).2
      have hme : (T.firstT l).2.1 ∈ T.ads l := hsp.mem_iff.mpr List.mem_cons_self
      have hno : ∀ i ∈ T.ads r, ¬ (i = b ∨ i ∈ T.ads l) := by
        intro i hi e
        rcases e with e | e
        · exact hbr (e ▸ hi)
        · exact n5 i e hi
      have hgo : ¬ (g = b ∨ g ∈ T.ads l) := fun e => e.elim (fun e => hbg e.symm) n1
      have H2 : Hid (RowAt w2 b root k2 ∧ RawN w2 g l r x y _ _ _ ∧ TreeAt w2 (T.firstT l).1 ∧ TreeAt w2 r ∧ RawN w2 ((T.firstT l).2.1) l2 r2 _ _ h2 m2 s2 ∧ Chg (fun i => i = b ∨ i ∈ (T.node l g x y r).ads) w w2) :=
        ⟨hR2, H.out.2.1.keep hC2 hgo, hT2, (H.out.2.2.2.chg hC2 hno), hG2, hC2.mono (fun i _ e => e.elim .inl (fun e => .inr (by simp [T.ads, e])))⟩
      clear hT2 hR2 hC2 hG2 c0 c1
      have c0 : w2.cell? ⟨g, 0, none⟩ = some (T.ptr l) := H2.out.2.1.cell 0
      have f0 : w2.frozen? ⟨g, 0, none⟩ = false := H2.out.2.1.frozen 0
      obtain ⟨u, hu⟩ := T.ptr_pointer l
      rw [hu] at c0
      obtain ⟨v, hv⟩ := T.ptr_pointer (T.firstT l).1
      rw [hv]
      go_wp2_with fail
      rw [← hv]
      have hpp : ((T.node l g x y r).ads).Perm ((T.firstT l).2.1 :: (T.node (T.firstT l).1 g x y r).ads) := by simp only [T.ads]; exact (((T.first_spec l hl0).2.append_right (T.ads r)).cons g).trans (List.Perm.swap _ _ _)
      have hnd2 : (T.node (T.firstT l).1 g x y r).ads.Nodup := (List.nodup_cons.mp (hpp.nodup_iff.mp hnd)).2
      have hgn : (T.firstT l).2.1 ∉ (T.node (T.firstT l).1 g x y r).ads := (List.nodup_cons.mp (hpp.nodup_iff.mp hnd)).1
      have hgg : (T.firstT l).2.1 ≠ g := fun e => hgn (by simp [T.ads, e])
      have hgb : (T.firstT l).2.1 ≠ b := fun e => hbl (e ▸ hme)
      have hC3 : Chg (fun i => i = g) w2 (w2.setCell ⟨g, 0, none⟩ (T.ptr (T.firstT l).1)) := Chg.put g 0 _
      have H3 : Hid (RowAt (w2.setCell ⟨g, 0, none⟩ (T.ptr (T.firstT l).1)) b root k2 ∧ RawN (w2.setCell ⟨g, 0, none⟩ (T.ptr (T.firstT l).1)) g (T.firstT l).1 r x y _ _ _ ∧ TreeAt (w2.setCell ⟨g, 0, none⟩ (T.ptr (T.firstT l).1)) (T.firstT l).1 ∧ TreeAt (w2.setCell ⟨g, 0, none⟩ (T.ptr (T.firstT l).1)) r ∧ RawN (w2.setCell ⟨g, 0, none⟩ (T.ptr (T.firstT l).1)) ((T.firstT l).2.1) l2 r2 _ _ h2 m2 s2 ∧ Chg (fun i => i = b ∨ i ∈ (T.node l g x y r).ads) w (w2.setCell ⟨g, 0, none⟩ (T.ptr (T.firstT l).1))) :=
        ⟨H2.out.1.chg hC3 hbg, H2.out.2.1.put0 (T.firstT l).1, H2.out.2.2.1.put (T.nodup_node.mp hnd2).1 _ _, H2.out.2.2.2.1.put (T.nodup_node.mp hnd2).2.1 _ _, H2.out.2.2.2.2.1.keep hC3 hgg, H2.out.2.2.2.2.2.trans hC3 (fun i _ e => .inr (by simp [T.ads, e]))⟩
      generalize w2.setCell ⟨g, 0, none⟩ (T.ptr (T.firstT l).1) = w3 at H3 ⊢
      clear hC3 c0 f0 H2
      go_at_call 110
      have hci : T.cnt (T.firstT l).1 + 1 = T.cnt l := T.cnt_first hl0
      refine (even_any (T.firstT l).1 r g x y _ _ _ b root k2 w3 H3.out.1 (by omega) H3.out.2.1 H3.out.2.2.1 H3.out.2.2.2.1 hnd2 (T.small_first hs.1 hl0).1 hs.2.1 hs.2.2 (by omega)).mono ?_
      rintro e w4 ⟨rfl, hT4, hL4, hC4⟩
      go_wp2_with fail
      go_ret2
      exact ⟨rfl, hT4, ⟨_, _, _, _, _, H3.out.2.2.2.2.1.keep hC4 (fun e => e.elim hgb hgn)⟩, (Lk.then hk2 hk2' hL4).mono (by simp only [T.ht]; omega), H3.out.2.2.2.2.2.trans hC4 (fun i _ e => e.elim .inl (fun e => .inr (hpp.mem_iff.mpr (List.mem_cons_of_mem _ e))))⟩
end Go.Proofs.YtfaihilehdjfjaaDoor
