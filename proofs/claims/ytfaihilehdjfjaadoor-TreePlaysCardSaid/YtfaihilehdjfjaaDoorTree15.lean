/- Contracts: package tree: a thing's width made another one. -/
import Derived.Test.YtfaihilehdjfjaaDoorPlayP
namespace Go.Proofs.YtfaihilehdjfjaaDoor
open Go.ChangeShapes Go.WideShapes Go.ChangeAt Go.RowKit

theorem nothing2_any (v : Value) (w : World) : Calls Tryd.prog 69 #[v] w fun e w' => e = .returned (.tuple #[]) ∧ w' = w := by
  go_enter Tryd.func69, Tryd.ntmps69
  go_wp2
  go_end0
  exact ⟨rfl, rfl⟩

set_option maxHeartbeats 2000000 in
set_option maxRecDepth 20000 in
theorem way2_any : ∀ (t : T) (at_ : Nat) (b : Nat) (root : Value) (work : Nat) (w : World), RowAt w b root work → work + t.ht ≤ 999999990 → TreeAt w t → at_ < t.cnt → t.cnt ≤ 199000 →
    Calls Tryd.prog 67 #[.pointer (some ⟨b, 0, none⟩), t.ptr, .int .i64 at_, .func (.func 69) #[] #[]] w fun e w' =>
      e = .returned (.pointer (some ⟨(t.getT at_).1, 0, none⟩)) ∧ TreeAt w' t ∧ Lk w' b root work t.ht ∧ Chg (fun i => i = b) w w'
  | .nil, at_, b, root, work, w, hR, hwk, hT, hp, hn => by simp [T.cnt] at hp
  | .node l g x y r, at_, b, root, work, w, hR, hwk, hT, hp, hn => by
    have hbg : b ≠ g := Blk.ne_ hR hT.1 (by decide)
    have hbl : b ∉ T.ads l := TreeAt.no_row hR hT.2.1
    have hbr : b ∉ T.ads r := TreeAt.no_row hR hT.2.2
    have H : Hid (RowAt w b root work ∧ TreeAt w (.node l g x y r)) := ⟨hR, hT⟩
    have hwk' : work + 1 + max l.ht r.ht ≤ 999999990 := by simp only [T.ht] at hwk; omega
    have hp' : at_ < 1 + l.cnt + r.cnt := by simpa only [T.cnt] using hp
    have hn' : 1 + l.cnt + r.cnt ≤ 199000 := by simpa only [T.cnt] using hn
    have IH1 := way2_any l at_ b root (work + 1)
    have IH2 := way2_any r (at_ - l.cnt - 1) b root (work + 1)
    clear hR hT hn hwk hp
    change Calls _ _ #[_, .pointer (some ⟨g, 0, none⟩), _, _] _ _
    go_enter Tryd.func67, Tryd.ntmps67
    go_wp2_with fail
    go_at_call 71
    refine (look_any b root work w H.out.1 (by omega)).mono ?_
    rintro e w1 ⟨rfl, hR1, hC1⟩
    have H1 : Hid (RowAt w1 b root (work + 1) ∧ RawN w1 g l r x y _ _ _ ∧ TreeAt w1 l ∧ TreeAt w1 r ∧ Chg (fun j => j = b) w w1) :=
      ⟨hR1, H.out.2.1.keep hC1 (fun e => hbg e.symm), H.out.2.2.1.chg hC1 (fun i hi e => hbl (e ▸ hi)), H.out.2.2.2.chg hC1 (fun i hi e => hbr (e ▸ hi)), hC1⟩
    clear hR1 hC1
    have c0 : w1.cell? ⟨g, 0, none⟩ = some l.ptr := H1.out.2.1.cell 0
    have c1 : w1.cell? ⟨g, 1, none⟩ = some r.ptr := H1.out.2.1.cell 1
    go_wp2_with fail
    go_at_call 73
    refine (count_any l _ H1.out.2.2.1).mono ?_
    rintro e w2 ⟨rfl, e1⟩
    rw [e1]
    clear e1 w2
    by_cases hlt : at_ < l.cnt
    · have he : T.getT (.node l g x y r) at_ = T.getT l at_ := by simp only [T.getT, hlt, ↓reduceIte]
      go_wp2_with fail
      go_at_call 67
      refine (IH1 w1 H1.out.1 (by omega) H1.out.2.2.1 hlt (by omega)).mono ?_
      rintro e w3 ⟨rfl, hT3, ⟨k3, hR3, hk3, hk3'⟩, hC3⟩
      go_wp2_with fail
      go_at_call 69
      refine (nothing2_any _ w3).mono ?_
      rintro e w4 ⟨rfl, e1⟩
      rw [e1]
      clear e1 w4
      go_wp2_with fail
      go_ret
      exact ⟨by rw [he]; rfl, ⟨H1.out.2.1.keep hC3 (fun e => hbg e.symm), hT3, H1.out.2.2.2.1.chg hC3 (fun i hi e => hbr (e ▸ hi))⟩, ⟨k3, hR3, by omega, by simp only [T.ht]; omega⟩, H1.out.2.2.2.2.trans hC3 (fun i _ e => e)⟩
    · by_cases hgt : l.cnt < at_
      · have he : T.getT (.node l g x y r) at_ = T.getT r (at_ - l.cnt - 1) := by simp only [T.getT, hlt, hgt, ↓reduceIte]
        have he2 : ((at_ - l.cnt - 1 : Nat) : Int) = (at_ : Int) - l.cnt - 1 := by omega
        rw [he2] at IH2
        go_wp2_with fail
        go_at_call 67
        refine (IH2 w1 H1.out.1 (by omega) H1.out.2.2.2.1 (by omega) (by omega)).mono ?_
        rintro e w3 ⟨rfl, hT3, ⟨k3, hR3, hk3, hk3'⟩, hC3⟩
        go_wp2_with fail
        go_at_call 69
        refine (nothing2_any _ w3).mono ?_
        rintro e w4 ⟨rfl, e1⟩
        rw [e1]
        clear e1 w4
        go_wp2_with fail
        go_ret
        exact ⟨by rw [he]; rfl, ⟨H1.out.2.1.keep hC3 (fun e => hbg e.symm), H1.out.2.2.1.chg hC3 (fun i hi e => hbl (e ▸ hi)), hT3⟩, ⟨k3, hR3, by omega, by simp only [T.ht]; omega⟩, H1.out.2.2.2.2.trans hC3 (fun i _ e => e)⟩
      · have he : T.getT (.node l g x y r) at_ = (g, x, y) := by simp only [T.getT, hlt, hgt, ↓reduceIte]
        go_wp2_with fail
        go_at_call 69
        refine (nothing2_any _ w1).mono ?_
        rintro e w4 ⟨rfl, e1⟩
        rw [e1]
        clear e1 w4
        go_wp2_with fail
        go_ret
        exact ⟨by rw [he]; rfl, ⟨H1.out.2.1, H1.out.2.2.1, H1.out.2.2.2.1⟩, ⟨_, H1.out.1, by omega, by simp only [T.ht]; omega⟩, H1.out.2.2.2.2⟩

/-- a tree that lies in a world, but the sums on the way to an index are not added up anew, and the width there is another one -/
def Stale (w : World) : T → Nat → Int → Prop
  | .nil, _, _ => False
  | .node l g x y r, i, v =>
    if i < l.cnt then (∃ s, RawN w g l r x y (T.ht (.node l g x y r)) (T.cnt (.node l g x y r)) s) ∧ Stale w l i v ∧ TreeAt w r
    else if l.cnt < i then (∃ s, RawN w g l r x y (T.ht (.node l g x y r)) (T.cnt (.node l g x y r)) s) ∧ TreeAt w l ∧ Stale w r (i - l.cnt - 1) v
    else (∃ s, RawN w g l r x v (T.ht (.node l g x y r)) (T.cnt (.node l g x y r)) s) ∧ TreeAt w l ∧ TreeAt w r
theorem Stale.chg {w w' : World} {M : Nat → Prop} (hc : Chg M w w') : ∀ {t : T} {i : Nat} {v : Int}, Stale w t i v → (∀ j ∈ t.ads, ¬ M j) → Stale w' t i v
  | .nil, _, _, h, _ => h
  | .node l g x y r, i, v, h, hM => by
    have hg : ¬ M g := hM g (by simp [T.ads])
    have hl : ∀ j ∈ l.ads, ¬ M j := fun j hj => hM j (by simp [T.ads, hj])
    have hr : ∀ j ∈ r.ads, ¬ M j := fun j hj => hM j (by simp [T.ads, hj])
    simp only [Stale] at h ⊢
    split at h
    · rename_i h1
      rw [if_pos h1]
      exact ⟨h.1.imp fun _ hh => hh.keep hc hg, Stale.chg hc h.2.1 hl, h.2.2.chg hc hr⟩
    · rename_i h1
      rw [if_neg h1]
      split at h
      · rename_i h2
        rw [if_pos h2]
        exact ⟨h.1.imp fun _ hh => hh.keep hc hg, h.2.1.chg hc hl, Stale.chg hc h.2.2 hr⟩
      · rename_i h2
        rw [if_neg h2]
        exact ⟨h.1.imp fun _ hh => hh.keep hc hg, h.2.1.chg hc hl, h.2.2.chg hc hr⟩
theorem RawN.put3 {w : World} {g : Nat} {l r : T} {x y h m a : Int} (hb : RawN w g l r x y h m a) (v : Int) : RawN (w.setCell ⟨g, 3, none⟩ (.int .i64 v)) g l r x v h m a := by
  have := Blk.set_ hb 3 (.int .i64 v); simpa [RawN, cellsN] using this
theorem TreeAt.stale {w : World} (v : Int) : ∀ {t : T} {i : Nat}, TreeAt w t → t.ads.Nodup → i < t.cnt → Stale (w.setCell ⟨(t.getT i).1, 3, none⟩ (.int .i64 v)) t i v
  | .nil, _, _, _, h => by simp [T.cnt] at h
  | .node l g x y r, i, hT, hnd, h => by
    obtain ⟨n1, n2, n3, n4, n5⟩ := T.nodup_node.mp hnd
    simp only [T.cnt] at h
    simp only [Stale, T.getT]
    by_cases h1 : i < l.cnt
    · have hm := T.getT_mem l i h1
      rw [if_pos h1, if_pos h1]
      exact ⟨⟨_, RawN.keep hT.1 (Chg.put _ 3 _) (fun e => n1 (e ▸ hm))⟩, TreeAt.stale v hT.2.1 n3 h1, hT.2.2.put (n5 _ hm) _ _⟩
    · by_cases h2 : l.cnt < i
      · have hm := T.getT_mem r (i - l.cnt - 1) (by omega)
        rw [if_neg h1, if_pos h2, if_neg h1, if_pos h2]
        exact ⟨⟨_, RawN.keep hT.1 (Chg.put _ 3 _) (fun e => n2 (e ▸ hm))⟩, hT.2.1.put (fun e => n5 _ e hm) _ _, TreeAt.stale v hT.2.2 n4 (by omega)⟩
      · rw [if_neg h1, if_neg h2, if_neg h1, if_neg h2]
        exact ⟨⟨_, RawN.put3 hT.1 v⟩, hT.2.1.put n1 _ _, hT.2.2.put n2 _ _⟩
theorem Stale.raw {w : World} : ∀ {t : T} {i : Nat} {v : Int}, Stale w t i v → ∃ l g x y r y' s, t = .node l g x y r ∧ RawN w g l r x y' (T.ht t) (T.cnt t) s
  | .nil, _, _, h => h.elim
  | .node l g x y r, i, v, h => by
    simp only [Stale] at h
    split at h
    · obtain ⟨⟨s, h1⟩, -⟩ := h; exact ⟨l, g, x, y, r, y, s, rfl, h1⟩
    · split at h
      · obtain ⟨⟨s, h1⟩, -⟩ := h; exact ⟨l, g, x, y, r, y, s, rfl, h1⟩
      · obtain ⟨⟨s, h1⟩, -⟩ := h; exact ⟨l, g, x, y, r, v, s, rfl, h1⟩
theorem count_stale (t : T) (i : Nat) (v : Int) (w : World) (h : Stale w t i v) : Calls Tryd.prog 73 #[t.ptr] w fun e w' => e = .returned (.int .i64 t.cnt) ∧ w' = w := by
  obtain ⟨l, g, x, y, r, y', s, rfl, hr⟩ := h.raw
  have hc : w.cell? ⟨g, 5, none⟩ = some (.int .i64 (T.cnt (.node l g x y r))) := hr.cell 5
  generalize T.cnt (.node l g x y r) = n at hc ⊢
  simp only [T.ptr]
  clear h hr
  go_enter Tryd.func73, Tryd.ntmps73
  go_wp2
  go_ret
  exact ⟨rfl, rfl⟩
theorem fixes_any (l r : T) (g : Nat) (x y h m a : Int) (w : World) (hb : RawN w g l r x y h m a) (hl : TreeAt w l) (hr : TreeAt w r) (gl : g ∉ l.ads) (gr : g ∉ r.ads)
    (sl : l.small) (sr : r.small) (hy : 0 ≤ y ∧ y ≤ 1000000) (hn : l.cnt + r.cnt ≤ 200000) :
    Calls Tryd.prog 70 #[.pointer (some ⟨g, 0, none⟩)] w fun e w' => e = .returned (.tuple #[]) ∧ TreeAt w' (.node l g x y r) ∧ Chg (fun j => j = g) w w' := by
  have FX := Lib.hid (fix_any l r g x y h m a w hb hl hr gl gr sl sr hy hn)
  clear hb hl hr gl gr sl sr hy hn
  go_enter Tryd.func70, Tryd.ntmps70
  go_wp2_with fail
  go_at_call 65
  refine FX.out.mono ?_
  rintro e w1 ⟨rfl, h1, h2⟩
  go_wp2_with fail
  go_end0
  exact ⟨rfl, h1, h2⟩

set_option maxHeartbeats 2000000 in
set_option maxRecDepth 20000 in
theorem way3_any (v : Int) (hv : 0 ≤ v ∧ v ≤ 1000000) : ∀ (t : T) (at_ : Nat) (b : Nat) (root : Value) (work : Nat) (w : World), RowAt w b root work → work + t.ht ≤ 999999990 → Stale w t at_ v → b ∉ t.ads → t.ads.Nodup → t.small → at_ < t.cnt → t.cnt ≤ 199000 →
    Calls Tryd.prog 67 #[.pointer (some ⟨b, 0, none⟩), t.ptr, .int .i64 at_, .func (.func 70) #[] #[]] w fun e w' =>
      (∃ u, e = .returned u) ∧ TreeAt w' (t.setT at_ v) ∧ Lk w' b root work t.ht ∧ Chg (fun i => i = b ∨ i ∈ t.ads) w w'
  | .nil, at_, b, root, work, w, hR, hwk, hT, hb, hnd, hs, hp, hn => by simp [T.cnt] at hp
  | .node l g x y r, at_, b, root, work, w, hR, hwk, hT, hb, hnd, hs, hp, hn => by
    have hb' : b ≠ g ∧ b ∉ l.ads ∧ b ∉ r.ads := by simpa [T.ads, not_or] using hb
    obtain ⟨n1, n2, n3, n4, n5⟩ := T.nodup_node.mp hnd
    have H : Hid (RowAt w b root work ∧ Stale w (.node l g x y r) at_ v) := ⟨hR, hT⟩
    have hwk' : work + 1 + max l.ht r.ht ≤ 999999990 := by simp only [T.ht] at hwk; omega
    have hp' : at_ < 1 + l.cnt + r.cnt := by simpa only [T.cnt] using hp
    have hn' : 1 + l.cnt + r.cnt ≤ 199000 := by simpa only [T.cnt] using hn
    have IH1 := way3_any v hv l at_ b root (work + 1)
    have IH2 := way3_any v hv r (at_ - l.cnt - 1) b root (work + 1)
    have hst : Stale w (.node l g x y r) at_ v = if at_ < l.cnt then (∃ s, RawN w g l r x y (T.ht (.node l g x y r)) (T.cnt (.node l g x y r)) s) ∧ Stale w l at_ v ∧ TreeAt w r
      else if l.cnt < at_ then (∃ s, RawN w g l r x y (T.ht (.node l g x y r)) (T.cnt (.node l g x y r)) s) ∧ TreeAt w l ∧ Stale w r (at_ - l.cnt - 1) v
      else (∃ s, RawN w g l r x v (T.ht (.node l g x y r)) (T.cnt (.node l g x y r)) s) ∧ TreeAt w l ∧ TreeAt w r := rfl
    have hse : (T.node l g x y r).setT at_ v = if at_ < l.cnt then .node (l.setT at_ v) g x y r else if l.cnt < at_ then .node l g x y (r.setT (at_ - l.cnt - 1) v) else .node l g x v r := rfl
    rw [hst] at hT
    clear hst hR hn hwk hp
    change Calls _ _ #[_, .pointer (some ⟨g, 0, none⟩), _, _] _ _
    by_cases hlt : at_ < l.cnt
    · rw [if_pos hlt] at hT hse
      obtain ⟨⟨s, hG⟩, hL, hRt⟩ := hT
      have K : Hid (RawN w g l r x y _ _ _ ∧ Stale w l at_ v ∧ TreeAt w r) := ⟨hG, hL, hRt⟩
      have HS := Lib.hid hse
      clear hG hL hRt hse IH2
      go_enter Tryd.func67, Tryd.ntmps67
      go_wp2_with fail
      go_at_call 71
      refine (look_any b root work w H.out.1 (by omega)).mono ?_
      rintro e w1 ⟨rfl, hR1, hC1⟩
      have H1 : Hid (RowAt w1 b root (work + 1) ∧ RawN w1 g l r x y _ _ _ ∧ Stale w1 l at_ v ∧ TreeAt w1 r ∧ Chg (fun j => j = b) w w1) :=
        ⟨hR1, K.out.1.keep hC1 (fun e => hb'.1 e.symm), K.out.2.1.chg hC1 (fun i hi e => hb'.2.1 (e ▸ hi)), K.out.2.2.chg hC1 (fun i hi e => hb'.2.2 (e ▸ hi)), hC1⟩
      clear hR1 hC1
      have c0 : w1.cell? ⟨g, 0, none⟩ = some l.ptr := H1.out.2.1.cell 0
      have c1 : w1.cell? ⟨g, 1, none⟩ = some r.ptr := H1.out.2.1.cell 1
      go_wp2_with fail
      go_at_call 73
      refine (count_stale l at_ v _ H1.out.2.2.1).mono ?_
      rintro e w2 ⟨rfl, e1⟩
      rw [e1]
      clear e1 w2
      go_wp2_with fail
      go_at_call 67
      refine (IH1 w1 H1.out.1 (by omega) H1.out.2.2.1 hb'.2.1 n3 hs.1 hlt (by omega)).mono ?_
      rintro e w3 ⟨⟨u, rfl⟩, hT3, ⟨k3, hR3, hk3, hk3'⟩, hC3⟩
      have H3 : Hid (RowAt w3 b root k3 ∧ RawN w3 g (l.setT at_ v) r x y _ _ _ ∧ TreeAt w3 (l.setT at_ v) ∧ TreeAt w3 r ∧ Chg (fun i => i = b ∨ i ∈ (T.node l g x y r).ads) w w3) :=
        ⟨hR3, by have := H1.out.2.1.keep hC3 (fun e => e.elim (fun e => hb'.1 e.symm) n1); simpa only [RawN, cellsN, T.ptr_set] using this, hT3, H1.out.2.2.2.1.chg hC3 (fun i hi e => e.elim (fun e => hb'.2.2 (e ▸ hi)) (fun e => n5 i e hi)),
          (H1.out.2.2.2.2.mono (fun _ _ e => .inl e)).trans hC3 (fun i _ e => e.elim .inl (fun e => .inr (by simp [T.ads, e])))⟩
      clear hT3 hR3 hC3 H1 c0 c1
      go_wp2_with fail
      go_at_call 70
      refine (fixes_any (l.setT at_ v) r g x y _ _ _ w3 H3.out.2.1 H3.out.2.2.1 H3.out.2.2.2.1 (by rw [T.ads_set]; exact n1) n2 (T.small_set _ _ hs.1 hv) hs.2.1 hs.2.2 (by rw [T.cnt_set]; omega)).mono ?_
      rintro e w4 ⟨rfl, hT4, hC4⟩
      go_wp2_with fail
      go_ret
      exact ⟨⟨_, rfl⟩, by rw [HS.out]; exact hT4, ⟨k3, H3.out.1.chg hC4 hb'.1, by omega, by simp only [T.ht]; omega⟩, H3.out.2.2.2.2.trans hC4 (fun i _ e => .inr (by simp [T.ads, e]))⟩
    · by_cases hgt : l.cnt < at_
      · rw [if_neg hlt, if_pos hgt] at hT hse
        obtain ⟨⟨s, hG⟩, hL, hRt⟩ := hT
        have K : Hid (RawN w g l r x y _ _ _ ∧ TreeAt w l ∧ Stale w r (at_ - l.cnt - 1) v) := ⟨hG, hL, hRt⟩
        have HS := Lib.hid hse
        have he2 : ((at_ - l.cnt - 1 : Nat) : Int) = (at_ : Int) - l.cnt - 1 := by omega
        rw [he2] at IH2
        clear hG hL hRt hse IH1 he2
        go_enter Tryd.func67, Tryd.ntmps67
        go_wp2_with fail
        go_at_call 71
        refine (look_any b root work w H.out.1 (by omega)).mono ?_
        rintro e w1 ⟨rfl, hR1, hC1⟩
        have H1 : Hid (RowAt w1 b root (work + 1) ∧ RawN w1 g l r x y _ _ _ ∧ TreeAt w1 l ∧ Stale w1 r (at_ - l.cnt - 1) v ∧ Chg (fun j => j = b) w w1) :=
          ⟨hR1, K.out.1.keep hC1 (fun e => hb'.1 e.symm), K.out.2.1.chg hC1 (fun i hi e => hb'.2.1 (e ▸ hi)), K.out.2.2.chg hC1 (fun i hi e => hb'.2.2 (e ▸ hi)), hC1⟩
        clear hR1 hC1
        have c0 : w1.cell? ⟨g, 0, none⟩ = some l.ptr := H1.out.2.1.cell 0
        have c1 : w1.cell? ⟨g, 1, none⟩ = some r.ptr := H1.out.2.1.cell 1
        go_wp2_with fail
        go_at_call 73
        refine (count_any l _ H1.out.2.2.1).mono ?_
        rintro e w2 ⟨rfl, e1⟩
        rw [e1]
        clear e1 w2
        go_wp2_with fail
        go_at_call 67
        refine (IH2 w1 H1.out.1 (by omega) H1.out.2.2.2.1 hb'.2.2 n4 hs.2.1 (by omega) (by omega)).mono ?_
        rintro e w3 ⟨⟨u, rfl⟩, hT3, ⟨k3, hR3, hk3, hk3'⟩, hC3⟩
        have H3 : Hid (RowAt w3 b root k3 ∧ RawN w3 g l (r.setT (at_ - l.cnt - 1) v) x y _ _ _ ∧ TreeAt w3 l ∧ TreeAt w3 (r.setT (at_ - l.cnt - 1) v) ∧ Chg (fun i => i = b ∨ i ∈ (T.node l g x y r).ads) w w3) :=
          ⟨hR3, by have := H1.out.2.1.keep hC3 (fun e => e.elim (fun e => hb'.1 e.symm) n2); simpa only [RawN, cellsN, T.ptr_set] using this, H1.out.2.2.1.chg hC3 (fun i hi e => e.elim (fun e => hb'.2.1 (e ▸ hi)) (fun e => n5 i hi e)), hT3,
            (H1.out.2.2.2.2.mono (fun _ _ e => .inl e)).trans hC3 (fun i _ e => e.elim .inl (fun e => .inr (by simp [T.ads, e])))⟩
        clear hT3 hR3 hC3 H1 c0 c1
        go_wp2_with fail
        go_at_call 70
        refine (fixes_any l (r.setT (at_ - l.cnt - 1) v) g x y _ _ _ w3 H3.out.2.1 H3.out.2.2.1 H3.out.2.2.2.1 n1 (by rw [T.ads_set]; exact n2) hs.1 (T.small_set _ _ hs.2.1 hv) hs.2.2 (by rw [T.cnt_set]; omega)).mono ?_
        rintro e w4 ⟨rfl, hT4, hC4⟩
        go_wp2_with fail
        go_ret
        exact ⟨⟨_, rfl⟩, by rw [HS.out]; exact hT4, ⟨k3, H3.out.1.chg hC4 hb'.1, by omega, by simp only [T.ht]; omega⟩, H3.out.2.2.2.2.trans hC4 (fun i _ e => .inr (by simp [T.ads, e]))⟩
      · rw [if_neg hlt, if_neg hgt] at hT hse
        obtain ⟨⟨s, hG⟩, hL, hRt⟩ := hT
        have K : Hid (RawN w g l r x v _ _ _ ∧ TreeAt w l ∧ TreeAt w r) := ⟨hG, hL, hRt⟩
        have HS := Lib.hid hse
        clear hG hL hRt hse IH1 IH2
        go_enter Tryd.func67, Tryd.ntmps67
        go_wp2_with fail
        go_at_call 71
        refine (look_any b root work w H.out.1 (by omega)).mono ?_
        rintro e w1 ⟨rfl, hR1, hC1⟩
        have H1 : Hid (RowAt w1 b root (work + 1) ∧ RawN w1 g l r x v _ _ _ ∧ TreeAt w1 l ∧ TreeAt w1 r ∧ Chg (fun i => i = b ∨ i ∈ (T.node l g x y r).ads) w w1) :=
          ⟨hR1, K.out.1.keep hC1 (fun e => hb'.1 e.symm), K.out.2.1.chg hC1 (fun i hi e => hb'.2.1 (e ▸ hi)), K.out.2.2.chg hC1 (fun i hi e => hb'.2.2 (e ▸ hi)), hC1.mono (fun _ _ e => .inl e)⟩
        clear hR1 hC1
        have c0 : w1.cell? ⟨g, 0, none⟩ = some l.ptr := H1.out.2.1.cell 0
        go_wp2_with fail
        go_at_call 73
        refine (count_any l _ H1.out.2.2.1).mono ?_
        rintro e w2 ⟨rfl, e1⟩
        rw [e1]
        clear e1 w2
        go_wp2_with fail
        go_at_call 70
        refine (fixes_any l r g x v _ _ _ w1 H1.out.2.1 H1.out.2.2.1 H1.out.2.2.2.1 n1 n2 hs.1 hs.2.1 hv (by omega)).mono ?_
        rintro e w4 ⟨rfl, hT4, hC4⟩
        go_wp2_with fail
        go_ret
        exact ⟨⟨_, rfl⟩, by rw [HS.out]; exact hT4, ⟨_, H1.out.1.chg hC4 hb'.1, by omega, by simp only [T.ht]; omega⟩, H1.out.2.2.2.2.trans hC4 (fun i _ e => .inr (by simp [T.ads, e]))⟩
end Go.Proofs.YtfaihilehdjfjaaDoor
