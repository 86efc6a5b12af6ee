/- Contracts: package tree: the turns. -/
import Derived.Test.YtfaihilehdjfjaaDoorTree2
namespace Go.Proofs.YtfaihilehdjfjaaDoor
open Go.ChangeShapes Go.WideShapes Go.ChangeAt Go.RowKit

theorem TreeAt.no_row {w : World} {b : Nat} {u : Value} {k : Nat} (hb : RowAt w b u k) : ∀ {t : T}, TreeAt w t → b ∉ t.ads
  | .nil, _ => by simp [T.ads]
  | .node l g x y r, h => by
    have h1 := TreeAt.no_row hb h.2.1
    have h2 := TreeAt.no_row hb h.2.2
    have h3 : b ≠ g := Blk.ne_ hb h.1 (by decide)
    simp only [T.ads, List.mem_cons, List.mem_append, not_or]
    exact ⟨h3, h1, h2⟩
theorem T.nodup_node {l r : T} {g : Nat} {x y : Int} : (T.node l g x y r).ads.Nodup ↔ g ∉ l.ads ∧ g ∉ r.ads ∧ l.ads.Nodup ∧ r.ads.Nodup ∧ ∀ i ∈ l.ads, i ∉ r.ads := by
  simp only [T.ads, List.nodup_cons, List.mem_append, not_or, List.nodup_append]
  constructor
  · rintro ⟨⟨h1, h2⟩, h3, h4, h5⟩
    exact ⟨h1, h2, h3, h4, fun i hi hj => h5 i hi i hj rfl⟩
  · rintro ⟨h1, h2, h3, h4, h5⟩
    exact ⟨⟨h1, h2⟩, h3, h4, fun i hi j hj e => h5 i hi (e ▸ hj)⟩
theorem RawN.keep {w w' : World} {g : Nat} {l r : T} {x y h m a : Int} (hb : RawN w g l r x y h m a) {M : Nat → Prop} (hc : Chg M w w') (hM : ¬ M g) : RawN w' g l r x y h m a :=
  Blk.keep hb (hc.block g (Blk.lt hb) hM)
theorem TreeAt.chg {w w' : World} {t : T} (h : TreeAt w t) {M : Nat → Prop} (hc : Chg M w w') (hM : ∀ i ∈ t.ads, ¬ M i) : TreeAt w' t :=
  h.keep fun i hi => hc.block i (h.lt i hi) (hM i hi)
theorem RowAt.chg {w w' : World} {b : Nat} {u : Value} {k : Nat} (h : RowAt w b u k) {M : Nat → Prop} (hc : Chg M w w') (hM : ¬ M b) : RowAt w' b u k := Blk.keep h (hc.block b (Blk.lt h) hM)
theorem RawN.put0 {w : World} {g : Nat} {l r : T} {x y h m a : Int} (hb : RawN w g l r x y h m a) (t : T) : RawN (w.setCell ⟨g, 0, none⟩ t.ptr) g t r x y h m a := by
  have := Blk.set_ hb 0 t.ptr; simpa [RawN, cellsN] using this
theorem RawN.put1 {w : World} {g : Nat} {l r : T} {x y h m a : Int} (hb : RawN w g l r x y h m a) (t : T) : RawN (w.setCell ⟨g, 1, none⟩ t.ptr) g l t x y h m a := by
  have := Blk.set_ hb 1 t.ptr; simpa [RawN, cellsN] using this
theorem Chg.put {w : World} (g i : Nat) (u : Value) : Chg (fun j => j = g) w (w.setCell ⟨g, i, none⟩ u) := (Chg.refl w).put_ i u

set_option maxHeartbeats 2000000 in
set_option maxRecDepth 20000 in
theorem turnRight_any (a b' r : T) (k g : Nat) (p q x y h m s : Int) (b : Nat) (root : Value) (work : Nat) (w : World) (hR : RowAt w b root work) (hwk : work ≤ 1000000000)
    (hg : RawN w g (.node a k p q b') r x y h m s) (hl : TreeAt w (.node a k p q b')) (hr : TreeAt w r) (hnd : (T.node (.node a k p q b') g x y r).ads.Nodup)
    (sl : (T.node a k p q b').small) (sr : r.small) (hy : 0 ≤ y ∧ y ≤ 1000000) (hn : (T.node a k p q b').cnt + r.cnt ≤ 199999) :
    Calls Tryd.prog 143 #[.pointer (some ⟨b, 0, none⟩), .pointer (some ⟨g, 0, none⟩)] w fun e w' =>
      e = .returned (.pointer (some ⟨k, 0, none⟩)) ∧ TreeAt w' (.node a k p q (.node b' g x y r)) ∧ RowAt w' b root (work + 1) ∧ Chg (fun j => j = b ∨ j = g ∨ j = k) w w' := by
  have H : Hid (RowAt w b root work ∧ RawN w g (.node a k p q b') r x y h m s ∧ TreeAt w (.node a k p q b') ∧ TreeAt w r) := ⟨hR, hg, hl, hr⟩
  have hbg : b ≠ g := Blk.ne_ hR hg (by decide)
  have hbk : b ≠ k := Blk.ne_ hR hl.1 (by decide)
  have hba : b ∉ a.ads := TreeAt.no_row hR hl.2.1
  have hbb : b ∉ b'.ads := TreeAt.no_row hR hl.2.2
  have hbr : b ∉ r.ads := TreeAt.no_row hR hr
  obtain ⟨n1, n2, n3, n4, n5⟩ := T.nodup_node.mp hnd
  obtain ⟨m1, m2, m3, m4, m5⟩ := T.nodup_node.mp n3
  have n1' : g ≠ k ∧ g ∉ a.ads ∧ g ∉ b'.ads := by simpa [T.ads, not_or] using n1
  have hkr : k ∉ r.ads := n5 k (by simp [T.ads])
  have hcnt : a.cnt + b'.cnt + r.cnt ≤ 199998 := by simp only [T.cnt] at hn; omega
  clear hR hg hl hr hnd hn n1
  go_enter Tryd.func143, Tryd.ntmps143
  go_wp2_with fail
  go_at_call 71
  refine (look_any b root work w H.out.1 hwk).mono ?_
  rintro e w1 ⟨rfl, hR1, hC1⟩
  have hg1 : RawN w1 g _ _ _ _ _ _ _ := H.out.2.1.keep hC1 (fun e => hbg e.symm)
  have hk1 : RawN w1 k _ _ _ _ _ _ _ := RawN.keep H.out.2.2.1.1 hC1 (fun e => hbk e.symm)
  have H1 : Hid (RowAt w1 b root (work + 1) ∧ RawN w1 g (.node a k p q b') r x y h m s ∧ RawN w1 k a b' p q _ _ _ ∧ TreeAt w1 a ∧ TreeAt w1 b' ∧ TreeAt w1 r ∧ Chg (fun j => j = b ∨ j = g ∨ j = k) w w1) :=
    ⟨hR1, hg1, hk1, H.out.2.2.1.2.1.chg hC1 (fun i hi e => hba (e ▸ hi)), H.out.2.2.1.2.2.chg hC1 (fun i hi e => hbb (e ▸ hi)), H.out.2.2.2.chg hC1 (fun i hi e => hbr (e ▸ hi)), hC1.mono (fun i _ e => .inl e)⟩
  have c0 : w1.cell? ⟨g, 0, none⟩ = some (.pointer (some ⟨k, 0, none⟩)) := hg1.cell 0
  have f0 : w1.frozen? ⟨g, 0, none⟩ = false := hg1.frozen 0
  obtain ⟨u, hu⟩ := b'.ptr_pointer
  have c1 : w1.cell? ⟨k, 1, none⟩ = some (.pointer u) := (hk1.cell 1).trans (by rw [← hu]; rfl)
  clear hR1 hg1 hk1 hC1
  go_wp2_with fail
  rw [← hu]
  have hC2 : Chg (fun j => j = g) w1 (w1.setCell ⟨g, 0, none⟩ b'.ptr) := Chg.put g 0 _
  have H2 : Hid (RowAt (w1.setCell ⟨g, 0, none⟩ b'.ptr) b root (work + 1) ∧ RawN (w1.setCell ⟨g, 0, none⟩ b'.ptr) g b' r x y h m s ∧ RawN (w1.setCell ⟨g, 0, none⟩ b'.ptr) k a b' p q _ _ _ ∧ TreeAt (w1.setCell ⟨g, 0, none⟩ b'.ptr) a ∧ TreeAt (w1.setCell ⟨g, 0, none⟩ b'.ptr) b' ∧ TreeAt (w1.setCell ⟨g, 0, none⟩ b'.ptr) r ∧ Chg (fun j => j = b ∨ j = g ∨ j = k) w (w1.setCell ⟨g, 0, none⟩ b'.ptr)) :=
    ⟨H1.out.1.chg hC2 hbg, H1.out.2.1.put0 b', H1.out.2.2.1.keep hC2 (fun e => n1'.1 e.symm), H1.out.2.2.2.1.put n1'.2.1 _ _, H1.out.2.2.2.2.1.put n1'.2.2 _ _, H1.out.2.2.2.2.2.1.put n2 _ _, H1.out.2.2.2.2.2.2.trans hC2 (fun i _ e => .inr (.inl e))⟩
  generalize w1.setCell ⟨g, 0, none⟩ b'.ptr = w2 at H2 ⊢
  clear hC2 c0 c1 f0 H1
  go_at_call 65
  refine (fix_any b' r g x y h m s w2 H2.out.2.1 H2.out.2.2.2.2.1 H2.out.2.2.2.2.2.1 n1'.2.2 n2 sl.2.1 sr hy (by omega)).mono ?_
  rintro e w3 ⟨rfl, hT3, hC3⟩
  have H3 : Hid (RowAt w3 b root (work + 1) ∧ TreeAt w3 (.node b' g x y r) ∧ RawN w3 k a b' p q _ _ _ ∧ TreeAt w3 a ∧ Chg (fun j => j = b ∨ j = g ∨ j = k) w w3) :=
    ⟨H2.out.1.chg hC3 hbg, hT3, H2.out.2.2.1.keep hC3 (fun e => n1'.1 e.symm), H2.out.2.2.2.1.chg hC3 (fun i hi e => n1'.2.1 (e ▸ hi)), H2.out.2.2.2.2.2.2.trans hC3 (by intro i _ e; exact .inr (.inl e))⟩
  have c0 : w3.cell? ⟨k, 1, none⟩ = some b'.ptr := H3.out.2.2.1.cell 1
  have f0 : w3.frozen? ⟨k, 1, none⟩ = false := H3.out.2.2.1.frozen 1
  clear hT3 hC3 H2
  go_wp2_with fail
  have hC4 : Chg (fun j => j = k) w3 (w3.setCell ⟨k, 1, none⟩ (.pointer (some ⟨g, 0, none⟩))) := Chg.put k 1 _
  have hnd2 : k ∉ (T.node b' g x y r).ads := by simp only [T.ads, List.mem_cons, List.mem_append, not_or]; exact ⟨fun e => n1'.1 e.symm, m2, hkr⟩
  have H4 : Hid (RowAt (w3.setCell ⟨k, 1, none⟩ (.pointer (some ⟨g, 0, none⟩))) b root (work + 1) ∧ TreeAt (w3.setCell ⟨k, 1, none⟩ (.pointer (some ⟨g, 0, none⟩))) (.node b' g x y r) ∧ RawN (w3.setCell ⟨k, 1, none⟩ (.pointer (some ⟨g, 0, none⟩))) k a (.node b' g x y r) p q _ _ _ ∧ TreeAt (w3.setCell ⟨k, 1, none⟩ (.pointer (some ⟨g, 0, none⟩))) a ∧ Chg (fun j => j = b ∨ j = g ∨ j = k) w (w3.setCell ⟨k, 1, none⟩ (.pointer (some ⟨g, 0, none⟩)))) :=
    ⟨H3.out.1.chg hC4 hbk, H3.out.2.1.put hnd2 _ _, H3.out.2.2.1.put1 (.node b' g x y r), H3.out.2.2.2.1.put m1 _ _, H3.out.2.2.2.2.trans hC4 (fun i _ e => .inr (.inr e))⟩
  generalize w3.setCell ⟨k, 1, none⟩ (.pointer (some ⟨g, 0, none⟩)) = w4 at H4 ⊢
  clear hC4 c0 f0 H3
  go_at_call 65
  refine (fix_any a (.node b' g x y r) k p q _ _ _ w4 H4.out.2.2.1 H4.out.2.2.2.1 H4.out.2.1 m1 hnd2 sl.1 ⟨sl.2.1, sr, hy⟩ sl.2.2 (by simp only [T.cnt]; omega)).mono ?_
  rintro e w5 ⟨rfl, hT5, hC5⟩
  go_wp2_with fail
  go_ret
  exact ⟨rfl, hT5, H4.out.1.chg hC5 hbk, H4.out.2.2.2.2.trans hC5 (fun i _ e => .inr (.inr e))⟩

set_option maxHeartbeats 2000000 in
set_option maxRecDepth 20000 in
theorem turnLeft_any (l a b' : T) (k g : Nat) (p q x y h m s : Int) (b : Nat) (root : Value) (work : Nat) (w : World) (hR : RowAt w b root work) (hwk : work ≤ 1000000000)
    (hg : RawN w g l (.node a k p q b') x y h m s) (hl : TreeAt w l) (hr : TreeAt w (.node a k p q b')) (hnd : (T.node l g x y (.node a k p q b')).ads.Nodup)
    (sl : l.small) (sr : (T.node a k p q b').small) (hy : 0 ≤ y ∧ y ≤ 1000000) (hn : l.cnt + (T.node a k p q b').cnt ≤ 199999) :
    Calls Tryd.prog 142 #[.pointer (some ⟨b, 0, none⟩), .pointer (some ⟨g, 0, none⟩)] w fun e w' =>
      e = .returned (.pointer (some ⟨k, 0, none⟩)) ∧ TreeAt w' (.node (.node l g x y a) k p q b') ∧ RowAt w' b root (work + 1) ∧ Chg (fun j => j = b ∨ j = g ∨ j = k) w w' := by
  have H : Hid (RowAt w b root work ∧ RawN w g l (.node a k p q b') x y h m s ∧ TreeAt w l ∧ TreeAt w (.node a k p q b')) := ⟨hR, hg, hl, hr⟩
  have hbg : b ≠ g := Blk.ne_ hR hg (by decide)
  have hbk : b ≠ k := Blk.ne_ hR hr.1 (by decide)
  have hba : b ∉ a.ads := TreeAt.no_row hR hr.2.1
  have hbb : b ∉ b'.ads := TreeAt.no_row hR hr.2.2
  have hbl : b ∉ l.ads := TreeAt.no_row hR hl
  obtain ⟨n1, n2, n3, n4, n5⟩ := T.nodup_node.mp hnd
  obtain ⟨m1, m2, m3, m4, m5⟩ := T.nodup_node.mp n4
  have n2' : g ≠ k ∧ g ∉ a.ads ∧ g ∉ b'.ads := by simpa [T.ads, not_or] using n2
  have hkl : k ∉ l.ads := fun e => n5 k e (by simp [T.ads])
  have hcnt : a.cnt + b'.cnt + l.cnt ≤ 199998 := by simp only [T.cnt] at hn; omega
  clear hR hg hl hr hnd hn n2
  go_enter Tryd.func142, Tryd.ntmps142
  go_wp2_with fail
  go_at_call 71
  refine (look_any b root work w H.out.1 hwk).mono ?_
  rintro e w1 ⟨rfl, hR1, hC1⟩
  have hg1 : RawN w1 g _ _ _ _ _ _ _ := H.out.2.1.keep hC1 (fun e => hbg e.symm)
  have hk1 : RawN w1 k _ _ _ _ _ _ _ := RawN.keep H.out.2.2.2.1 hC1 (fun e => hbk e.symm)
  have H1 : Hid (RowAt w1 b root (work + 1) ∧ RawN w1 g l (.node a k p q b') x y h m s ∧ RawN w1 k a b' p q _ _ _ ∧ TreeAt w1 a ∧ TreeAt w1 b' ∧ TreeAt w1 l ∧ Chg (fun j => j = b ∨ j = g ∨ j = k) w w1) :=
    ⟨hR1, hg1, hk1, H.out.2.2.2.2.1.chg hC1 (fun i hi e => hba (e ▸ hi)), H.out.2.2.2.2.2.chg hC1 (fun i hi e => hbb (e ▸ hi)), H.out.2.2.1.chg hC1 (fun i hi e => hbl (e ▸ hi)), hC1.mono (fun i _ e => .inl e)⟩
  have c0 : w1.cell? ⟨g, 1, none⟩ = some (.pointer (some ⟨k, 0, none⟩)) := hg1.cell 1
  have f0 : w1.frozen? ⟨g, 1, none⟩ = false := hg1.frozen 1
  obtain ⟨u, hu⟩ := a.ptr_pointer
  have c1 : w1.cell? ⟨k, 0, none⟩ = some (.pointer u) := (hk1.cell 0).trans (by rw [← hu]; rfl)
  clear hR1 hg1 hk1 hC1
  go_wp2_with fail
  rw [← hu]
  have hC2 : Chg (fun j => j = g) w1 (w1.setCell ⟨g, 1, none⟩ a.ptr) := Chg.put g 1 _
  have H2 : Hid (RowAt (w1.setCell ⟨g, 1, none⟩ a.ptr) b root (work + 1) ∧ RawN (w1.setCell ⟨g, 1, none⟩ a.ptr) g l a x y h m s ∧ RawN (w1.setCell ⟨g, 1, none⟩ a.ptr) k a b' p q _ _ _ ∧ TreeAt (w1.setCell ⟨g, 1, none⟩ a.ptr) a ∧ TreeAt (w1.setCell ⟨g, 1, none⟩ a.ptr) b' ∧ TreeAt (w1.setCell ⟨g, 1, none⟩ a.ptr) l ∧ Chg (fun j => j = b ∨ j = g ∨ j = k) w (w1.setCell ⟨g, 1, none⟩ a.ptr)) :=
    ⟨H1.out.1.chg hC2 hbg, H1.out.2.1.put1 a, H1.out.2.2.1.keep hC2 (fun e => n2'.1 e.symm), H1.out.2.2.2.1.put n2'.2.1 _ _, H1.out.2.2.2.2.1.put n2'.2.2 _ _, H1.out.2.2.2.2.2.1.put n1 _ _, H1.out.2.2.2.2.2.2.trans hC2 (fun i _ e => .inr (.inl e))⟩
  generalize w1.setCell ⟨g, 1, none⟩ a.ptr = w2 at H2 ⊢
  clear hC2 c0 c1 f0 H1
  go_at_call 65
  refine (fix_any l a g x y h m s w2 H2.out.2.1 H2.out.2.2.2.2.2.1 H2.out.2.2.2.1 n1 n2'.2.1 sl sr.1 hy (by omega)).mono ?_
  rintro e w3 ⟨rfl, hT3, hC3⟩
  have H3 : Hid (RowAt w3 b root (work + 1) ∧ TreeAt w3 (.node l g x y a) ∧ RawN w3 k a b' p q _ _ _ ∧ TreeAt w3 b' ∧ Chg (fun j => j = b ∨ j = g ∨ j = k) w w3) :=
    ⟨H2.out.1.chg hC3 hbg, hT3, H2.out.2.2.1.keep hC3 (fun e => n2'.1 e.symm), H2.out.2.2.2.2.1.chg hC3 (fun i hi e => n2'.2.2 (e ▸ hi)), H2.out.2.2.2.2.2.2.trans hC3 (by intro i _ e; exact .inr (.inl e))⟩
  have c0 : w3.cell? ⟨k, 0, none⟩ = some a.ptr := H3.out.2.2.1.cell 0
  have f0 : w3.frozen? ⟨k, 0, none⟩ = false := H3.out.2.2.1.frozen 0
  clear hT3 hC3 H2
  go_wp2_with fail
  have hC4 : Chg (fun j => j = k) w3 (w3.setCell ⟨k, 0, none⟩ (.pointer (some ⟨g, 0, none⟩))) := Chg.put k 0 _
  have hnd2 : k ∉ (T.node l g x y a).ads := by simp only [T.ads, List.mem_cons, List.mem_append, not_or]; exact ⟨fun e => n2'.1 e.symm, hkl, m1⟩
  have H4 : Hid (RowAt (w3.setCell ⟨k, 0, none⟩ (.pointer (some ⟨g, 0, none⟩))) b root (work + 1) ∧ TreeAt (w3.setCell ⟨k, 0, none⟩ (.pointer (some ⟨g, 0, none⟩))) (.node l g x y a) ∧ RawN (w3.setCell ⟨k, 0, none⟩ (.pointer (some ⟨g, 0, none⟩))) k (.node l g x y a) b' p q _ _ _ ∧ TreeAt (w3.setCell ⟨k, 0, none⟩ (.pointer (some ⟨g, 0, none⟩))) b' ∧ Chg (fun j => j = b ∨ j = g ∨ j = k) w (w3.setCell ⟨k, 0, none⟩ (.pointer (some ⟨g, 0, none⟩)))) :=
    ⟨H3.out.1.chg hC4 hbk, H3.out.2.1.put hnd2 _ _, H3.out.2.2.1.put0 (.node l g x y a), H3.out.2.2.2.1.put m2 _ _, H3.out.2.2.2.2.trans hC4 (fun i _ e => .inr (.inr e))⟩
  generalize w3.setCell ⟨k, 0, none⟩ (.pointer (some ⟨g, 0, none⟩)) = w4 at H4 ⊢
  clear hC4 c0 f0 H3
  go_at_call 65
  refine (fix_any (.node l g x y a) b' k p q _ _ _ w4 H4.out.2.2.1 H4.out.2.1 H4.out.2.2.2.1 hnd2 m2 ⟨sl, sr.1, hy⟩ sr.2.1 sr.2.2 (by simp only [T.cnt]; omega)).mono ?_
  rintro e w5 ⟨rfl, hT5, hC5⟩
  go_wp2_with fail
  go_ret
  exact ⟨rfl, hT5, H4.out.1.chg hC5 hbk, H4.out.2.2.2.2.trans hC5 (fun i _ e => .inr (.inr e))⟩
end Go.Proofs.YtfaihilehdjfjaaDoor
