/- Contracts: package tree: a node's sides are made as high, nearly (the right one). -/
import Derived.Test.YtfaihilehdjfjaaDoorTree4
namespace Go.Proofs.YtfaihilehdjfjaaDoor
open Go.ChangeShapes Go.WideShapes Go.ChangeAt Go.RowKit

set_option maxHeartbeats 2000000 in
set_option maxRecDepth 20000 in
theorem even_right (l a c : T) (k : Nat) (p q : Int) (g : Nat) (x y h m s : Int) (b : Nat) (root : Value) (work : Nat) (w : World) (hR : RowAt w b root work) (hwk : work ≤ 999999990)
    (hg : RawN w g l (T.node a k p q c) x y h m s) (hl : TreeAt w l) (hr : TreeAt w (T.node a k p q c)) (hnd : (T.node l g x y (T.node a k p q c)).ads.Nodup) (sl : T.small l) (sr : T.small (T.node a k p q c)) (hy : 0 ≤ y ∧ y ≤ 1000000) (hn : T.cnt l + T.cnt (T.node a k p q c) ≤ 199990) (h1 : l.ht + 1 < T.ht (T.node a k p q c)) (h2 : ¬ c.ht < a.ht) :
    Calls Tryd.prog 110 #[.pointer (some ⟨b, 0, none⟩), .pointer (some ⟨g, 0, none⟩)] w fun e w' =>
      e = .returned (.pointer (some ⟨k, 0, none⟩)) ∧ TreeAt w' (.node (.node l g x y a) k p q c) ∧ RowAt w' b root (work + 2) ∧ Chg (fun i => i = b ∨ i ∈ (T.node l g x y (T.node a k p q c)).ads) w w' := by
  have H : Hid (RowAt w b root work ∧ RawN w g l (T.node a k p q c) x y h m s ∧ TreeAt w l ∧ TreeAt w (T.node a k p q c)) := ⟨hR, hg, hl, hr⟩
  have hbg : b ≠ g := Blk.ne_ hR hg (by decide)
  have hbl : b ∉ T.ads l := TreeAt.no_row hR hl
  have hbr : b ∉ T.ads (T.node a k p q c) := TreeAt.no_row hR hr
  have hx1 := T.ht_le_cnt l
  have hx2 := T.ht_le_cnt (T.node a k p q c)
  clear hR hg hl hr
  go_enter Tryd.func110, Tryd.ntmps110
  go_wp2_with fail
  go_at_call 71
  refine (look_any b root work w H.out.1 (by omega)).mono ?_
  rintro e w1 ⟨rfl, hR1, hC1⟩
  have H1 : Hid (RowAt w1 b root (work + 1) ∧ RawN w1 g l (T.node a k p q c) x y h m s ∧ TreeAt w1 l ∧ TreeAt w1 (T.node a k p q c) ∧ Chg (fun j => j = b) w w1) :=
    ⟨hR1, H.out.2.1.keep hC1 (fun e => hbg e.symm), H.out.2.2.1.chg hC1 (fun i hi e => hbl (e ▸ hi)), H.out.2.2.2.chg hC1 (fun i hi e => hbr (e ▸ hi)), hC1⟩
  have c0 : w1.cell? ⟨g, 0, none⟩ = some (T.ptr l) := H1.out.2.1.cell 0
  have c1 : w1.cell? ⟨g, 1, none⟩ = some (T.ptr (T.node a k p q c)) := H1.out.2.1.cell 1
  have hm : IntKind.i64.wrap ((T.ht l : Int) - (T.ht (T.node a k p q c) : Int)) = (T.ht l : Int) - (T.ht (T.node a k p q c) : Int) := IntWalk.i64_in _ (by omega)
  clear hR1 hC1
  go_wp2_with fail
  refine wp_region_still_lit (by kernel_rfl) (by kernel_rfl) ?_
  repeat (refine wpStill_want rfl (fun K hK => ?_); go_simp; refine hK _ ?_; clear hK K)
  (refine wpStill_want rfl (fun K hK => ?_); go_simp; refine ⟨_, height_any l _ H1.out.2.2.1.drew_, hK _ ?_⟩; clear hK K)
  repeat (refine wpStill_want rfl (fun K hK => ?_); go_simp; refine hK _ ?_; clear hK K)
  (refine wpStill_want rfl (fun K hK => ?_); go_simp; refine ⟨_, height_any (T.node a k p q c) _ H1.out.2.2.2.1.drew_, hK _ ?_⟩; clear hK K)
  repeat (refine wpStill_want rfl (fun K hK => ?_); go_simp; refine hK _ ?_; clear hK K)
  refine wpStill_nil ?_
  change Exit.then _ _ _ _ w1.drew
  have H2 : Hid (RowAt w1.drew b root (work + 1) ∧ RawN w1.drew g l (T.node a k p q c) x y h m s ∧ TreeAt w1.drew l ∧ TreeAt w1.drew (T.node a k p q c) ∧ Chg (fun j => j = b) w w1.drew) :=
    ⟨H1.out.1, H1.out.2.1, H1.out.2.2.1.drew_, H1.out.2.2.2.1.drew_, H1.out.2.2.2.2.drew⟩
  generalize w1.drew = w2 at H2 ⊢
  clear hm c0 c1 H1
  generalize hN : (T.ht (T.node a k p q c) : Int) = hh at *
  have h1' : (T.ht l : Int) + 1 < hh := by omega
  have c0 : w2.cell? ⟨g, 1, none⟩ = some (.pointer (some ⟨k, 0, none⟩)) := H2.out.2.1.cell 1
  have c1 : w2.cell? ⟨k, 0, none⟩ = some (T.ptr a) := H2.out.2.2.2.1.1.cell 0
  have c2 : w2.cell? ⟨k, 1, none⟩ = some (T.ptr c) := H2.out.2.2.2.1.1.cell 1
  go_wp2_with fail
  refine wp_region_still_lit (by kernel_rfl) (by kernel_rfl) ?_
  repeat (refine wpStill_want rfl (fun K hK => ?_); go_simp; refine hK _ ?_; clear hK K)
  (refine wpStill_want rfl (fun K hK => ?_); go_simp; refine ⟨_, height_any c _ H2.out.2.2.2.1.2.2.drew_, hK _ ?_⟩; clear hK K)
  repeat (refine wpStill_want rfl (fun K hK => ?_); go_simp; refine hK _ ?_; clear hK K)
  (refine wpStill_want rfl (fun K hK => ?_); go_simp; refine ⟨_, height_any a _ H2.out.2.2.2.1.2.1.drew_, hK _ ?_⟩; clear hK K)
  repeat (refine wpStill_want rfl (fun K hK => ?_); go_simp; refine hK _ ?_; clear hK K)
  refine wpStill_nil ?_
  change Exit.then _ _ _ _ w2.drew
  have H3 : Hid (RowAt w2.drew b root (work + 1) ∧ RawN w2.drew g l (T.node a k p q c) x y h m s ∧ TreeAt w2.drew l ∧ TreeAt w2.drew (T.node a k p q c) ∧ Chg (fun j => j = b) w w2.drew) :=
    ⟨H2.out.1, H2.out.2.1, H2.out.2.2.1.drew_, H2.out.2.2.2.1.drew_, H2.out.2.2.2.2.drew⟩
  generalize w2.drew = w3 at H3 ⊢
  clear c0 c1 c2 H2
  go_wp2_with fail
  go_at_call 142
  refine (turnLeft_any l a c k g p q x y h m s b root (work + 1) w3 H3.out.1 (by omega) H3.out.2.1 H3.out.2.2.1 H3.out.2.2.2.1 hnd sl sr hy (by omega)).mono ?_
  rintro e w4 ⟨rfl, hT, hR, hC⟩
  go_wp2_with fail
  go_ret
  refine ⟨rfl, hT, hR, (H3.out.2.2.2.2.mono (fun i _ e => .inl e)).trans hC (fun i _ e => ?_)⟩
  rcases e with e | e | e
  · exact .inl e
  · exact .inr (by simp [T.ads, e])
  · exact .inr (by simp [T.ads, e])

set_option maxHeartbeats 2000000 in
set_option maxRecDepth 20000 in
theorem even_right2 (l u v c : T) (k j : Nat) (p q f t : Int) (g : Nat) (x y h m s : Int) (b : Nat) (root : Value) (work : Nat) (w : World) (hR : RowAt w b root work) (hwk : work ≤ 999999990)
    (hg : RawN w g l (T.node (T.node u j f t v) k p q c) x y h m s) (hl : TreeAt w l) (hr : TreeAt w (T.node (T.node u j f t v) k p q c)) (hnd : (T.node l g x y (T.node (T.node u j f t v) k p q c)).ads.Nodup) (sl : T.small l) (sr : T.small (T.node (T.node u j f t v) k p q c)) (hy : 0 ≤ y ∧ y ≤ 1000000) (hn : T.cnt l + T.cnt (T.node (T.node u j f t v) k p q c) ≤ 199990) (h1 : l.ht + 1 < T.ht (T.node (T.node u j f t v) k p q c)) (h2 : c.ht < T.ht (T.node u j f t v)) :
    Calls Tryd.prog 110 #[.pointer (some ⟨b, 0, none⟩), .pointer (some ⟨g, 0, none⟩)] w fun e w' =>
      e = .returned (.pointer (some ⟨j, 0, none⟩)) ∧ TreeAt w' (.node (.node l g x y u) j f t (.node v k p q c)) ∧ RowAt w' b root (work + 3) ∧ Chg (fun i => i = b ∨ i ∈ (T.node l g x y (T.node (T.node u j f t v) k p q c)).ads) w w' := by
  have H : Hid (RowAt w b root work ∧ RawN w g l (T.node (T.node u j f t v) k p q c) x y h m s ∧ TreeAt w l ∧ TreeAt w (T.node (T.node u j f t v) k p q c)) := ⟨hR, hg, hl, hr⟩
  have hbg : b ≠ g := Blk.ne_ hR hg (by decide)
  have hbl : b ∉ T.ads l := TreeAt.no_row hR hl
  have hbr : b ∉ T.ads (T.node (T.node u j f t v) k p q c) := TreeAt.no_row hR hr
  have hx1 := T.ht_le_cnt l
  have hx2 := T.ht_le_cnt (T.node (T.node u j f t v) k p q c)
  clear hR hg hl hr
  go_enter Tryd.func110, Tryd.ntmps110
  go_wp2_with fail
  go_at_call 71
  refine (look_any b root work w H.out.1 (by omega)).mono ?_
  rintro e w1 ⟨rfl, hR1, hC1⟩
  have H1 : Hid (RowAt w1 b root (work + 1) ∧ RawN w1 g l (T.node (T.node u j f t v) k p q c) x y h m s ∧ TreeAt w1 l ∧ TreeAt w1 (T.node (T.node u j f t v) k p q c) ∧ Chg (fun j => j = b) w w1) :=
    ⟨hR1, H.out.2.1.keep hC1 (fun e => hbg e.symm), H.out.2.2.1.chg hC1 (fun i hi e => hbl (e ▸ hi)), H.out.2.2.2.chg hC1 (fun i hi e => hbr (e ▸ hi)), hC1⟩
  have c0 : w1.cell? ⟨g, 0, none⟩ = some (T.ptr l) := H1.out.2.1.cell 0
  have c1 : w1.cell? ⟨g, 1, none⟩ = some (T.ptr (T.node (T.node u j f t v) k p q c)) := H1.out.2.1.cell 1
  have hm : IntKind.i64.wrap ((T.ht l : Int) - (T.ht (T.node (T.node u j f t v) k p q c) : Int)) = (T.ht l : Int) - (T.ht (T.node (T.node u j f t v) k p q c) : Int) := IntWalk.i64_in _ (by omega)
  clear hR1 hC1
  go_wp2_with fail
  refine wp_region_still_lit (by kernel_rfl) (by kernel_rfl) ?_
  repeat (refine wpStill_want rfl (fun K hK => ?_); go_simp; refine hK _ ?_; clear hK K)
  (refine wpStill_want rfl (fun K hK => ?_); go_simp; refine ⟨_, height_any l _ H1.out.2.2.1.drew_, hK _ ?_⟩; clear hK K)
  repeat (refine wpStill_want rfl (fun K hK => ?_); go_simp; refine hK _ ?_; clear hK K)
  (refine wpStill_want rfl (fun K hK => ?_); go_simp; refine ⟨_, height_any (T.node (T.node u j f t v) k p q c) _ H1.out.2.2.2.1.drew_, hK _ ?_⟩; clear hK K)
  repeat (refine wpStill_want rfl (fun K hK => ?_); go_simp; refine hK _ ?_; clear hK K)
  refine wpStill_nil ?_
  change Exit.then _ _ _ _ w1.drew
  have H2 : Hid (RowAt w1.drew b root (work + 1) ∧ RawN w1.drew g l (T.node (T.node u j f t v) k p q c) x y h m s ∧ TreeAt w1.drew l ∧ TreeAt w1.drew (T.node (T.node u j f t v) k p q c) ∧ Chg (fun j => j = b) w w1.drew) :=
    ⟨H1.out.1, H1.out.2.1, H1.out.2.2.1.drew_, H1.out.2.2.2.1.drew_, H1.out.2.2.2.2.drew⟩
  generalize w1.drew = w2 at H2 ⊢
  clear hm c0 c1 H1
  generalize hN : (T.ht (T.node (T.node u j f t v) k p q c) : Int) = hh at *
  have h1' : (T.ht l : Int) + 1 < hh := by omega
  have c0 : w2.cell? ⟨g, 1, none⟩ = some (.pointer (some ⟨k, 0, none⟩)) := H2.out.2.1.cell 1
  have c1 : w2.cell? ⟨k, 0, none⟩ = some (T.ptr (T.node u j f t v)) := H2.out.2.2.2.1.1.cell 0
  have c2 : w2.cell? ⟨k, 1, none⟩ = some (T.ptr c) := H2.out.2.2.2.1.1.cell 1
  go_wp2_with fail
  refine wp_region_still_lit (by kernel_rfl) (by kernel_rfl) ?_
  repeat (refine wpStill_want rfl (fun K hK => ?_); go_simp; refine hK _ ?_; clear hK K)
  (refine wpStill_want rfl (fun K hK => ?_); go_simp; refine ⟨_, height_any c _ H2.out.2.2.2.1.2.2.drew_, hK _ ?_⟩; clear hK K)
  repeat (refine wpStill_want rfl (fun K hK => ?_); go_simp; refine hK _ ?_; clear hK K)
  (refine wpStill_want rfl (fun K hK => ?_); go_simp; refine ⟨_, height_any (T.node u j f t v) _ H2.out.2.2.2.1.2.1.drew_, hK _ ?_⟩; clear hK K)
  repeat (refine wpStill_want rfl (fun K hK => ?_); go_simp; refine hK _ ?_; clear hK K)
  refine wpStill_nil ?_
  change Exit.then _ _ _ _ w2.drew
  have H3 : Hid (RowAt w2.drew b root (work + 1) ∧ RawN w2.drew g l (T.node (T.node u j f t v) k p q c) x y h m s ∧ TreeAt w2.drew l ∧ TreeAt w2.drew (T.node (T.node u j f t v) k p q c) ∧ Chg (fun j => j = b) w w2.drew) :=
    ⟨H2.out.1, H2.out.2.1, H2.out.2.2.1.drew_, H2.out.2.2.2.1.drew_, H2.out.2.2.2.2.drew⟩
  generalize w2.drew = w3 at H3 ⊢
  have f0 : w3.frozen? ⟨g, 1, none⟩ = false := H3.out.2.1.frozen 1
  have c0 : w3.cell? ⟨g, 1, none⟩ = some (.pointer (some ⟨k, 0, none⟩)) := H3.out.2.1.cell 1
  clear H2
  obtain ⟨n1, n2, n3, n4, n5⟩ := T.nodup_node.mp hnd
  obtain ⟨m1, m2, m3, m4, m5⟩ := T.nodup_node.mp n4
  have kb : b ≠ k := fun e => hbr (by simp [T.ads, e])
  have jb : b ≠ j := fun e => hbr (by simp [T.ads, e])
  have gk : g ≠ k := fun e => n2 (by simp [T.ads, e])
  have gj : g ≠ j := fun e => n2 (by simp [T.ads, e])
  go_wp2_with fail
  go_at_call 143
  refine (turnRight_any u v c j k f t p q _ _ _ b root (work + 1) w3 H3.out.1 (by omega) H3.out.2.2.2.1.1 H3.out.2.2.2.1.2.1 H3.out.2.2.2.1.2.2 n4 sr.1 sr.2.1 sr.2.2 (by simp only [T.cnt] at hn ⊢; omega)).mono ?_
  rintro e w4 ⟨rfl, hT, hR, hC⟩
  have H4 : Hid (RowAt w4 b root (work + 2) ∧ RawN w4 g l (T.node (T.node u j f t v) k p q c) x y h m s ∧ TreeAt w4 l ∧ TreeAt w4 (.node u j f t (.node v k p q c)) ∧ Chg (fun i => i = b ∨ i = k ∨ i = j) w w4) :=
    ⟨hR, H3.out.2.1.keep hC (fun e => e.elim (fun e => hbg e.symm) (fun e => e.elim gk gj)), H3.out.2.2.1.chg hC (fun i hi e => e.elim (fun e => hbl (e ▸ hi)) (fun e => e.elim (fun e => n5 i hi (by simp [T.ads, e])) (fun e => n5 i hi (by simp [T.ads, e])))), hT, (H3.out.2.2.2.2.mono (fun i _ e => .inl e)).trans hC (fun i _ e => e)⟩
  clear c0 f0 hT hR H3
  have f0 : w4.frozen? ⟨g, 1, none⟩ = false := H4.out.2.1.frozen 1
  have c0 : w4.cell? ⟨g, 1, none⟩ = some (.pointer (some ⟨k, 0, none⟩)) := H4.out.2.1.cell 1
  clear hC
  go_wp2_with fail
  have hnn : (T.node l g x y (.node u j f t (.node v k p q c))).ads.Nodup := (List.Perm.nodup_iff (show ((T.node l g x y (.node u j f t (.node v k p q c))).ads).Perm (T.node l g x y (T.node (T.node u j f t v) k p q c)).ads from List.Perm.cons _ (List.Perm.append_left _ (T.perm_rotR (T.node (T.node u j f t v) k p q c))))).mpr hnd
  have hg4 : g ∉ (T.node u j f t (.node v k p q c)).ads := (T.nodup_node.mp hnn).2.1
  have hC4 : Chg (fun i => i = g) w4 (w4.setCell ⟨g, 1, none⟩ (.pointer (some ⟨j, 0, none⟩))) := Chg.put g 1 _
  have H5 : Hid (RowAt (w4.setCell ⟨g, 1, none⟩ (.pointer (some ⟨j, 0, none⟩))) b root (work + 2) ∧ RawN (w4.setCell ⟨g, 1, none⟩ (.pointer (some ⟨j, 0, none⟩))) g l (.node u j f t (.node v k p q c)) x y h m s ∧ TreeAt (w4.setCell ⟨g, 1, none⟩ (.pointer (some ⟨j, 0, none⟩))) l ∧ TreeAt (w4.setCell ⟨g, 1, none⟩ (.pointer (some ⟨j, 0, none⟩))) (.node u j f t (.node v k p q c)) ∧ Chg (fun i => i = b ∨ i = k ∨ i = j ∨ i = g) w (w4.setCell ⟨g, 1, none⟩ (.pointer (some ⟨j, 0, none⟩)))) :=
    ⟨H4.out.1.chg hC4 hbg, H4.out.2.1.put1 (.node u j f t (.node v k p q c)), H4.out.2.2.1.put n1 _ _, H4.out.2.2.2.1.put hg4 _ _, (H4.out.2.2.2.2.mono (fun i _ e => e.elim .inl (fun e => e.elim (fun e => .inr (.inl e)) (fun e => .inr (.inr (.inl e)))))).trans hC4 (fun i _ e => .inr (.inr (.inr e)))⟩
  generalize w4.setCell ⟨g, 1, none⟩ (.pointer (some ⟨j, 0, none⟩)) = w5 at H5 ⊢
  clear hC4 c0 f0 H4
  go_at_call 142
  refine (turnLeft_any l u (.node v k p q c) j g f t x y h m s b root (work + 2) w5 H5.out.1 (by omega) H5.out.2.1 H5.out.2.2.1 H5.out.2.2.2.1 hnn sl ⟨sr.1.1, ⟨sr.1.2.1, sr.2.1, sr.2.2⟩, sr.1.2.2⟩ hy (by simp only [T.cnt] at hn ⊢; omega)).mono ?_
  rintro e w6 ⟨rfl, hT, hR, hC⟩
  go_wp2_with fail
  go_ret
  refine ⟨rfl, hT, hR, (H5.out.2.2.2.2.mono ?_).trans hC ?_⟩
  · rintro i _ (e | e | e | e)
    · exact .inl e
    all_goals exact .inr (by simp [T.ads, e])
  · rintro i _ (e | e | e)
    · exact .inl e
    all_goals exact .inr (by simp [T.ads, e])


/-- a row looked at so many times, at most -/
def Lk (w : World) (b : Nat) (root : Value) (work n : Nat) : Prop := ∃ k, RowAt w b root k ∧ work ≤ k ∧ k ≤ work + n
theorem Lk.mono {w : World} {b : Nat} {root : Value} {work n n' : Nat} (h : Lk w b root work n) (hn : n ≤ n') : Lk w b root work n' := by
  obtain ⟨k, h1, h2, h3⟩ := h
  exact ⟨k, h1, h2, by omega⟩
theorem even_any (l r : T) (g : Nat) (x y h m s : Int) (b : Nat) (root : Value) (work : Nat) (w : World) (hR : RowAt w b root work) (hwk : work ≤ 999999990)
    (hg : RawN w g l r x y h m s) (hl : TreeAt w l) (hr : TreeAt w r) (hnd : (T.node l g x y r).ads.Nodup) (sl : T.small l) (sr : T.small r) (hy : 0 ≤ y ∧ y ≤ 1000000) (hn : T.cnt l + T.cnt r ≤ 199990) :
    Calls Tryd.prog 110 #[.pointer (some ⟨b, 0, none⟩), .pointer (some ⟨g, 0, none⟩)] w fun e w' =>
      e = .returned (T.ptr (T.evenT l g x y r)) ∧ TreeAt w' (T.evenT l g x y r) ∧ Lk w' b root work 3 ∧ Chg (fun i => i = b ∨ i ∈ (T.node l g x y r).ads) w w' := by
  by_cases h1 : r.ht + 1 < l.ht
  · obtain ⟨a, k, p, q, c, rfl⟩ := T.ht_pos (t := l) (by omega)
    by_cases h2 : a.ht < c.ht
    · obtain ⟨u, j, f, t, v, rfl⟩ := T.ht_pos (t := c) (by omega)
      have e1 : T.evenT (T.node a k p q (T.node u j f t v)) g x y r = .node (.node a k p q u) j f t (.node v g x y r) := by
        simp only [T.evenT, h1, T.left, T.right, h2, ↓reduceIte, T.rotL, T.rotR]
      rw [e1]
      refine (even_left2 a u v r k j p q f t g x y h m s b root work w hR hwk hg hl hr hnd sl sr hy hn h1 h2).mono ?_
      rintro e w' ⟨e1, e2, e3, e4⟩
      exact ⟨e1, e2, ⟨_, e3, by omega, by omega⟩, e4⟩
    · have e1 : T.evenT (T.node a k p q c) g x y r = .node a k p q (.node c g x y r) := by
        simp only [T.evenT, h1, T.left, T.right, h2, ↓reduceIte, T.rotR]
      rw [e1]
      refine (even_left a c r k p q g x y h m s b root work w hR hwk hg hl hr hnd sl sr hy hn h1 h2).mono ?_
      rintro e w' ⟨e1, e2, e3, e4⟩
      exact ⟨e1, e2, ⟨_, e3, by omega, by omega⟩, e4⟩
  · by_cases h3 : l.ht + 1 < r.ht
    · obtain ⟨a, k, p, q, c, rfl⟩ := T.ht_pos (t := r) (by omega)
      by_cases h2 : c.ht < a.ht
      · obtain ⟨u, j, f, t, v, rfl⟩ := T.ht_pos (t := a) (by omega)
        have e1 : T.evenT l g x y (T.node (T.node u j f t v) k p q c) = .node (.node l g x y u) j f t (.node v k p q c) := by
          simp only [T.evenT, h1, h3, T.left, T.right, h2, ↓reduceIte, T.rotL, T.rotR]
        rw [e1]
        refine (even_right2 l u v c k j p q f t g x y h m s b root work w hR hwk hg hl hr hnd sl sr hy hn h3 h2).mono ?_
        rintro e w' ⟨e1, e2, e3, e4⟩
        exact ⟨e1, e2, ⟨_, e3, by omega, by omega⟩, e4⟩
      · have e1 : T.evenT l g x y (T.node a k p q c) = .node (.node l g x y a) k p q c := by
          simp only [T.evenT, h1, h3, T.left, T.right, h2, ↓reduceIte, T.rotL]
        rw [e1]
        refine (even_right l a c k p q g x y h m s b root work w hR hwk hg hl hr hnd sl sr hy hn h3 h2).mono ?_
        rintro e w' ⟨e1, e2, e3, e4⟩
        exact ⟨e1, e2, ⟨_, e3, by omega, by omega⟩, e4⟩
    · have e1 : T.evenT l g x y r = .node l g x y r := by simp only [T.evenT, h1, h3, ↓reduceIte]
      rw [e1]
      refine (even_flat l r g x y h m s b root work w hR hwk hg hl hr hnd sl sr hy hn h1 h3).mono ?_
      rintro e w' ⟨e1, e2, e3, e4⟩
      exact ⟨e1, e2, ⟨_, e3, by omega, by omega⟩, e4⟩
end Go.Proofs.YtfaihilehdjfjaaDoor
