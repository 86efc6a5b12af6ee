/- Contracts: package tree: a node's sides are made as high, nearly. -/
import Derived.Test.YtfaihilehdjfjaaDoorTree3
namespace Go.Proofs.YtfaihilehdjfjaaDoor
open Go.ChangeShapes Go.WideShapes Go.ChangeAt Go.RowKit

set_option maxHeartbeats 2000000 in
set_option maxRecDepth 20000 in
theorem even_flat (l r : T) (g : Nat) (x y h m s : Int) (b : Nat) (root : Value) (work : Nat) (w : World) (hR : RowAt w b root work) (hwk : work ≤ 999999990)
    (hg : RawN w g l r x y h m s) (hl : TreeAt w l) (hr : TreeAt w r) (hnd : (T.node l g x y r).ads.Nodup) (sl : T.small l) (sr : T.small r) (hy : 0 ≤ y ∧ y ≤ 1000000) (hn : T.cnt l + T.cnt r ≤ 199990) (h1 : ¬ r.ht + 1 < l.ht) (h2 : ¬ l.ht + 1 < r.ht) :
    Calls Tryd.prog 110 #[.pointer (some ⟨b, 0, none⟩), .pointer (some ⟨g, 0, none⟩)] w fun e w' =>
      e = .returned (.pointer (some ⟨g, 0, none⟩)) ∧ TreeAt w' (.node l g x y r) ∧ RowAt w' b root (work + 1) ∧ Chg (fun i => i = b ∨ i ∈ (T.node l g x y r).ads) w w' := by
  have H : Hid (RowAt w b root work ∧ RawN w g l r x y h m s ∧ TreeAt w l ∧ TreeAt w r) := ⟨hR, hg, hl, hr⟩
  have hbg : b ≠ g := Blk.ne_ hR hg (by decide)
  have hbl : b ∉ T.ads l := TreeAt.no_row hR hl
  have hbr : b ∉ T.ads r := TreeAt.no_row hR hr
  have hx1 := T.ht_le_cnt l
  have hx2 := T.ht_le_cnt r
  clear hR hg hl hr
  go_enter Tryd.func110, Tryd.ntmps110
  go_wp2_with fail
  go_at_call 71
  refine (look_any b root work w H.out.1 (by omega)).mono ?_
  rintro e w1 ⟨rfl, hR1, hC1⟩
  have H1 : Hid (RowAt w1 b root (work + 1) ∧ RawN w1 g l r x y h m s ∧ TreeAt w1 l ∧ TreeAt w1 r ∧ Chg (fun j => j = b) w w1) :=
    ⟨hR1, H.out.2.1.keep hC1 (fun e => hbg e.symm), H.out.2.2.1.chg hC1 (fun i hi e => hbl (e ▸ hi)), H.out.2.2.2.chg hC1 (fun i hi e => hbr (e ▸ hi)), hC1⟩
  have c0 : w1.cell? ⟨g, 0, none⟩ = some (T.ptr l) := H1.out.2.1.cell 0
  have c1 : w1.cell? ⟨g, 1, none⟩ = some (T.ptr r) := H1.out.2.1.cell 1
  have hm : IntKind.i64.wrap ((T.ht l : Int) - (T.ht r : Int)) = (T.ht l : Int) - (T.ht r : Int) := IntWalk.i64_in _ (by omega)
  clear hR1 hC1
  go_wp2_with fail
  refine wp_region_still_lit (by kernel_rfl) (by kernel_rfl) ?_
  repeat (refine wpStill_want rfl (fun K hK => ?_); go_simp; refine hK _ ?_; clear hK K)
  (refine wpStill_want rfl (fun K hK => ?_); go_simp; refine ⟨_, height_any l _ H1.out.2.2.1.drew_, hK _ ?_⟩; clear hK K)
  repeat (refine wpStill_want rfl (fun K hK => ?_); go_simp; refine hK _ ?_; clear hK K)
  (refine wpStill_want rfl (fun K hK => ?_); go_simp; refine ⟨_, height_any r _ H1.out.2.2.2.1.drew_, hK _ ?_⟩; clear hK K)
  repeat (refine wpStill_want rfl (fun K hK => ?_); go_simp; refine hK _ ?_; clear hK K)
  refine wpStill_nil ?_
  change Exit.then _ _ _ _ w1.drew
  have H2 : Hid (RowAt w1.drew b root (work + 1) ∧ RawN w1.drew g l r x y h m s ∧ TreeAt w1.drew l ∧ TreeAt w1.drew r ∧ Chg (fun j => j = b) w w1.drew) :=
    ⟨H1.out.1, H1.out.2.1, H1.out.2.2.1.drew_, H1.out.2.2.2.1.drew_, H1.out.2.2.2.2.drew⟩
  generalize w1.drew = w2 at H2 ⊢
  clear hm c0 c1 H1
  go_wp2_with fail
  obtain ⟨n1, n2, n3, n4, n5⟩ := T.nodup_node.mp hnd
  go_at_call 65
  refine (fix_any l r g x y h m s w2 H2.out.2.1 H2.out.2.2.1 H2.out.2.2.2.1 n1 n2 sl sr hy (by omega)).mono ?_
  rintro e w5 ⟨rfl, hT5, hC5⟩
  go_wp2_with fail
  go_ret
  exact ⟨rfl, hT5, H2.out.1.chg hC5 hbg, (H2.out.2.2.2.2.mono (fun i _ e => .inl e)).trans hC5 (fun i _ e => .inr (by subst e; exact List.mem_cons_self))⟩

set_option maxHeartbeats 2000000 in
set_option maxRecDepth 20000 in
theorem even_left (a c r : T) (k : Nat) (p q : Int) (g : Nat) (x y h m s : Int) (b : Nat) (root : Value) (work : Nat) (w : World) (hR : RowAt w b root work) (hwk : work ≤ 999999990)
    (hg : RawN w g (T.node a k p q c) r x y h m s) (hl : TreeAt w (T.node a k p q c)) (hr : TreeAt w r) (hnd : (T.node (T.node a k p q c) g x y r).ads.Nodup) (sl : T.small (T.node a k p q c)) (sr : T.small r) (hy : 0 ≤ y ∧ y ≤ 1000000) (hn : T.cnt (T.node a k p q c) + T.cnt r ≤ 199990) (h1 : r.ht + 1 < T.ht (T.node a k p q c)) (h2 : ¬ a.ht < c.ht) :
    Calls Tryd.prog 110 #[.pointer (some ⟨b, 0, none⟩), .pointer (some ⟨g, 0, none⟩)] w fun e w' =>
      e = .returned (.pointer (some ⟨k, 0, none⟩)) ∧ TreeAt w' (.node a k p q (.node c g x y r)) ∧ RowAt w' b root (work + 2) ∧ Chg (fun i => i = b ∨ i ∈ (T.node (T.node a k p q c) g x y r).ads) w w' := by
  have H : Hid (RowAt w b root work ∧ RawN w g (T.node a k p q c) r x y h m s ∧ TreeAt w (T.node a k p q c) ∧ TreeAt w r) := ⟨hR, hg, hl, hr⟩
  have hbg : b ≠ g := Blk.ne_ hR hg (by decide)
  have hbl : b ∉ T.ads (T.node a k p q c) := TreeAt.no_row hR hl
  have hbr : b ∉ T.ads r := TreeAt.no_row hR hr
  have hx1 := T.ht_le_cnt (T.node a k p q c)
  have hx2 := T.ht_le_cnt r
  clear hR hg hl hr
  go_enter Tryd.func110, Tryd.ntmps110
  go_wp2_with fail
  go_at_call 71
  refine (look_any b root work w H.out.1 (by omega)).mono ?_
  rintro e w1 ⟨rfl, hR1, hC1⟩
  have H1 : Hid (RowAt w1 b root (work + 1) ∧ RawN w1 g (T.node a k p q c) r x y h m s ∧ TreeAt w1 (T.node a k p q c) ∧ TreeAt w1 r ∧ Chg (fun j => j = b) w w1) :=
    ⟨hR1, H.out.2.1.keep hC1 (fun e => hbg e.symm), H.out.2.2.1.chg hC1 (fun i hi e => hbl (e ▸ hi)), H.out.2.2.2.chg hC1 (fun i hi e => hbr (e ▸ hi)), hC1⟩
  have c0 : w1.cell? ⟨g, 0, none⟩ = some (T.ptr (T.node a k p q c)) := H1.out.2.1.cell 0
  have c1 : w1.cell? ⟨g, 1, none⟩ = some (T.ptr r) := H1.out.2.1.cell 1
  have hm : IntKind.i64.wrap ((T.ht (T.node a k p q c) : Int) - (T.ht r : Int)) = (T.ht (T.node a k p q c) : Int) - (T.ht r : Int) := IntWalk.i64_in _ (by omega)
  clear hR1 hC1
  go_wp2_with fail
  refine wp_region_still_lit (by kernel_rfl) (by kernel_rfl) ?_
  repeat (refine wpStill_want rfl (fun K hK => ?_); go_simp; refine hK _ ?_; clear hK K)
  (refine wpStill_want rfl (fun K hK => ?_); go_simp; refine ⟨_, height_any (T.node a k p q c) _ H1.out.2.2.1.drew_, hK _ ?_⟩; clear hK K)
  repeat (refine wpStill_want rfl (fun K hK => ?_); go_simp; refine hK _ ?_; clear hK K)
  (refine wpStill_want rfl (fun K hK => ?_); go_simp; refine ⟨_, height_any r _ H1.out.2.2.2.1.drew_, hK _ ?_⟩; clear hK K)
  repeat (refine wpStill_want rfl (fun K hK => ?_); go_simp; refine hK _ ?_; clear hK K)
  refine wpStill_nil ?_
  change Exit.then _ _ _ _ w1.drew
  have H2 : Hid (RowAt w1.drew b root (work + 1) ∧ RawN w1.drew g (T.node a k p q c) r x y h m s ∧ TreeAt w1.drew (T.node a k p q c) ∧ TreeAt w1.drew r ∧ Chg (fun j => j = b) w w1.drew) :=
    ⟨H1.out.1, H1.out.2.1, H1.out.2.2.1.drew_, H1.out.2.2.2.1.drew_, H1.out.2.2.2.2.drew⟩
  generalize w1.drew = w2 at H2 ⊢
  clear hm c0 c1 H1
  generalize hN : (T.ht (T.node a k p q c) : Int) = hh at *
  have h1' : (T.ht r : Int) + 1 < hh := by omega
  have c0 : w2.cell? ⟨g, 0, none⟩ = some (.pointer (some ⟨k, 0, none⟩)) := H2.out.2.1.cell 0
  have c1 : w2.cell? ⟨k, 0, none⟩ = some (T.ptr a) := H2.out.2.2.1.1.cell 0
  have c2 : w2.cell? ⟨k, 1, none⟩ = some (T.ptr c) := H2.out.2.2.1.1.cell 1
  go_wp2_with fail
  refine wp_region_still_lit (by kernel_rfl) (by kernel_rfl) ?_
  repeat (refine wpStill_want rfl (fun K hK => ?_); go_simp; refine hK _ ?_; clear hK K)
  (refine wpStill_want rfl (fun K hK => ?_); go_simp; refine ⟨_, height_any a _ H2.out.2.2.1.2.1.drew_, hK _ ?_⟩; clear hK K)
  repeat (refine wpStill_want rfl (fun K hK => ?_); go_simp; refine hK _ ?_; clear hK K)
  (refine wpStill_want rfl (fun K hK => ?_); go_simp; refine ⟨_, height_any c _ H2.out.2.2.1.2.2.drew_, hK _ ?_⟩; clear hK K)
  repeat (refine wpStill_want rfl (fun K hK => ?_); go_simp; refine hK _ ?_; clear hK K)
  refine wpStill_nil ?_
  change Exit.then _ _ _ _ w2.drew
  have H3 : Hid (RowAt w2.drew b root (work + 1) ∧ RawN w2.drew g (T.node a k p q c) r x y h m s ∧ TreeAt w2.drew (T.node a k p q c) ∧ TreeAt w2.drew r ∧ Chg (fun j => j = b) w w2.drew) :=
    ⟨H2.out.1, H2.out.2.1, H2.out.2.2.1.drew_, H2.out.2.2.2.1.drew_, H2.out.2.2.2.2.drew⟩
  generalize w2.drew = w3 at H3 ⊢
  clear c0 c1 c2 H2
  go_wp2_with fail
  go_at_call 143
  refine (turnRight_any a c r k g p q x y h m s b root (work + 1) w3 H3.out.1 (by omega) H3.out.2.1 H3.out.2.2.1 H3.out.2.2.2.1 hnd sl sr hy (by omega)).mono ?_
  rintro e w4 ⟨rfl, hT, hR, hC⟩
  go_wp2_with fail
  go_ret
  refine ⟨rfl, hT, hR, (H3.out.2.2.2.2.mono (fun i _ e => .inl e)).trans hC (fun i _ e => ?_)⟩
  rcases e with e | e | e
  · exact .inl e
  · exact .inr (by simp [T.ads, e])
  · exact .inr (by simp [T.ads, e])

set_option maxHeartbeats 2000000 in
set_option maxRecDepth 20000 in
theorem even_left2 (a u v r : T) (k j : Nat) (p q f t : Int) (g : Nat) (x y h m s : Int) (b : Nat) (root : Value) (work : Nat) (w : World) (hR : RowAt w b root work) (hwk : work ≤ 999999990)
    (hg : RawN w g (T.node a k p q (T.node u j f t v)) r x y h m s) (hl : TreeAt w (T.node a k p q (T.node u j f t v))) (hr : TreeAt w r) (hnd : (T.node (T.node a k p q (T.node u j f t v)) g x y r).ads.Nodup) (sl : T.small (T.node a k p q (T.node u j f t v))) (sr : T.small r) (hy : 0 ≤ y ∧ y ≤ 1000000) (hn : T.cnt (T.node a k p q (T.node u j f t v)) + T.cnt r ≤ 199990) (h1 : r.ht + 1 < T.ht (T.node a k p q (T.node u j f t v))) (h2 : a.ht < T.ht (T.node u j f t v)) :
    Calls Tryd.prog 110 #[.pointer (some ⟨b, 0, none⟩), .pointer (some ⟨g, 0, none⟩)] w fun e w' =>
      e = .returned (.pointer (some ⟨j, 0, none⟩)) ∧ TreeAt w' (.node (.node a k p q u) j f t (.node v g x y r)) ∧ RowAt w' b root (work + 3) ∧ Chg (fun i => i = b ∨ i ∈ (T.node (T.node a k p q (T.node u j f t v)) g x y r).ads) w w' := by
  have H : Hid (RowAt w b root work ∧ RawN w g (T.node a k p q (T.node u j f t v)) r x y h m s ∧ TreeAt w (T.node a k p q (T.node u j f t v)) ∧ TreeAt w r) := ⟨hR, hg, hl, hr⟩
  have hbg : b ≠ g := Blk.ne_ hR hg (by decide)
  have hbl : b ∉ T.ads (T.node a k p q (T.node u j f t v)) := TreeAt.no_row hR hl
  have hbr : b ∉ T.ads r := TreeAt.no_row hR hr
  have hx1 := T.ht_le_cnt (T.node a k p q (T.node u j f t v))
  have hx2 := T.ht_le_cnt r
  clear hR hg hl hr
  go_enter Tryd.func110, Tryd.ntmps110
  go_wp2_with fail
  go_at_call 71
  refine (look_any b root work w H.out.1 (by omega)).mono ?_
  rintro e w1 ⟨rfl, hR1, hC1⟩
  have H1 : Hid (RowAt w1 b root (work + 1) ∧ RawN w1 g (T.node a k p q (T.node u j f t v)) r x y h m s ∧ TreeAt w1 (T.node a k p q (T.node u j f t v)) ∧ TreeAt w1 r ∧ Chg (fun j => j = b) w w1) :=
    ⟨hR1, H.out.2.1.keep hC1 (fun e => hbg e.symm), H.out.2.2.1.chg hC1 (fun i hi e => hbl (e ▸ hi)), H.out.2.2.2.chg hC1 (fun i hi e => hbr (e ▸ hi)), hC1⟩
  have c0 : w1.cell? ⟨g, 0, none⟩ = some (T.ptr (T.node a k p q (T.node u j f t v))) := H1.out.2.1.cell 0
  have c1 : w1.cell? ⟨g, 1, none⟩ = some (T.ptr r) := H1.out.2.1.cell 1
  have hm : IntKind.i64.wrap ((T.ht (T.node a k p q (T.node u j f t v)) : Int) - (T.ht r : Int)) = (T.ht (T.node a k p q (T.node u j f t v)) : Int) - (T.ht r : Int) := IntWalk.i64_in _ (by omega)
  clear hR1 hC1
  go_wp2_with fail
  refine wp_region_still_lit (by kernel_rfl) (by kernel_rfl) ?_
  repeat (refine wpStill_want rfl (fun K hK => ?_); go_simp; refine hK _ ?_; clear hK K)
  (refine wpStill_want rfl (fun K hK => ?_); go_simp; refine ⟨_, height_any (T.node a k p q (T.node u j f t v)) _ H1.out.2.2.1.drew_, hK _ ?_⟩; clear hK K)
  repeat (refine wpStill_want rfl (fun K hK => ?_); go_simp; refine hK _ ?_; clear hK K)
  (refine wpStill_want rfl (fun K hK => ?_); go_simp; refine ⟨_, height_any r _ H1.out.2.2.2.1.drew_, hK _ ?_⟩; clear hK K)
  repeat (refine wpStill_want rfl (fun K hK => ?_); go_simp; refine hK _ ?_; clear hK K)
  refine wpStill_nil ?_
  change Exit.then _ _ _ _ w1.drew
  have H2 : Hid (RowAt w1.drew b root (work + 1) ∧ RawN w1.drew g (T.node a k p q (T.node u j f t v)) r x y h m s ∧ TreeAt w1.drew (T.node a k p q (T.node u j f t v)) ∧ TreeAt w1.drew r ∧ Chg (fun j => j = b) w w1.drew) :=
    ⟨H1.out.1, H1.out.2.1, H1.out.2.2.1.drew_, H1.out.2.2.2.1.drew_, H1.out.2.2.2.2.drew⟩
  generalize w1.drew = w2 at H2 ⊢
  clear hm c0 c1 H1
  generalize hN : (T.ht (T.node a k p q (T.node u j f t v)) : Int) = hh at *
  have h1' : (T.ht r : Int) + 1 < hh := by omega
  have c0 : w2.cell? ⟨g, 0, none⟩ = some (.pointer (some ⟨k, 0, none⟩)) := H2.out.2.1.cell 0
  have c1 : w2.cell? ⟨k, 0, none⟩ = some (T.ptr a) := H2.out.2.2.1.1.cell 0
  have c2 : w2.cell? ⟨k, 1, none⟩ = some (T.ptr (T.node u j f t v)) := H2.out.2.2.1.1.cell 1
  go_wp2_with fail
  refine wp_region_still_lit (by kernel_rfl) (by kernel_rfl) ?_
  repeat (refine wpStill_want rfl (fun K hK => ?_); go_simp; refine hK _ ?_; clear hK K)
  (refine wpStill_want rfl (fun K hK => ?_); go_simp; refine ⟨_, height_any a _ H2.out.2.2.1.2.1.drew_, hK _ ?_⟩; clear hK K)
  repeat (refine wpStill_want rfl (fun K hK => ?_); go_simp; refine hK _ ?_; clear hK K)
  (refine wpStill_want rfl (fun K hK => ?_); go_simp; refine ⟨_, height_any (T.node u j f t v) _ H2.out.2.2.1.2.2.drew_, hK _ ?_⟩; clear hK K)
  repeat (refine wpStill_want rfl (fun K hK => ?_); go_simp; refine hK _ ?_; clear hK K)
  refine wpStill_nil ?_
  change Exit.then _ _ _ _ w2.drew
  have H3 : Hid (RowAt w2.drew b root (work + 1) ∧ RawN w2.drew g (T.node a k p q (T.node u j f t v)) r x y h m s ∧ TreeAt w2.drew (T.node a k p q (T.node u j f t v)) ∧ TreeAt w2.drew r ∧ Chg (fun j => j = b) w w2.drew) :=
    ⟨H2.out.1, H2.out.2.1, H2.out.2.2.1.drew_, H2.out.2.2.2.1.drew_, H2.out.2.2.2.2.drew⟩
  generalize w2.drew = w3 at H3 ⊢
  have f0 : w3.frozen? ⟨g, 0, none⟩ = false := H3.out.2.1.frozen 0
  have c0 : w3.cell? ⟨g, 0, none⟩ = some (.pointer (some ⟨k, 0, none⟩)) := H3.out.2.1.cell 0
  clear H2
  obtain ⟨n1, n2, n3, n4, n5⟩ := T.nodup_node.mp hnd
  obtain ⟨m1, m2, m3, m4, m5⟩ := T.nodup_node.mp n3
  obtain ⟨o1, o2, o3, o4, o5⟩ := T.nodup_node.mp m4
  have kb : b ≠ k := fun e => hbl (by simp [T.ads, e])
  have jb : b ≠ j := fun e => hbl (by simp [T.ads, e])
  have gk : g ≠ k := fun e => n1 (by simp [T.ads, e])
  have gj : g ≠ j := fun e => n1 (by simp [T.ads, e])
  go_wp2_with fail
  go_at_call 142
  refine (turnLeft_any a u v j k f t p q _ _ _ b root (work + 1) w3 H3.out.1 (by omega) H3.out.2.2.1.1 H3.out.2.2.1.2.1 H3.out.2.2.1.2.2 n3 sl.1 sl.2.1 sl.2.2 (by simp only [T.cnt] at hn ⊢; omega)).mono ?_
  rintro e w4 ⟨rfl, hT, hR, hC⟩
  have H4 : Hid (RowAt w4 b root (work + 2) ∧ RawN w4 g (T.node a k p q (T.node u j f t v)) r x y h m s ∧ TreeAt w4 (.node (.node a k p q u) j f t v) ∧ TreeAt w4 r ∧ Chg (fun i => i = b ∨ i = k ∨ i = j) w w4) :=
    ⟨hR, H3.out.2.1.keep hC (fun e => e.elim (fun e => hbg e.symm) (fun e => e.elim gk gj)), hT, H3.out.2.2.2.1.chg hC (fun i hi e => e.elim (fun e => hbr (e ▸ hi)) (fun e => e.elim (fun e => n5 k (by simp [T.ads]) (e ▸ hi)) (fun e => n5 j (by simp [T.ads]) (e ▸ hi)))), (H3.out.2.2.2.2.mono (fun i _ e => .inl e)).trans hC (fun i _ e => e)⟩
  clear c0 f0 hT hR H3
  have f0 : w4.frozen? ⟨g, 0, none⟩ = false := H4.out.2.1.frozen 0
  have c0 : w4.cell? ⟨g, 0, none⟩ = some (.pointer (some ⟨k, 0, none⟩)) := H4.out.2.1.cell 0
  clear hC
  go_wp2_with fail
  have hnn : (T.node (.node (.node a k p q u) j f t v) g x y r).ads.Nodup := (List.Perm.nodup_iff (show ((T.node (.node (.node a k p q u) j f t v) g x y r).ads).Perm (T.node (T.node a k p q (T.node u j f t v)) g x y r).ads from List.Perm.cons _ (List.Perm.append_right _ (T.perm_rotL (T.node a k p q (T.node u j f t v)))))).mpr hnd
  have hg4 : g ∉ (T.node (.node a k p q u) j f t v).ads := (T.nodup_node.mp hnn).1
  have hC4 : Chg (fun i => i = g) w4 (w4.setCell ⟨g, 0, none⟩ (.pointer (some ⟨j, 0, none⟩))) := Chg.put g 0 _
  have H5 : Hid (RowAt (w4.setCell ⟨g, 0, none⟩ (.pointer (some ⟨j, 0, none⟩))) b root (work + 2) ∧ RawN (w4.setCell ⟨g, 0, none⟩ (.pointer (some ⟨j, 0, none⟩))) g (.node (.node a k p q u) j f t v) r x y h m s ∧ TreeAt (w4.setCell ⟨g, 0, none⟩ (.pointer (some ⟨j, 0, none⟩))) (.node (.node a k p q u) j f t v) ∧ TreeAt (w4.setCell ⟨g, 0, none⟩ (.pointer (some ⟨j, 0, none⟩))) r ∧ Chg (fun i => i = b ∨ i = k ∨ i = j ∨ i = g) w (w4.setCell ⟨g, 0, none⟩ (.pointer (some ⟨j, 0, none⟩)))) :=
    ⟨H4.out.1.chg hC4 hbg, H4.out.2.1.put0 (.node (.node a k p q u) j f t v), H4.out.2.2.1.put hg4 _ _, H4.out.2.2.2.1.put n2 _ _, (H4.out.2.2.2.2.mono (fun i _ e => e.elim .inl (fun e => e.elim (fun e => .inr (.inl e)) (fun e => .inr (.inr (.inl e)))))).trans hC4 (fun i _ e => .inr (.inr (.inr e)))⟩
  generalize w4.setCell ⟨g, 0, none⟩ (.pointer (some ⟨j, 0, none⟩)) = w5 at H5 ⊢
  clear hC4 c0 f0 H4
  go_at_call 143
  refine (turnRight_any (.node a k p q u) v r j g f t x y h m s b root (work + 2) w5 H5.out.1 (by omega) H5.out.2.1 H5.out.2.2.1 H5.out.2.2.2.1 hnn ⟨⟨sl.1, sl.2.1.1, sl.2.2⟩, sl.2.1.2.1, sl.2.1.2.2⟩ sr hy (by simp only [T.cnt] at hn ⊢; omega)).mono ?_
  rintro e w6 ⟨rfl, hT, hR, hC⟩
  go_wp2_with fail
  go_ret
  refine ⟨rfl, hT, hR, (H5.out.2.2.2.2.mono ?_).trans hC ?_⟩
  · rintro i _ (e | e | e | e)
    · exact .inl e
    all_goals exact .inr (by simp [T.ads, e])
  · rintro i _ (e | e | e)
    · exact .inl e
    all_goals exact .inr (by simp [T.ads, e])

end Go.Proofs.YtfaihilehdjfjaaDoor
