/- Contracts: package tree: a node is added up anew. -/
import Derived.Test.YtfaihilehdjfjaaDoorTree1
namespace Go.Proofs.YtfaihilehdjfjaaDoor
open Go.ChangeShapes Go.WideShapes Go.ChangeAt Go.RowKit

theorem TreeAt.put {w : World} {g : Nat} {t : T} (h : TreeAt w t) (hg : g ∉ t.ads) (i : Nat) (u : Value) : TreeAt (w.setCell ⟨g, i, none⟩ u) t :=
  h.keep fun k hk => Below.heap_setCell w _ _ k (by rintro rfl; exact hg hk)
theorem TreeAt.drew_ {w : World} {t : T} (h : TreeAt w t) : TreeAt w.drew t := h.keep fun _ _ => rfl
theorem TreeAt.drewN {w : World} {t : T} (h : TreeAt w t) (n : Nat) : TreeAt (w.drewN n) t := h.keep fun _ _ => rfl

structure FixW (w W : World) (g : Nat) (l r : T) (x y h m a : Int) : Prop where
  raw : RawN W g l r x y h m a
  left : TreeAt W l
  right : TreeAt W r
  chg : Chg (fun j => j = g) w W
section
variable {w W : World} {g : Nat} {l r : T} {x y h m a : Int}
theorem FixW.drew (F : FixW w W g l r x y h m a) : FixW w W.drew g l r x y h m a := ⟨F.raw, F.left.drew_, F.right.drew_, F.chg.drew⟩
theorem FixW.put4 (F : FixW w W g l r x y h m a) (gl : g ∉ l.ads) (gr : g ∉ r.ads) (v : Int) : FixW w (W.setCell ⟨g, 4, none⟩ (.int .i64 v)) g l r x y v m a :=
  ⟨by have := Blk.set_ F.raw 4 (.int .i64 v); simpa [RawN, cellsN] using this, F.left.put gl _ _, F.right.put gr _ _, F.chg.put_ _ _⟩
theorem FixW.put5 (F : FixW w W g l r x y h m a) (gl : g ∉ l.ads) (gr : g ∉ r.ads) (v : Int) : FixW w (W.setCell ⟨g, 5, none⟩ (.int .i64 v)) g l r x y h v a :=
  ⟨by have := Blk.set_ F.raw 5 (.int .i64 v); simpa [RawN, cellsN] using this, F.left.put gl _ _, F.right.put gr _ _, F.chg.put_ _ _⟩
theorem FixW.put6 (F : FixW w W g l r x y h m a) (gl : g ∉ l.ads) (gr : g ∉ r.ads) (v : Int) : FixW w (W.setCell ⟨g, 6, none⟩ (.int .i64 v)) g l r x y h m v :=
  ⟨by have := Blk.set_ F.raw 6 (.int .i64 v); simpa [RawN, cellsN] using this, F.left.put gl _ _, F.right.put gr _ _, F.chg.put_ _ _⟩
end
set_option maxHeartbeats 2000000 in
set_option maxRecDepth 20000 in
theorem fix_any (l r : T) (g : Nat) (x y h m a : Int) (w : World) (hb : RawN w g l r x y h m a) (hl : TreeAt w l) (hr : TreeAt w r) (gl : g ∉ l.ads) (gr : g ∉ r.ads)
    (sl : l.small) (sr : r.small) (hy : 0 ≤ y ∧ y ≤ 1000000) (hn : l.cnt + r.cnt ≤ 200000) :
    Calls Tryd.prog 65 #[.pointer (some ⟨g, 0, none⟩)] w fun e w' => e = .returned (.pointer (some ⟨g, 0, none⟩)) ∧ TreeAt w' (.node l g x y r) ∧ Chg (fun j => j = g) w w' := by
  have hh1 := T.ht_le_cnt l
  have hh2 := T.ht_le_cnt r
  have hw1 := T.wid_le sl
  have hw2 := T.wid_le sr
  have F0 : Hid (FixW w w g l r x y h m a) := ⟨hb, hl, hr, Chg.refl w⟩
  have c0 : w.cell? ⟨g, 0, none⟩ = some l.ptr := hb.cell 0
  have c1 : w.cell? ⟨g, 1, none⟩ = some r.ptr := hb.cell 1
  clear hb hl hr sl sr
  go_enter Tryd.func65, Tryd.ntmps65
  go_wp2_with fail
  have f4 : w.drew.frozen? ⟨g, 4, none⟩ = false := F0.out.raw.frozen 4
  have c4 : w.drew.cell? ⟨g, 4, none⟩ = some (.int .i64 h) := F0.out.raw.cell 4
  have hm : IntKind.i64.wrap (1 + if l.ht < r.ht then (r.ht : Int) else l.ht) = ((T.node l g x y r).ht : Int) := by
    rw [IntWalk.i64_in _ (by split <;> omega)]
    simp only [T.ht]
    split <;> omega
  generalize hH : ((T.node l g x y r).ht : Int) = H at hm
  refine wp_region_still_tail 15 (by kernel_rfl) (by kernel_rfl) ?_
  simp only [List.take_succ_cons, List.take_zero, List.drop_succ_cons, List.drop_zero]
  repeat (refine wpStill_want rfl (fun K hK => ?_); go_simp; refine hK _ ?_; clear hK K)
  (refine wpStill_want rfl (fun K hK => ?_); go_simp; refine ⟨_, height_any l _ F0.out.drew.left, hK _ ?_⟩; clear hK K)
  repeat (refine wpStill_want rfl (fun K hK => ?_); go_simp; refine hK _ ?_; clear hK K)
  (refine wpStill_want rfl (fun K hK => ?_); go_simp; refine ⟨_, height_any r _ F0.out.drew.right, hK _ ?_⟩; clear hK K)
  repeat (refine wpStill_want rfl (fun K hK => ?_); go_simp; refine hK _ ?_; clear hK K)
  refine wpStill_nil ?_
  generalize (if l.ht < r.ht then (r.ht : Int) else l.ht) = mx
  change wpList _ _ _ _ _ w.drew
  have F1 : Hid (FixW w (w.drew.setCell ⟨g, 4, none⟩ (.int .i64 H)) g l r x y H m a) := F0.out.drew.put4 gl gr H
  clear hm c0 c1
  generalize w.drew = w1 at F1 f4 c4 ⊢
  go_wp2_with fail
  generalize w1.setCell ⟨g, 4, none⟩ (.int .i64 H) = w1 at F1 ⊢
  clear f4 c4
  have c0 : w1.cell? ⟨g, 0, none⟩ = some l.ptr := F1.out.raw.cell 0
  have c1 : w1.cell? ⟨g, 1, none⟩ = some r.ptr := F1.out.raw.cell 1
  have f5 : w1.drew.frozen? ⟨g, 5, none⟩ = false := F1.out.raw.frozen 5
  have c5 : w1.drew.cell? ⟨g, 5, none⟩ = some (.int .i64 m) := F1.out.raw.cell 5
  have hm1 : IntKind.i64.wrap (1 + (l.cnt : Int)) = 1 + (l.cnt : Int) := IntWalk.i64_in _ (by omega)
  have hm2 : IntKind.i64.wrap (1 + (l.cnt : Int) + r.cnt) = ((T.node l g x y r).cnt : Int) := by
    rw [IntWalk.i64_in _ (by omega)]
    simp only [T.cnt]
    omega
  generalize hM : ((T.node l g x y r).cnt : Int) = M at hm2
  refine wp_region_still_tail 15 (by kernel_rfl) (by kernel_rfl) ?_
  simp only [List.take_succ_cons, List.take_zero, List.drop_succ_cons, List.drop_zero]
  repeat (refine wpStill_want rfl (fun K hK => ?_); go_simp; refine hK _ ?_; clear hK K)
  (refine wpStill_want rfl (fun K hK => ?_); go_simp; refine ⟨_, count_any l _ F1.out.drew.left, hK _ ?_⟩; clear hK K)
  repeat (refine wpStill_want rfl (fun K hK => ?_); go_simp; refine hK _ ?_; clear hK K)
  (refine wpStill_want rfl (fun K hK => ?_); go_simp; refine ⟨_, count_any r _ F1.out.drew.right, hK _ ?_⟩; clear hK K)
  repeat (refine wpStill_want rfl (fun K hK => ?_); go_simp; refine hK _ ?_; clear hK K)
  refine wpStill_nil ?_
  change wpList _ _ _ _ _ w1.drew
  have F2 : Hid (FixW w (w1.drew.setCell ⟨g, 5, none⟩ (.int .i64 M)) g l r x y H M a) := F1.out.drew.put5 gl gr M
  clear hm1 hm2 c0 c1 F1
  generalize w1.drew = w2 at F2 f5 c5 ⊢
  go_wp2_with fail
  generalize w2.setCell ⟨g, 5, none⟩ (.int .i64 M) = w2 at F2 ⊢
  clear f5 c5
  have c0 : w2.cell? ⟨g, 0, none⟩ = some l.ptr := F2.out.raw.cell 0
  have c1 : w2.cell? ⟨g, 1, none⟩ = some r.ptr := F2.out.raw.cell 1
  have c3 : w2.cell? ⟨g, 3, none⟩ = some (.int .i64 y) := F2.out.raw.cell 3
  have f6 : w2.drew.frozen? ⟨g, 6, none⟩ = false := F2.out.raw.frozen 6
  have c6 : w2.drew.cell? ⟨g, 6, none⟩ = some (.int .i64 a) := F2.out.raw.cell 6
  have hm1 : IntKind.i64.wrap (y + l.wid) = y + l.wid := IntWalk.i64_in _ (by omega)
  have hm2 : IntKind.i64.wrap (y + l.wid + r.wid) = (T.node l g x y r).wid := by
    rw [IntWalk.i64_in _ (by omega)]
    simp only [T.wid]
  generalize hA : (T.node l g x y r).wid = A at hm2
  refine wp_region_still_tail 19 (by kernel_rfl) (by kernel_rfl) ?_
  simp only [List.take_succ_cons, List.take_zero, List.drop_succ_cons, List.drop_zero]
  repeat (refine wpStill_want rfl (fun K hK => ?_); go_simp; refine hK _ ?_; clear hK K)
  (refine wpStill_want rfl (fun K hK => ?_); go_simp; refine ⟨_, width_any l _ F2.out.drew.left, hK _ ?_⟩; clear hK K)
  repeat (refine wpStill_want rfl (fun K hK => ?_); go_simp; refine hK _ ?_; clear hK K)
  (refine wpStill_want rfl (fun K hK => ?_); go_simp; refine ⟨_, width_any r _ F2.out.drew.right, hK _ ?_⟩; clear hK K)
  repeat (refine wpStill_want rfl (fun K hK => ?_); go_simp; refine hK _ ?_; clear hK K)
  refine wpStill_nil ?_
  change wpList _ _ _ _ _ w2.drew
  have F3 : Hid (FixW w (w2.drew.setCell ⟨g, 6, none⟩ (.int .i64 A)) g l r x y H M A) := F2.out.drew.put6 gl gr A
  clear hm1 hm2 c0 c1 c3 F2
  generalize w2.drew = w3 at F3 f6 c6 ⊢
  go_wp2_with fail
  go_ret
  refine ⟨rfl, ⟨?_, F3.out.left, F3.out.right⟩, F3.out.chg⟩
  rw [hH, hM, hA]
  exact F3.out.raw
end Go.Proofs.YtfaihilehdjfjaaDoor
