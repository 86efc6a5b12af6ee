/- Contracts: package commonbookbig: the methods Mul, Add, IsUint64, Uint64. -/
import Derived.Test.YtfaihilehdjfjaaDoorBig2C
import Derived.Deep.DrawnRows
namespace Go.Proofs.YtfaihilehdjfjaaDoor
open Go.ChangeShapes Go.WideShapes Go.ChangeAt Go.RowKit

attribute [local go_sem ↓] Go.wp_at_zero Go.wp_at_succ
theorem IsInt.lt {w : World} {z n : Nat} {D : Nat → Prop} (h : IsInt w z n D) : z < w.heap.size := by
  obtain ⟨A, c, h1, _⟩ := h
  exact h1.lt

theorem neg_kept {w w1 : World} {x : Nat} (hb : Below w.heap.size w w1) (hx : x < w.heap.size) (h : w.cell? ⟨x, 0, none⟩ = some (.bool false)) : w1.cell? ⟨x, 0, none⟩ = some (.bool false) := (hb.cell (p := ⟨x, 0, none⟩) hx).trans h
theorem neg_keep {w1 w2 : World} {x z : Nat} {v : Value} (hb : Blk w2 z 188 #[.bool false, v]) (hc : Chg (fun k => k = z) w1 w2) (h : w1.cell? ⟨x, 0, none⟩ = some (.bool false)) (hx : x < w1.heap.size) : w2.cell? ⟨x, 0, none⟩ = some (.bool false) := by
  by_cases e : x = z
  · subst e; exact hb.cell 0
  · exact (World.cell?_of_block (w := w1) (hc.block x hx e)).trans h

set_option maxRecDepth 20000 in
set_option maxHeartbeats 4000000 in
theorem mulM_any (z x y m n : Nat) (D : Nat → Prop) (u v : Value) (w : World) (hx : IsInt w x m D) (hy : IsInt w y n D) (hz : Blk w z 188 #[u, v]) (hD : ∀ k, D k → k < w.heap.size) (hm : (wd m).length ≤ 1000000) (hn : (wd n).length ≤ 1000000) :
    Calls Tryd.prog 144 #[.pointer (some ⟨z, 0, none⟩), .pointer (some ⟨x, 0, none⟩), .pointer (some ⟨y, 0, none⟩)] w fun e w' => e = .returned (.pointer (some ⟨z, 0, none⟩)) ∧ IsInt w' z (m * n) (fun k => w.heap.size ≤ k ∧ k < w'.heap.size) ∧ Chg (fun k => k = z) w w' := by
  obtain ⟨A1, c1, hb1, hl1, hr1⟩ := hx
  obtain ⟨A2, c2, hb2, hl2, hr2⟩ := hy
  have x0 : w.cell? ⟨x, 0, none⟩ = some (.bool false) := hb1.cell 0
  have x1 : w.cell? ⟨x, 1, none⟩ = some (.slice A1 (wd m).length c1) := hb1.cell 1
  have y0 : w.cell? ⟨y, 0, none⟩ = some (.bool false) := hb2.cell 0
  have y1 : w.cell? ⟨y, 1, none⟩ = some (.slice A2 (wd n).length c2) := hb2.cell 1
  have hlx := hb1.lt
  have hly := hb2.lt
  have hlz := hz.lt
  have HR1 := Lib.hid hr1
  have HR2 := Lib.hid hr2
  have HD := Lib.hid hD
  have HV : Hid (valW (wd m) * valW (wd n) = m * n) := by show _ = _; rw [val_wd, val_wd]
  clear hr1 hr2 hD hb1 hb2
  go_enter Tryd.func144, Tryd.ntmps144
  go_wp2_with fail
  go_region_with (first | (go_at_call 161; refine (mul_any (wd m) (wd n) (Lib.hid (ok_wd m)) (Lib.hid (ok_wd n)) D D A1 A2 (wd m).length (wd n).length c1 c2 rfl rfl hm hn w.drew HR1.out HR2.out HD.out HD.out).mono ?_; rintro e w1 ⟨A3, c3, rfl, hl3, hr3, hbm⟩; have hbw : Below w.heap.size w w1 := (Below.refl _ w).drew.trans hbm; have x0' := neg_kept hbw hlx x0; have y0' := neg_kept hbw hly y0) | (go_at_call 160; refine (give_any z u v A3 (wd (valW (wd m) * valW (wd n))).length c3 w1 (hz.keep (hbw.block z hlz))).mono ?_; rintro e w2 ⟨rfl, hb2, hc2⟩))
  all_goals
    go_wp2_with fail
    go_ret
    rw [HV.out] at hr3 hl3 hb2
    have hs1 : w.heap.size ≤ w1.heap.size := hbw.size
    have hs2 := hc2.size
    refine ⟨rfl, ⟨A3, c3, hb2, hl3, ?_⟩, (Chg.of_below hbw).trans hc2 (fun k _ h => h)⟩
    exact (hr3.keep (hc2.keeps fun k hk => ⟨hk.2, fun e => by have h1 : w.heap.size ≤ k := hk.1; omega⟩)).more fun k hk => ⟨hk.1, by have := hk.2; omega⟩
end Go.Proofs.YtfaihilehdjfjaaDoor
