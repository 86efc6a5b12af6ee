/- Contracts: package commonbookbig: the methods Add, IsUint64, Uint64. -/
import Derived.Test.YtfaihilehdjfjaaDoorBig3C
import Derived.Deep.DrawnRows
namespace Go.Proofs.YtfaihilehdjfjaaDoor
open Go.ChangeShapes Go.WideShapes Go.ChangeAt Go.RowKit
attribute [local go_sem ↓] Go.wp_at_zero Go.wp_at_succ

set_option maxRecDepth 20000 in
set_option maxHeartbeats 2000000 in
theorem sum_any (a b : List Nat) (hoa : Hid (okW a)) (hob : Hid (okW b)) (Da Db : Nat → Prop) (Aa Ab : Option Addr) (na nb ca cb : Nat) (hna : a.length = na) (hnb : b.length = nb) (hla : na ≤ 1000000) (hlb : nb ≤ 1000000)
    (w : World) (hra : Reads Da w 1 Aa na (u32C a)) (hrb : Reads Db w 1 Ab nb (u32C b)) (hDa : ∀ k, Da k → k < w.heap.size) (hDb : ∀ k, Db k → k < w.heap.size) :
    Calls Tryd.prog 162 #[.bool false, .slice Aa na ca, .bool false, .slice Ab nb cb] w fun e w' => ∃ A c, e = .returned (.tuple #[.bool false, .slice A (wd (valW a + valW b)).length c]) ∧ (wd (valW a + valW b)).length ≤ c ∧ Reads (fun k => w.heap.size ≤ k ∧ k < w'.heap.size) w' 1 A (wd (valW a + valW b)).length (u32C (wd (valW a + valW b))) ∧ Below w.heap.size w w' := by
  have HC := Lib.hid (add_any a b hoa hob Da Db Aa Ab na nb ca cb hna hnb hla hlb w hra hrb hDa hDb)
  clear hra hrb hDa hDb hna hnb
  go_enter Tryd.func162, Tryd.ntmps162
  go_wp2_with fail
  refine HC.out.mono ?_
  rintro e w1 ⟨A, c, rfl, hl, hr, hb⟩
  go_wp2_with fail
  go_ret2
  exact ⟨A, c, rfl, hl, hr, hb⟩

set_option maxRecDepth 20000 in
set_option maxHeartbeats 4000000 in
theorem addM_any (z x y m n : Nat) (D : Nat → Prop) (u v : Value) (w : World) (hx : IsInt w x m D) (hy : IsInt w y n D) (hz : Blk w z 188 #[u, v]) (hD : ∀ k, D k → k < w.heap.size) (hm : (wd m).length ≤ 1000000) (hn : (wd n).length ≤ 1000000) :
    Calls Tryd.prog 145 #[.pointer (some ⟨z, 0, none⟩), .pointer (some ⟨x, 0, none⟩), .pointer (some ⟨y, 0, none⟩)] w fun e w' => e = .returned (.pointer (some ⟨z, 0, none⟩)) ∧ IsInt w' z (m + n) (fun k => w.heap.size ≤ k ∧ k < w'.heap.size) ∧ Chg (fun k => k = z) w w' := by
  obtain ⟨A1, c1, hb1, hl1, hr1⟩ := hx
  obtain ⟨A2, c2, hb2, hl2, hr2⟩ := hy
  have x0 : w.cell? ⟨x, 0, none⟩ = some (.bool false) := hb1.cell 0
  have x1 : w.cell? ⟨x, 1, none⟩ = some (.slice A1 (wd m).length c1) := hb1.cell 1
  have y0 : w.cell? ⟨y, 0, none⟩ = some (.bool false) := hb2.cell 0
  have y1 : w.cell? ⟨y, 1, none⟩ = some (.slice A2 (wd n).length c2) := hb2.cell 1
  have hlx := hb1.lt
  have hly := hb2.lt
  have hlz := hz.lt
  have HR1 := Lib.hid hr1
  have HR2 := Lib.hid hr2
  have HD := Lib.hid hD
  have HV : Hid (valW (wd m) + valW (wd n) = m + n) := by show _ = _; rw [val_wd, val_wd]
  clear hr1 hr2 hD hb1 hb2
  go_enter Tryd.func145, Tryd.ntmps145
  go_wp2_with fail
  go_region_with (first | (go_at_call 162; refine (sum_any (wd m) (wd n) (Lib.hid (ok_wd m)) (Lib.hid (ok_wd n)) D D A1 A2 (wd m).length (wd n).length c1 c2 rfl rfl hm hn w.drew HR1.out HR2.out HD.out HD.out).mono ?_; rintro e w1 ⟨A3, c3, rfl, hl3, hr3, hbm⟩; have hbw : Below w.heap.size w w1 := (Below.refl _ w).drew.trans hbm) | (go_at_call 160; refine (give_any z u v A3 (wd (valW (wd m) + valW (wd n))).length c3 w1 (hz.keep (hbw.block z hlz))).mono ?_; rintro e w2 ⟨rfl, hb2, hc2⟩))
  all_goals
    go_wp2_with fail
    go_ret
    rw [HV.out] at hr3 hl3 hb2
    have hs1 : w.heap.size ≤ w1.heap.size := hbw.size
    have hs2 := hc2.size
    refine ⟨rfl, ⟨A3, c3, hb2, hl3, ?_⟩, (Chg.of_below hbw).trans hc2 (fun k _ h => h)⟩
    exact (hr3.keep (hc2.keeps fun k hk => ⟨hk.2, fun e => by have h1 : w.heap.size ≤ k := hk.1; omega⟩)).more fun k hk => ⟨hk.1, by have := hk.2; omega⟩
end Go.Proofs.YtfaihilehdjfjaaDoor
