/- Contracts: id.Parse: the id of a name. -/
import Derived.Test.YtfaihilehdjfjaaGreatDoorDigs
namespace Go.Proofs.YtfaihilehdjfjaaGreatDoor
open Go.ChangeShapes Go.WideShapes Go.ChangeAt Go.RowKit

def parEV : Option (Int × Int) → Value
  | none => .tuple #[.agg #[.int .i64 0, .int .i64 0], .iface 37 (.int .i64 2)]
  | some (a, b) => .tuple #[.agg #[.int .i64 a, .int .i64 b], .nilIface]

set_option maxRecDepth 100000 in
set_option maxHeartbeats 4000000 in
theorem parse_any (l : List UInt8) (hl : l.length ≤ 9223372036854775807) (w : World) :
    Calls Tryz.prog 12 #[.string ⟨l.toArray⟩] w fun e w' => e = .returned (parEV (parseL l)) ∧ Below w.heap.size w w' := by
  by_cases hr : l = [114, 111, 111, 116]
  · have HV : Hid (parseL l = some (0, 0)) := by show _ = _; rw [parseL, if_pos hr]
    subst hr
    go_enter Tryz.func12, Tryz.ntmps12
    go_wp2_with fail
    (try simp only [Exit.inBlock, Exit.then])
    refine bodyPost_ret (v := .tuple #[.agg #[.int .i64 0, .int .i64 0], .nilIface]) ?_ rfl ⟨by rw [HV.out]; rfl, (Below.refl _ w).alloc (Nat.le_refl _) _⟩
    have hres : Tryz.f12.results = #[.cell 2 23, .tmp 3] := by kernel_rfl
    simp only [results, hres]
    go_simp
  · have dr : (l == [114, 111, 111, 116]) = false := by simpa using hr
    have HP : Hid (parseL l = if realB (digL (l.take (posA l))) (digL (l.drop (posA l + 1))) then some (digL (l.take (posA l)), digL (l.drop (posA l + 1))) else none) := by
      show _ = _
      rw [parseL, if_neg hr]
    have CU := cutA_any l hl
    unfold cutV at CU
    have DN := digits'_any (l.take (posA l)) (by simp only [List.length_take]; omega)
    have DM := digits'_any (l.drop (posA l + 1)) (by simp only [List.length_drop]; omega)
    generalize l.take (posA l) = N at *
    generalize l.drop (posA l + 1) = M at *
    generalize decide (posA l < l.length) = d at *
    generalize digL N = a at *
    generalize digL M = b at *
    have HWB : Hid (Below w.heap.size w (w.alloc (.cells #[.int .i64 0, .int .i64 0] 23))) := (Below.refl _ w).alloc (Nat.le_refl _) _
    have HBR := Lib.hid (Blk.new w 23 #[.int .i64 0, .int .i64 0])
    clear hr
    cases hz : realB a b
    case' true =>
      have HV : Hid (parseL l = some (a, b)) := by show _ = _; rw [HP.out, if_pos hz]
    case' false =>
      have HV : Hid (parseL l = none) := by show _ = _; rw [HP.out, if_neg (by rw [hz]; simp)]
    all_goals
      have RR := real_any a b
      rw [hz] at RR
      clear hz HP
      go_enter Tryz.func12, Tryz.ntmps12
      go_wp2_with fail
      clear dr
      go_at_call 21
      refine (CU _).mono ?_
      rintro e w1 ⟨rfl, hb⟩
      have HB1 := Lib.hid (HWB.out.trans (hb.mono HWB.out.size))
      have HBR1 := Lib.hid (HBR.out.keep (hb.block _ HBR.out.lt))
      clear hb HWB HBR
      go_wp2_with fail
      go_at_call 22
      refine (DN _).mono ?_
      rintro e w2 ⟨rfl, hb⟩
      have HB2 := Lib.hid (HB1.out.trans (hb.mono HB1.out.size))
      have HBR2 := Lib.hid (HBR1.out.keep (hb.block _ HBR1.out.lt))
      clear hb HB1 HBR1
      go_wp2_with fail
      go_at_call 22
      refine (DM _).mono ?_
      rintro e w3 ⟨rfl, hb⟩
      have HB3 := Lib.hid (HB2.out.trans (hb.mono HB2.out.size))
      have HBR3 := Lib.hid (HBR2.out.keep (hb.block _ HBR2.out.lt))
      clear hb HB2 HBR2
      go_wp2_with fail
      go_at_call 17
      refine (RR _).mono ?_
      rintro e w4 ⟨rfl, hb⟩
      have HB4 : Hid (Below w.heap.size w w4) := (HB3.out.alloc HB3.out.size _).trans (hb.mono (by have := HB3.out.size; simp; omega))
      have BR : Blk w4 w.heap.size 23 #[.int .i64 0, .int .i64 0] := (HBR3.out.alloc _).keep (hb.block _ (by have := HBR3.out.lt; simp; omega))
      have BX : Blk w4 w3.heap.size 23 #[.int .i64 a, .int .i64 b] := (Blk.new w3 23 #[.int .i64 a, .int .i64 b]).keep (hb.block _ (by simp))
      have e0 : w4.cell? ⟨w3.heap.size, 0, none⟩ = some (.int .i64 a) := BX.cell 0
      have e1 : w4.cell? ⟨w3.heap.size, 1, none⟩ = some (.int .i64 b) := BX.cell 1
      have r0 : w4.cell? ⟨w.heap.size, 0, none⟩ = some (.int .i64 0) := BR.cell 0
      have r1 : w4.cell? ⟨w.heap.size, 1, none⟩ = some (.int .i64 0) := BR.cell 1
      have z0 := BR.frozen 0
      have z1 := BR.frozen 1
      clear BR BX hb HB3 HBR3 RR CU DN DM
      go_wp2_with fail
      (try simp only [Exit.inBlock, Exit.then])
      have hres : Tryz.f12.results = #[.cell 2 23, .tmp 3] := by kernel_rfl
      first
        | (refine bodyPost_ret (v := .tuple #[.agg #[.int .i64 a, .int .i64 b], .nilIface]) ?_ rfl ⟨by rw [HV.out]; rfl, (HB4.out.setCell (by simp) _).setCell (by simp) _⟩
           simp only [results, hres]
           go_simp)
        | (refine bodyPost_ret (v := .tuple #[.agg #[.int .i64 0, .int .i64 0], .iface 37 (.int .i64 2)]) ?_ rfl ⟨by rw [HV.out]; rfl, (HB4.out.setCell (by simp) _).setCell (by simp) _⟩
           simp only [results, hres]
           go_simp)
end Go.Proofs.YtfaihilehdjfjaaGreatDoor
