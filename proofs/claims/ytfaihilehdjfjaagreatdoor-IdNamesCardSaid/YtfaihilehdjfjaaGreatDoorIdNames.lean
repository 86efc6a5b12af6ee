/- The law IdNames: walked. -/
import Derived.Test.YtfaihilehdjfjaaGreatDoorParse
import Derived.Test.YtfaihilehdjfjaaGreatDoorNameN
import Derived.Test.YtfaihilehdjfjaaGreatDoorAs
import Derived.Test.YtfaihilehdjfjaaGreatDoorLessN
namespace Go.Proofs.YtfaihilehdjfjaaGreatDoor
open Go.ChangeShapes Go.WideShapes Go.ChangeAt Go.RowKit

theorem told0 (w : World) (hE : ErrT w) : Calls Tryz.prog 8 #[.nilIface, .int .i64 0] w fun e w' => e = .returned (.bool true) ∧ Below w.heap.size w w' := same_error 0 0 w hE
theorem told1 (w : World) (hE : ErrT w) : Calls Tryz.prog 8 #[.iface 37 (.int .i64 1), .int .i64 1] w fun e w' => e = .returned (.bool true) ∧ Below w.heap.size w w' := same_error 1 1 w hE
theorem told2 (w : World) (hE : ErrT w) : Calls Tryz.prog 8 #[.iface 37 (.int .i64 2), .int .i64 2] w fun e w' => e = .returned (.bool true) ∧ Below w.heap.size w w' := same_error 2 2 w hE
theorem less_dec (a b c d : Int) : decide (cmp2 a b c d < 0) = lessB a b c d := by
  rw [cmp2_less]
  cases lessB a b c d
  · cases lessB c d a b <;> rfl
  · rfl
theorem less_any (a b c d : Int) (w : World) : Calls Tryz.prog 9 #[.agg #[.int .i64 a, .int .i64 b], .agg #[.int .i64 c, .int .i64 d]] w fun e w' => e = .returned (.bool (lessB a b c d)) ∧ Below w.heap.size w w' := by
  have HV : Hid (decide (cmp2 a b c d < 0) = lessB a b c d) := less_dec a b c d
  have IC := idCompare_any a b c d
  generalize cmp2 a b c d = x at *
  go_enter Tryz.func9, Tryz.ntmps9
  go_wp2_with fail
  go_at_call 19
  refine (IC _).mono ?_
  rintro e w1 ⟨rfl, hb⟩
  go_wp2_with fail
  go_ret
  exact ⟨ret_bool HV.out, (((Below.refl _ w).alloc (Nat.le_refl _) _).alloc (by simp) _).trans (hb.mono (by simp; omega))⟩

set_option maxHeartbeats 8000000 in
set_option maxRecDepth 20000 in
theorem idNames_walk (a b c d : Int) (l : List UInt8) (ha : I64 a) (hb : I64 b) (hl : l.length ≤ 9223372036854775807) (w : World) (hE : ErrT w) (hT : PowT w) :
    Calls Tryz.prog 3 #[.agg #[.int .i64 a, .int .i64 b], .agg #[.int .i64 c, .int .i64 d], .string ⟨l.toArray⟩] w fun e w' => e = .returned (.bool true) ∧ Below w.heap.size w w' := by
  have HET := Lib.hid hE
  have HPT := Lib.hid hT
  have RI := refId_any a b
  have CI := idCheck_any a b
  have LR := refLess_any a b c d
  have LI := less_any a b c d
  have PR := refParse_any l hl
  have PI := parse_any l hl
  have HW := Lib.hid (((Below.refl _ w).alloc (Nat.le_refl _) (.cells #[.int .i64 a, .int .i64 b] 23)).alloc (by simp) (.cells #[.int .i64 c, .int .i64 d] 23))
  have HBA := Lib.hid ((Blk.new w 23 #[.int .i64 a, .int .i64 b]).alloc (.cells #[.int .i64 c, .int .i64 d] 23))
  have HBB : Hid (Blk ((w.alloc (.cells #[.int .i64 a, .int .i64 b] 23)).alloc (.cells #[.int .i64 c, .int .i64 d] 23)) (w.heap.size + 1) 23 #[.int .i64 c, .int .i64 d]) := by
    have h := Blk.new (w.alloc (.cells #[.int .i64 a, .int .i64 b] 23)) 23 #[.int .i64 c, .int .i64 d]
    rw [show (w.alloc (.cells #[.int .i64 a, .int .i64 b] 23)).heap.size = w.heap.size + 1 from by simp] at h
    exact h
  have NA := fun w' hT' => name_any a b ha hb w' hT'
  have NR := refName_any a b ha hb
  generalize lessB a b c d = ls at LR LI
  generalize nameS a b = S at NA NR
  clear hE hT hl
  cases hx : idB a b
  case' false =>
    rw [hx] at RI CI
    rw [rangeUnless_false rfl] at CI
    clear hx ha hb NA NR
    go_enter Tryz.func3, Tryz.ntmps3
    go_wp2_with fail
    go_at_call 4
    refine (RI _).mono ?_
    rintro e w1 ⟨rfl, hb⟩
    replace HBA := Lib.hid (HBA.out.keep (hb.block _ HBA.out.lt))
    replace HBB := Lib.hid (HBB.out.keep (hb.block _ HBB.out.lt))
    replace HW := Lib.hid (HW.out.trans (hb.mono HW.out.size))
    clear hb
    try clear c0 c1 d0 d1
    have c0 : w1.cell? ⟨w.heap.size, 0, none⟩ = some (.int .i64 a) := HBA.out.cell 0
    have c1 : w1.cell? ⟨w.heap.size, 1, none⟩ = some (.int .i64 b) := HBA.out.cell 1
    have d0 : w1.cell? ⟨w.heap.size + 1, 0, none⟩ = some (.int .i64 c) := HBB.out.cell 0
    have d1 : w1.cell? ⟨w.heap.size + 1, 1, none⟩ = some (.int .i64 d) := HBB.out.cell 1
    go_wp2_with fail
    go_at_call 7
    refine (CI _).mono ?_
    rintro e w4 ⟨rfl, hb⟩
    replace HBA := Lib.hid (HBA.out.keep (hb.block _ HBA.out.lt))
    replace HBB := Lib.hid (HBB.out.keep (hb.block _ HBB.out.lt))
    replace HW := Lib.hid (HW.out.trans (hb.mono HW.out.size))
    clear hb
    try clear c0 c1 d0 d1
    have c0 : w4.cell? ⟨w.heap.size, 0, none⟩ = some (.int .i64 a) := HBA.out.cell 0
    have c1 : w4.cell? ⟨w.heap.size, 1, none⟩ = some (.int .i64 b) := HBA.out.cell 1
    have d0 : w4.cell? ⟨w.heap.size + 1, 0, none⟩ = some (.int .i64 c) := HBB.out.cell 0
    have d1 : w4.cell? ⟨w.heap.size + 1, 1, none⟩ = some (.int .i64 d) := HBB.out.cell 1
    go_wp2_with fail
    go_at_call 8
    refine (told1 _ (HET.out.keep HW.out)).mono ?_
    rintro e w5 ⟨rfl, hb⟩
    replace HBA := Lib.hid (HBA.out.keep (hb.block _ HBA.out.lt))
    replace HBB := Lib.hid (HBB.out.keep (hb.block _ HBB.out.lt))
    replace HW := Lib.hid (HW.out.trans (hb.mono HW.out.size))
    clear hb
    try clear c0 c1 d0 d1
    have c0 : w5.cell? ⟨w.heap.size, 0, none⟩ = some (.int .i64 a) := HBA.out.cell 0
    have c1 : w5.cell? ⟨w.heap.size, 1, none⟩ = some (.int .i64 b) := HBA.out.cell 1
    have d0 : w5.cell? ⟨w.heap.size + 1, 0, none⟩ = some (.int .i64 c) := HBB.out.cell 0
    have d1 : w5.cell? ⟨w.heap.size + 1, 1, none⟩ = some (.int .i64 d) := HBB.out.cell 1
  case' true =>
    rw [hx] at RI CI
    rw [rangeUnless_true rfl] at CI
    clear hx ha hb
    go_enter Tryz.func3, Tryz.ntmps3
    go_wp2_with fail
    go_at_call 4
    refine (RI _).mono ?_
    rintro e w1 ⟨rfl, hb⟩
    replace HBA := Lib.hid (HBA.out.keep (hb.block _ HBA.out.lt))
    replace HBB := Lib.hid (HBB.out.keep (hb.block _ HBB.out.lt))
    replace HW := Lib.hid (HW.out.trans (hb.mono HW.out.size))
    clear hb
    try clear c0 c1 d0 d1
    have c0 : w1.cell? ⟨w.heap.size, 0, none⟩ = some (.int .i64 a) := HBA.out.cell 0
    have c1 : w1.cell? ⟨w.heap.size, 1, none⟩ = some (.int .i64 b) := HBA.out.cell 1
    have d0 : w1.cell? ⟨w.heap.size + 1, 0, none⟩ = some (.int .i64 c) := HBB.out.cell 0
    have d1 : w1.cell? ⟨w.heap.size + 1, 1, none⟩ = some (.int .i64 d) := HBB.out.cell 1
    go_wp2_with fail
    go_at_call 5
    refine (NA _ (HPT.out.keep HW.out)).mono ?_
    rintro e w2 ⟨rfl, hb⟩
    replace HBA := Lib.hid (HBA.out.keep (hb.block _ HBA.out.lt))
    replace HBB := Lib.hid (HBB.out.keep (hb.block _ HBB.out.lt))
    replace HW := Lib.hid (HW.out.trans (hb.mono HW.out.size))
    clear hb
    try clear c0 c1 d0 d1
    have c0 : w2.cell? ⟨w.heap.size, 0, none⟩ = some (.int .i64 a) := HBA.out.cell 0
    have c1 : w2.cell? ⟨w.heap.size, 1, none⟩ = some (.int .i64 b) := HBA.out.cell 1
    have d0 : w2.cell? ⟨w.heap.size + 1, 0, none⟩ = some (.int .i64 c) := HBB.out.cell 0
    have d1 : w2.cell? ⟨w.heap.size + 1, 1, none⟩ = some (.int .i64 d) := HBB.out.cell 1
    go_wp2_with fail
    go_at_call 6
    refine (NR _).mono ?_
    rintro e w3 ⟨rfl, hb⟩
    replace HBA := Lib.hid (HBA.out.keep (hb.block _ HBA.out.lt))
    replace HBB := Lib.hid (HBB.out.keep (hb.block _ HBB.out.lt))
    replace HW := Lib.hid (HW.out.trans (hb.mono HW.out.size))
    clear hb
    try clear c0 c1 d0 d1
    have c0 : w3.cell? ⟨w.heap.size, 0, none⟩ = some (.int .i64 a) := HBA.out.cell 0
    have c1 : w3.cell? ⟨w.heap.size, 1, none⟩ = some (.int .i64 b) := HBA.out.cell 1
    have d0 : w3.cell? ⟨w.heap.size + 1, 0, none⟩ = some (.int .i64 c) := HBB.out.cell 0
    have d1 : w3.cell? ⟨w.heap.size + 1, 1, none⟩ = some (.int .i64 d) := HBB.out.cell 1
    go_wp2_with fail
    go_at_call 7
    refine (CI _).mono ?_
    rintro e w4 ⟨rfl, hb⟩
    replace HBA := Lib.hid (HBA.out.keep (hb.block _ HBA.out.lt))
    replace HBB := Lib.hid (HBB.out.keep (hb.block _ HBB.out.lt))
    replace HW := Lib.hid (HW.out.trans (hb.mono HW.out.size))
    clear hb
    try clear c0 c1 d0 d1
    have c0 : w4.cell? ⟨w.heap.size, 0, none⟩ = some (.int .i64 a) := HBA.out.cell 0
    have c1 : w4.cell? ⟨w.heap.size, 1, none⟩ = some (.int .i64 b) := HBA.out.cell 1
    have d0 : w4.cell? ⟨w.heap.size + 1, 0, none⟩ = some (.int .i64 c) := HBB.out.cell 0
    have d1 : w4.cell? ⟨w.heap.size + 1, 1, none⟩ = some (.int .i64 d) := HBB.out.cell 1
    go_wp2_with fail
    go_at_call 8
    refine (told0 _ (HET.out.keep HW.out)).mono ?_
    rintro e w5 ⟨rfl, hb⟩
    replace HBA := Lib.hid (HBA.out.keep (hb.block _ HBA.out.lt))
    replace HBB := Lib.hid (HBB.out.keep (hb.block _ HBB.out.lt))
    replace HW := Lib.hid (HW.out.trans (hb.mono HW.out.size))
    clear hb
    try clear c0 c1 d0 d1
    have c0 : w5.cell? ⟨w.heap.size, 0, none⟩ = some (.int .i64 a) := HBA.out.cell 0
    have c1 : w5.cell? ⟨w.heap.size, 1, none⟩ = some (.int .i64 b) := HBA.out.cell 1
    have d0 : w5.cell? ⟨w.heap.size + 1, 0, none⟩ = some (.int .i64 c) := HBB.out.cell 0
    have d1 : w5.cell? ⟨w.heap.size + 1, 1, none⟩ = some (.int .i64 d) := HBB.out.cell 1
    clear w1 w2 w3 NA NR
  all_goals
    clear CI RI
    go_wp2_with fail
    go_at_call 9
    refine (LI _).mono ?_
    rintro e w6 ⟨rfl, hb⟩
    replace HBA := Lib.hid (HBA.out.keep (hb.block _ HBA.out.lt))
    replace HBB := Lib.hid (HBB.out.keep (hb.block _ HBB.out.lt))
    replace HW := Lib.hid (HW.out.trans (hb.mono HW.out.size))
    clear hb
    try clear c0 c1 d0 d1
    have c0 : w6.cell? ⟨w.heap.size, 0, none⟩ = some (.int .i64 a) := HBA.out.cell 0
    have c1 : w6.cell? ⟨w.heap.size, 1, none⟩ = some (.int .i64 b) := HBA.out.cell 1
    have d0 : w6.cell? ⟨w.heap.size + 1, 0, none⟩ = some (.int .i64 c) := HBB.out.cell 0
    have d1 : w6.cell? ⟨w.heap.size + 1, 1, none⟩ = some (.int .i64 d) := HBB.out.cell 1
    go_wp2_with fail
    go_at_call 10
    refine (LR _).mono ?_
    rintro e w7 ⟨rfl, hb⟩
    replace HBA := Lib.hid (HBA.out.keep (hb.block _ HBA.out.lt))
    replace HBB := Lib.hid (HBB.out.keep (hb.block _ HBB.out.lt))
    replace HW := Lib.hid (HW.out.trans (hb.mono HW.out.size))
    clear hb
    try clear c0 c1 d0 d1
    have c0 : w7.cell? ⟨w.heap.size, 0, none⟩ = some (.int .i64 a) := HBA.out.cell 0
    have c1 : w7.cell? ⟨w.heap.size, 1, none⟩ = some (.int .i64 b) := HBA.out.cell 1
    have d0 : w7.cell? ⟨w.heap.size + 1, 0, none⟩ = some (.int .i64 c) := HBB.out.cell 0
    have d1 : w7.cell? ⟨w.heap.size + 1, 1, none⟩ = some (.int .i64 d) := HBB.out.cell 1
    clear LI LR w4 w5 w6
    go_wp2_with fail
    go_at_call 11
    have PR' := PR w7
    clear PR
    cases hp : parseL l with
    | none =>
      rw [hp] at PR' PI
      clear hp
      unfold parV at PR'
      unfold parEV at PI
      refine PR'.mono ?_
      rintro e w8 ⟨rfl, hb⟩
      replace HBA := Lib.hid (HBA.out.keep (hb.block _ HBA.out.lt))
      replace HBB := Lib.hid (HBB.out.keep (hb.block _ HBB.out.lt))
      replace HW := Lib.hid (HW.out.trans (hb.mono HW.out.size))
      clear hb
      try clear c0 c1 d0 d1
      have c0 : w8.cell? ⟨w.heap.size, 0, none⟩ = some (.int .i64 a) := HBA.out.cell 0
      have c1 : w8.cell? ⟨w.heap.size, 1, none⟩ = some (.int .i64 b) := HBA.out.cell 1
      have d0 : w8.cell? ⟨w.heap.size + 1, 0, none⟩ = some (.int .i64 c) := HBB.out.cell 0
      have d1 : w8.cell? ⟨w.heap.size + 1, 1, none⟩ = some (.int .i64 d) := HBB.out.cell 1
      clear PR'
      go_wp2_with fail
      go_at_call 12
      refine (PI _).mono ?_
      rintro e w9 ⟨rfl, hb⟩
      have BX : Blk w9 w8.heap.size 23 #[.int .i64 0, .int .i64 0] := (Blk.new w8 23 #[.int .i64 0, .int .i64 0]).keep (hb.block _ (by simp))
      have HW9 := Lib.hid ((HW.out.alloc HW.out.size (.cells #[.int .i64 0, .int .i64 0] 23)).trans (hb.mono (by have := HW.out.size; simp; omega)))
      have HBX := Lib.hid BX
      clear hb HW HBA HBB c0 c1 d0 d1 BX PI
      go_wp2_with fail
      go_at_call 8
      refine (told2 _ (HET.out.keep (HW9.out.alloc HW9.out.size _))).mono ?_
      rintro e w10 ⟨rfl, hb⟩
      have BX : Blk w10 w8.heap.size 23 #[.int .i64 0, .int .i64 0] := (HBX.out.alloc (.cells #[.int .i64 0, .int .i64 0] 23)).keep (hb.block _ (by have := HBX.out.lt; simp; omega))
      have BY : Blk w10 w9.heap.size 23 #[.int .i64 0, .int .i64 0] := (Blk.new w9 23 #[.int .i64 0, .int .i64 0]).keep (hb.block _ (by simp))
      have HW10 := Lib.hid ((HW9.out.alloc HW9.out.size (.cells #[.int .i64 0, .int .i64 0] 23)).trans (hb.mono (by have := HW9.out.size; simp; omega)))
      have x0 : w10.cell? ⟨w8.heap.size, 0, none⟩ = some (.int .i64 0) := BX.cell 0
      have x1 : w10.cell? ⟨w8.heap.size, 1, none⟩ = some (.int .i64 0) := BX.cell 1
      have y0 : w10.cell? ⟨w9.heap.size, 0, none⟩ = some (.int .i64 0) := BY.cell 0
      have y1 : w10.cell? ⟨w9.heap.size, 1, none⟩ = some (.int .i64 0) := BY.cell 1
      clear hb BX BY HBX HW9
      go_wp2_with fail
      go_ret
      exact ⟨rfl, HW10.out⟩
    | some p =>
      obtain ⟨x, y⟩ := p
      rw [hp] at PR' PI
      clear hp
      unfold parV at PR'
      unfold parEV at PI
      refine PR'.mono ?_
      rintro e w8 ⟨rfl, hb⟩
      replace HBA := Lib.hid (HBA.out.keep (hb.block _ HBA.out.lt))
      replace HBB := Lib.hid (HBB.out.keep (hb.block _ HBB.out.lt))
      replace HW := Lib.hid (HW.out.trans (hb.mono HW.out.size))
      clear hb
      try clear c0 c1 d0 d1
      have c0 : w8.cell? ⟨w.heap.size, 0, none⟩ = some (.int .i64 a) := HBA.out.cell 0
      have c1 : w8.cell? ⟨w.heap.size, 1, none⟩ = some (.int .i64 b) := HBA.out.cell 1
      have d0 : w8.cell? ⟨w.heap.size + 1, 0, none⟩ = some (.int .i64 c) := HBB.out.cell 0
      have d1 : w8.cell? ⟨w.heap.size + 1, 1, none⟩ = some (.int .i64 d) := HBB.out.cell 1
      clear PR'
      go_wp2_with fail
      go_at_call 12
      refine (PI _).mono ?_
      rintro e w9 ⟨rfl, hb⟩
      have BX : Blk w9 w8.heap.size 23 #[.int .i64 x, .int .i64 y] := (Blk.new w8 23 #[.int .i64 x, .int .i64 y]).keep (hb.block _ (by simp))
      have HW9 := Lib.hid ((HW.out.alloc HW.out.size (.cells #[.int .i64 x, .int .i64 y] 23)).trans (hb.mono (by have := HW.out.size; simp; omega)))
      have HBX := Lib.hid BX
      clear hb HW HBA HBB c0 c1 d0 d1 BX PI
      go_wp2_with fail
      go_at_call 8
      refine (told0 _ (HET.out.keep (HW9.out.alloc HW9.out.size _))).mono ?_
      rintro e w10 ⟨rfl, hb⟩
      have BX : Blk w10 w8.heap.size 23 #[.int .i64 x, .int .i64 y] := (HBX.out.alloc (.cells #[.int .i64 x, .int .i64 y] 23)).keep (hb.block _ (by have := HBX.out.lt; simp; omega))
      have BY : Blk w10 w9.heap.size 23 #[.int .i64 x, .int .i64 y] := (Blk.new w9 23 #[.int .i64 x, .int .i64 y]).keep (hb.block _ (by simp))
      have HW10 := Lib.hid ((HW9.out.alloc HW9.out.size (.cells #[.int .i64 x, .int .i64 y] 23)).trans (hb.mono (by have := HW9.out.size; simp; omega)))
      have x0 : w10.cell? ⟨w8.heap.size, 0, none⟩ = some (.int .i64 x) := BX.cell 0
      have x1 : w10.cell? ⟨w8.heap.size, 1, none⟩ = some (.int .i64 y) := BX.cell 1
      have y0 : w10.cell? ⟨w9.heap.size, 0, none⟩ = some (.int .i64 x) := BY.cell 0
      have y1 : w10.cell? ⟨w9.heap.size, 1, none⟩ = some (.int .i64 y) := BY.cell 1
      clear hb BX BY HBX HW9
      go_wp2_with fail
      go_ret
      exact ⟨rfl, HW10.out⟩
end Go.Proofs.YtfaihilehdjfjaaGreatDoor
