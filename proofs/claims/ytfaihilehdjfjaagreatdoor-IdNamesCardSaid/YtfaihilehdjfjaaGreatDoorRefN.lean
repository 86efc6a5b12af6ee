/- Contracts: the document's own words on ids and values (package bookref1): Root, Real, Id, Value, Less, Compare. -/
import Derived.Test.YtfaihilehdjfjaaGreatDoorIdN
namespace Go.Proofs.YtfaihilehdjfjaaGreatDoor
open Go.ChangeShapes Go.WideShapes Go.ChangeAt Go.RowKit

theorem refRoot_any (a b : Int) (w : World) : Calls Tryz.prog 13 #[.agg #[.int .i64 a, .int .i64 b]] w fun e w' => e = .returned (.bool (rootB a b)) ∧ Below w.heap.size w w' := by
  by_cases h1 : a = 0
  all_goals
    go_enter Tryz.func13, Tryz.ntmps13
    go_wp2
    all_goals
      go_ret
      exact ⟨ret_bool (by first | (simp_all [rootB]; done) | (simp_all [rootB]; rfl)), by repeat (first | exact Below.refl _ _ | refine Below.drew ?_ | refine Below.alloc ?_ (by first | (simp; done) | (simp; omega)) _ | refine Below.trans ?_ (hb.mono (by simp)) | refine Below.trans ?_ (hb2.mono (by simp)))⟩
theorem refReal_any (a b : Int) (w : World) : Calls Tryz.prog 14 #[.agg #[.int .i64 a, .int .i64 b]] w fun e w' => e = .returned (.bool (realB a b)) ∧ Below w.heap.size w w' := by
  by_cases h1 : 1 ≤ a
  case neg =>
    have d1 : decide (1 ≤ a) = false := decide_eq_false h1
    have HV : Hid (realB a b = false) := by show realB a b = false; simp [realB, numB, h1]
    go_enter Tryz.func14, Tryz.ntmps14
    go_wp2_with fail
    go_ret
    exact ⟨ret_bool HV.out.symm, by repeat (first | exact Below.refl _ _ | refine Below.drew ?_ | refine Below.alloc ?_ (by first | (simp; done) | (simp; omega)) _ | refine Below.trans ?_ (hb.mono (by simp)) | refine Below.trans ?_ (hb2.mono (by simp)))⟩
  have d1 : decide (1 ≤ a) = true := decide_eq_true h1
  by_cases h2 : a ≤ 1000000
  case neg =>
    have d2 : decide (a ≤ 1000000) = false := decide_eq_false h2
    have HV : Hid (realB a b = false) := by show realB a b = false; simp [realB, numB, h2]
    go_enter Tryz.func14, Tryz.ntmps14
    go_wp2_with fail
    go_ret
    exact ⟨ret_bool HV.out.symm, by repeat (first | exact Below.refl _ _ | refine Below.drew ?_ | refine Below.alloc ?_ (by first | (simp; done) | (simp; omega)) _ | refine Below.trans ?_ (hb.mono (by simp)) | refine Below.trans ?_ (hb2.mono (by simp)))⟩
  have d2 : decide (a ≤ 1000000) = true := decide_eq_true h2
  by_cases h3 : 1 ≤ b
  case neg =>
    have d3 : decide (1 ≤ b) = false := decide_eq_false h3
    have HV : Hid (realB a b = false) := by show realB a b = false; simp [realB, actorB, h3]
    go_enter Tryz.func14, Tryz.ntmps14
    go_wp2_with fail
    go_ret
    exact ⟨ret_bool HV.out.symm, by repeat (first | exact Below.refl _ _ | refine Below.drew ?_ | refine Below.alloc ?_ (by first | (simp; done) | (simp; omega)) _ | refine Below.trans ?_ (hb.mono (by simp)) | refine Below.trans ?_ (hb2.mono (by simp)))⟩
  have d3 : decide (1 ≤ b) = true := decide_eq_true h3
  have HV : Hid (realB a b = decide (b ≤ 99)) := by show realB a b = _; simp [realB, numB, actorB, h1, h2, h3]
  go_enter Tryz.func14, Tryz.ntmps14
  go_wp2_with fail
  go_ret
  exact ⟨ret_bool HV.out.symm, by repeat (first | exact Below.refl _ _ | refine Below.drew ?_ | refine Below.alloc ?_ (by first | (simp; done) | (simp; omega)) _ | refine Below.trans ?_ (hb.mono (by simp)) | refine Below.trans ?_ (hb2.mono (by simp)))⟩
theorem refId_any (a b : Int) (w : World) : Calls Tryz.prog 4 #[.agg #[.int .i64 a, .int .i64 b]] w fun e w' => e = .returned (.bool (idB a b)) ∧ Below w.heap.size w w' := by
  have R1 := refRoot_any a b
  have R2 := refReal_any a b
  have HV : Hid (idB a b = (rootB a b || realB a b)) := rfl
  generalize rootB a b = x at *
  generalize realB a b = y at *
  have hlt : w.heap.size < (w.alloc (.cells #[.int .i64 a, .int .i64 b] 23)).heap.size := by simp
  cases x with
  | true =>
    go_enter Tryz.func4, Tryz.ntmps4
    go_wp2_with fail
    go_at_call 13
    refine (R1 _).mono ?_
    rintro e w1 ⟨rfl, hb⟩
    go_wp2_with fail
    go_ret
    exact ⟨ret_bool (by rw [HV.out]; rfl), by repeat (first | exact Below.refl _ _ | refine Below.drew ?_ | refine Below.alloc ?_ (by first | (simp; done) | (simp; omega)) _ | refine Below.trans ?_ (hb.mono (by simp)) | refine Below.trans ?_ (hb2.mono (by simp)))⟩
  | false =>
    go_enter Tryz.func4, Tryz.ntmps4
    go_wp2_with fail
    go_at_call 13
    refine (R1 _).mono ?_
    rintro e w1 ⟨rfl, hb⟩
    have hbk := (Blk.new w 23 #[.int .i64 a, .int .i64 b]).keep (hb.block _ hlt)
    have c0 : w1.cell? ⟨w.heap.size, 0, none⟩ = some (.int .i64 a) := hbk.cell 0
    have c1 : w1.cell? ⟨w.heap.size, 1, none⟩ = some (.int .i64 b) := hbk.cell 1
    have hb' : Below w.heap.size w w1 := ((Below.refl _ w).alloc (Nat.le_refl _) _).trans (hb.mono (by simp))
    clear hbk hb
    go_wp2_with fail
    go_at_call 14
    refine (R2 _).mono ?_
    rintro e w2 ⟨rfl, hb2⟩
    go_wp2_with fail
    go_ret
    exact ⟨ret_bool (by rw [HV.out]; rfl), hb'.trans (hb2.mono hb'.size)⟩

end Go.Proofs.YtfaihilehdjfjaaGreatDoor
