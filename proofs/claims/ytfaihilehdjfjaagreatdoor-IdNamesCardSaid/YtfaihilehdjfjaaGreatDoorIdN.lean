/- Contracts: what is an id, a ref, a value. -/
import Derived.Test.YtfaihilehdjfjaaGreatDoorValN
import Derived.WalkKit
import Derived.ProofKit
import Derived.OpenShut
import Derived.LoopTactic
import Derived.WalkLawsBesides
import Derived.WalkSpells
import Derived.BigQuiet
import Derived.Deep.QuietTactic
import Derived.Deep.RegionHeld3
import Derived.Lib.Hide
import Derived.Deep.DeepFit
namespace Go.Proofs.YtfaihilehdjfjaaGreatDoor
open Go.ChangeShapes Go.WideShapes Go.ChangeAt Go.RowKit

def numB (x : Int) : Bool := decide (1 ≤ x) && decide (x ≤ 1000000)
def actorB (x : Int) : Bool := decide (1 ≤ x) && decide (x ≤ 99)
def realB (a b : Int) : Bool := numB a && actorB b
def rootB (a b : Int) : Bool := decide (a = 0) && decide (b = 0)
def idB (a b : Int) : Bool := rootB a b || realB a b
def refB (a s : Int) : Bool := actorB a && numB s

theorem num_any (x : Int) (w : World) : Calls Tryz.prog 26 #[.int .i64 x] w fun e w' => e = .returned (.bool (numB x)) ∧ w = w' := by
  by_cases h1 : 1 ≤ x
  · by_cases h2 : x ≤ 1000000
    all_goals
      go_enter Tryz.func26, Tryz.ntmps26
      go_wp2
      go_ret
      exact ⟨ret_bool (by simp [numB, h1, h2]; try omega), rfl⟩
  · have h2 : decide (1 ≤ x) = false := by simpa using h1
    go_enter Tryz.func26, Tryz.ntmps26
    go_wp2
    go_ret
    exact ⟨ret_bool (by simp only [numB, h2, Bool.false_and]), rfl⟩
theorem actor_any (x : Int) (w : World) : Calls Tryz.prog 27 #[.int .i64 x] w fun e w' => e = .returned (.bool (actorB x)) ∧ w = w' := by
  by_cases h1 : 1 ≤ x
  · by_cases h2 : x ≤ 99
    all_goals
      go_enter Tryz.func27, Tryz.ntmps27
      go_wp2
      go_ret
      exact ⟨ret_bool (by simp [actorB, h1, h2]; try omega), rfl⟩
  · have h2 : decide (1 ≤ x) = false := by simpa using h1
    go_enter Tryz.func27, Tryz.ntmps27
    go_wp2
    go_ret
    exact ⟨ret_bool (by simp only [actorB, h2, Bool.false_and]), rfl⟩
theorem real_any (a b : Int) (w : World) : Calls Tryz.prog 17 #[.agg #[.int .i64 a, .int .i64 b]] w fun e w' => e = .returned (.bool (realB a b)) ∧ Below w.heap.size w w' := by
  cases hn : numB a
  all_goals
    go_enter Tryz.func17, Tryz.ntmps17
    go_wp2_with (first | (go_at_call 26; refine (num_any _ _).mono ?_; rintro e w' ⟨rfl, rfl⟩) | (go_at_call 27; refine (actor_any _ _).mono ?_; rintro e w' ⟨rfl, rfl⟩))
    go_ret
    exact ⟨ret_bool (by simp only [realB, hn, Bool.false_and, Bool.true_and]), by repeat (first | exact Below.refl _ _ | refine Below.drew ?_ | refine Below.alloc ?_ (by first | (simp; done) | (simp; omega)) _)⟩
/-- an error of package api, or none -/
def errI (n : Int) : Value := if n = 0 then .nilIface else .iface 37 (.int .i64 n)
def rangeUnless (b : Bool) : Value := if b then .nilIface else .iface 37 (.int .i64 1)

theorem realB_0 (b : Int) : realB 0 b = false := by simp [realB, numB]
theorem rangeUnless_t {b : Bool} (h : b = true) : Ending.returned .nilIface = .returned (rangeUnless b) := by rw [h]; rfl
theorem rangeUnless_f {b : Bool} (h : b = false) : Ending.returned (.iface 37 (.int .i64 1)) = .returned (rangeUnless b) := by rw [h]; rfl

theorem idCheck_any (a b : Int) (w : World) : Calls Tryz.prog 7 #[.agg #[.int .i64 a, .int .i64 b]] w fun e w' => e = .returned (rangeUnless (idB a b)) ∧ Below w.heap.size w w' := by
  by_cases h0 : a = 0
  · subst h0
    by_cases h1 : b = 0
    · subst h1
      go_enter Tryz.func7, Tryz.ntmps7
      go_wp2_with fail
      go_ret
      exact ⟨rangeUnless_t rfl, by repeat (first | exact Below.refl _ _ | refine Below.drew ?_ | refine Below.alloc ?_ (by first | (simp; done) | (simp; omega)) _)⟩
    · have hb0 : (b == 0) = false := by simpa using h1
      have hr := realB_0 b
      have H1 := Lib.hid h1
      clear h1
      go_enter Tryz.func7, Tryz.ntmps7
      go_wp2_with (first | (go_at_call 17; refine (real_any _ _ _).mono ?_; rintro e w1 ⟨rfl, hb⟩))
      go_ret
      exact ⟨rangeUnless_f (by simp [idB, rootB, hr, H1.out]), by repeat (first | exact Below.refl _ _ | refine Below.drew ?_ | refine Below.alloc ?_ (by first | (simp; done) | (simp; omega)) _ | refine Below.trans ?_ (hb.mono (by simp)))⟩
  · have ha0 : (a == 0) = false := by simpa using h0
    have H0 := Lib.hid h0
    clear h0
    cases hr : realB a b
    · go_enter Tryz.func7, Tryz.ntmps7
      go_wp2_with (first | (go_at_call 17; refine (real_any _ _ _).mono ?_; rintro e w1 ⟨rfl, hb⟩))
      go_ret
      exact ⟨rangeUnless_f (by simp [idB, rootB, hr, H0.out]), by repeat (first | exact Below.refl _ _ | refine Below.drew ?_ | refine Below.alloc ?_ (by first | (simp; done) | (simp; omega)) _ | refine Below.trans ?_ (hb.mono (by simp)))⟩
    · go_enter Tryz.func7, Tryz.ntmps7
      go_wp2_with (first | (go_at_call 17; refine (real_any _ _ _).mono ?_; rintro e w1 ⟨rfl, hb⟩))
      go_ret
      exact ⟨rangeUnless_t (by simp [idB, hr]), by repeat (first | exact Below.refl _ _ | refine Below.drew ?_ | refine Below.alloc ?_ (by first | (simp; done) | (simp; omega)) _ | refine Below.trans ?_ (hb.mono (by simp)))⟩

theorem idLess_any (a b c d : Int) (w : World) :
    Calls Tryz.prog 9 #[.agg #[.int .i64 a, .int .i64 b], .agg #[.int .i64 c, .int .i64 d]] w fun e w' => e = .returned (.bool (decide (cmp2 a b c d < 0))) ∧ Below w.heap.size w w' := by
  go_enter Tryz.func9, Tryz.ntmps9
  go_wp2_with (first | (go_at_call 19; refine (idCompare_any _ _ _ _ _).mono ?_; rintro e w1 ⟨rfl, hb⟩))
  go_ret
  exact ⟨rfl, by repeat (first | exact Below.refl _ _ | refine Below.drew ?_ | refine Below.alloc ?_ (by first | (simp; done) | (simp; omega)) _ | refine Below.trans ?_ (hb.mono (by simp; omega)))⟩

theorem rangeUnless_true {b : Bool} (h : b = true) : rangeUnless b = .nilIface := by rw [h]; rfl
theorem rangeUnless_false {b : Bool} (h : b = false) : rangeUnless b = .iface 37 (.int .i64 1) := by rw [h]; rfl

theorem idCheck_yes (a b : Int) (h : idB a b = true) (w : World) : Calls Tryz.prog 7 #[.agg #[.int .i64 a, .int .i64 b]] w fun e w' => e = .returned .nilIface ∧ Below w.heap.size w w' := by
  rw [← rangeUnless_true h]; exact idCheck_any a b w
theorem idCheck_no (a b : Int) (h : idB a b = false) (w : World) : Calls Tryz.prog 7 #[.agg #[.int .i64 a, .int .i64 b]] w fun e w' => e = .returned (.iface 37 (.int .i64 1)) ∧ Below w.heap.size w w' := by
  rw [← rangeUnless_false h]; exact idCheck_any a b w

end Go.Proofs.YtfaihilehdjfjaaGreatDoor
