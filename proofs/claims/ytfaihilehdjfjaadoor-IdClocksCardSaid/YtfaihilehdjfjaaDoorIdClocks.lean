/- The law IdClocks: walked. -/
import Derived.Test.YtfaihilehdjfjaaDoorClockS
namespace Go.Proofs.YtfaihilehdjfjaaDoor
open Go.ChangeShapes Go.WideShapes Go.ChangeAt Go.RowKit

theorem JoinV.covers {a b R : List Rf} (ha : Vc a) (h : JoinV a b R) : decide (R = a) = !(aheadB a b) := by
  have e1 := aheadB_iff (b := b) ha
  have e2 : R = a ↔ aheadB a b = false := by
    rw [e1]
    constructor
    · intro e x
      have := h.2 x
      rw [e] at this
      omega
    · intro h'
      exact h.1.ext ha fun x => by
        have := h' x
        rw [h.2]
        omega
  by_cases hR : R = a
  · rw [decide_eq_true hR, e2.mp hR]; rfl
  · rw [decide_eq_false hR]
    cases hh : aheadB a b with
    | false => exact absurd (e2.mpr hh) hR
    | true => rfl
set_option maxHeartbeats 4000000 in
set_option maxRecDepth 20000 in
theorem idClocks_bad (a b : List Rf) (va vb : Value) (w : World) (hE : ErrT w) (ha : RdS w a va) (hb : RdS w b vb) (k : Nat) (hk : bothE a b = k) (h0 : k ≠ 0) :
    Calls Tryd.prog 3 #[va, vb] w fun e w' => e = .returned (.bool true) ∧ Below w.heap.size w w' := by
  have HA := Lib.hid ha
  have HB := Lib.hid hb
  have HET := Lib.hid hE
  have HK := Lib.hid hk
  have HW : Hid (Below w.heap.size w w) := Below.refl _ _
  have hk0 : (k : Int) ≠ 0 := by omega
  have d0 : decide ((k : Int) = 0) = false := decide_eq_false hk0
  clear ha hb hE
  by_cases h1 : refsE 0 a = 0
  · have h2 : refsE 0 b = k := by unfold bothE at hk; rwa [if_pos h1] at hk
    have R1 := Lib.hid h1
    have R2 := Lib.hid h2
    clear h1 h2 hk
    go_enter Tryd.func3, Tryd.ntmps3
    go_wp2_with fail
    go_at_call 8
    have RC := refClockS HA.out
    rw [R1.out] at RC
    refine RC.mono ?_
    clear RC
    rintro e w1 ⟨rfl, hb1⟩
    replace HW := Lib.hid (HW.out.trans (hb1.mono HW.out.size))
    replace HA := Lib.hid (HA.out.keep hb1)
    replace HB := Lib.hid (HB.out.keep hb1)
    clear hb1
    go_wp2_with fail
    go_at_call 9
    have RC := refsS HA.out
    rw [R1.out, errN_zero] at RC
    refine RC.mono ?_
    clear RC
    rintro e w2 ⟨rfl, hb1⟩
    replace HW := Lib.hid (HW.out.trans (hb1.mono HW.out.size))
    replace HA := Lib.hid (HA.out.keep hb1)
    replace HB := Lib.hid (HB.out.keep hb1)
    clear hb1 w1
    go_wp2_with fail
    go_at_call 10
    refine (told0 _ (HET.out.keep HW.out)).mono ?_
    rintro e w3 ⟨rfl, hb1⟩
    replace HW := Lib.hid (HW.out.trans (hb1.mono HW.out.size))
    replace HA := Lib.hid (HA.out.keep hb1)
    replace HB := Lib.hid (HB.out.keep hb1)
    clear hb1 w2
    go_wp2_with fail
    go_at_call 8
    have RC := refClockS HB.out
    rw [R2.out] at RC
    refine RC.mono ?_
    clear RC
    rintro e w4 ⟨rfl, hb1⟩
    replace HW := Lib.hid (HW.out.trans (hb1.mono HW.out.size))
    replace HA := Lib.hid (HA.out.keep hb1)
    replace HB := Lib.hid (HB.out.keep hb1)
    clear hb1 w3
    go_wp2_with fail
    go_at_call 13
    refine (joinE HA.out HB.out HK.out h0).mono ?_
    rintro e w5 ⟨rfl, hb1⟩
    replace HW := Lib.hid (HW.out.trans (hb1.mono HW.out.size))
    replace HA := Lib.hid (HA.out.keep hb1)
    replace HB := Lib.hid (HB.out.keep hb1)
    clear hb1 w4
    go_wp2_with fail
    go_at_call 10
    refine (toldk k h0 _ (HET.out.keep HW.out)).mono ?_
    rintro e w6 ⟨rfl, hb1⟩
    replace HW := Lib.hid (HW.out.trans (hb1.mono HW.out.size))
    replace HA := Lib.hid (HA.out.keep hb1)
    replace HB := Lib.hid (HB.out.keep hb1)
    clear hb1 w5
    go_wp2_with fail
    go_at_call 12
    refine (sameD (RdS.nil _) (RdS.nil _) rfl).mono ?_
    rintro e w7 ⟨rfl, hb1⟩
    replace HW := Lib.hid (HW.out.trans (hb1.mono HW.out.size))
    replace HA := Lib.hid (HA.out.keep hb1)
    replace HB := Lib.hid (HB.out.keep hb1)
    clear hb1 w6
    go_wp2_with fail
    go_at_call 14
    refine (coversE HA.out HB.out HK.out h0).mono ?_
    rintro e w8 ⟨rfl, hb1⟩
    replace HW := Lib.hid (HW.out.trans (hb1.mono HW.out.size))
    replace HA := Lib.hid (HA.out.keep hb1)
    replace HB := Lib.hid (HB.out.keep hb1)
    clear hb1 w7
    go_wp2_with fail
    go_at_call 10
    refine (toldk k h0 _ (HET.out.keep HW.out)).mono ?_
    rintro e w9 ⟨rfl, hb1⟩
    replace HW := Lib.hid (HW.out.trans (hb1.mono HW.out.size))
    replace HA := Lib.hid (HA.out.keep hb1)
    replace HB := Lib.hid (HB.out.keep hb1)
    clear hb1 w8 HA HB
    go_wp2_with fail
    go_ret
    exact ⟨rfl, HW.out⟩
  · have h2 : refsE 0 a = k := by unfold bothE at hk; rwa [if_neg h1] at hk
    have R2 := Lib.hid h2
    clear h1 h2 hk
    go_enter Tryd.func3, Tryd.ntmps3
    go_wp2_with fail
    go_at_call 8
    have RC := refClockS HA.out
    rw [R2.out] at RC
    refine RC.mono ?_
    clear RC
    rintro e w1 ⟨rfl, hb1⟩
    replace HW := Lib.hid (HW.out.trans (hb1.mono HW.out.size))
    replace HA := Lib.hid (HA.out.keep hb1)
    replace HB := Lib.hid (HB.out.keep hb1)
    clear hb1
    go_wp2_with fail
    go_at_call 9
    have RC := refsS HA.out
    rw [R2.out, errN_pos h0] at RC
    refine RC.mono ?_
    clear RC
    rintro e w2 ⟨rfl, hb1⟩
    replace HW := Lib.hid (HW.out.trans (hb1.mono HW.out.size))
    replace HA := Lib.hid (HA.out.keep hb1)
    replace HB := Lib.hid (HB.out.keep hb1)
    clear hb1 w1
    go_wp2_with fail
    go_at_call 10
    refine (toldk k h0 _ (HET.out.keep HW.out)).mono ?_
    rintro e w3 ⟨rfl, hb1⟩
    replace HW := Lib.hid (HW.out.trans (hb1.mono HW.out.size))
    replace HA := Lib.hid (HA.out.keep hb1)
    replace HB := Lib.hid (HB.out.keep hb1)
    clear hb1 w2
    go_wp2_with fail
    go_at_call 13
    refine (joinE HA.out HB.out HK.out h0).mono ?_
    rintro e w5 ⟨rfl, hb1⟩
    replace HW := Lib.hid (HW.out.trans (hb1.mono HW.out.size))
    replace HA := Lib.hid (HA.out.keep hb1)
    replace HB := Lib.hid (HB.out.keep hb1)
    clear hb1 w3
    go_wp2_with fail
    go_at_call 10
    refine (toldk k h0 _ (HET.out.keep HW.out)).mono ?_
    rintro e w6 ⟨rfl, hb1⟩
    replace HW := Lib.hid (HW.out.trans (hb1.mono HW.out.size))
    replace HA := Lib.hid (HA.out.keep hb1)
    replace HB := Lib.hid (HB.out.keep hb1)
    clear hb1 w5
    go_wp2_with fail
    go_at_call 12
    refine (sameD (RdS.nil _) (RdS.nil _) rfl).mono ?_
    rintro e w7 ⟨rfl, hb1⟩
    replace HW := Lib.hid (HW.out.trans (hb1.mono HW.out.size))
    replace HA := Lib.hid (HA.out.keep hb1)
    replace HB := Lib.hid (HB.out.keep hb1)
    clear hb1 w6
    go_wp2_with fail
    go_at_call 14
    refine (coversE HA.out HB.out HK.out h0).mono ?_
    rintro e w8 ⟨rfl, hb1⟩
    replace HW := Lib.hid (HW.out.trans (hb1.mono HW.out.size))
    replace HA := Lib.hid (HA.out.keep hb1)
    replace HB := Lib.hid (HB.out.keep hb1)
    clear hb1 w7
    go_wp2_with fail
    go_at_call 10
    refine (toldk k h0 _ (HET.out.keep HW.out)).mono ?_
    rintro e w9 ⟨rfl, hb1⟩
    replace HW := Lib.hid (HW.out.trans (hb1.mono HW.out.size))
    replace HA := Lib.hid (HA.out.keep hb1)
    replace HB := Lib.hid (HB.out.keep hb1)
    clear hb1 w8 HA HB
    go_wp2_with fail
    go_ret
    exact ⟨rfl, HW.out⟩
set_option maxHeartbeats 4000000 in
set_option maxRecDepth 20000 in
theorem idClocks_good (a b : List Rf) (va vb : Value) (w : World) (hE : ErrT w) (ha : RdS w a va) (hb : RdS w b vb) (hva : Vc a) (hvb : Vc b) :
    Calls Tryd.prog 3 #[va, vb] w fun e w' => e = .returned (.bool true) ∧ Below w.heap.size w w' := by
  have HA := Lib.hid ha
  have HB := Lib.hid hb
  have HET := Lib.hid hE
  have HV := Lib.hid (And.intro hva hvb)
  have R1 := Lib.hid ((refsE_vc a).mpr hva)
  have R2 := Lib.hid ((refsE_vc b).mpr hvb)
  have HW : Hid (Below w.heap.size w w) := Below.refl _ _
  clear ha hb hE hva hvb
  go_enter Tryd.func3, Tryd.ntmps3
  go_wp2_with fail
  go_at_call 8
  have RC := refClockS HA.out
  rw [R1.out] at RC
  refine RC.mono ?_
  clear RC
  rintro e w1 ⟨rfl, hb1⟩
  replace HW := Lib.hid (HW.out.trans (hb1.mono HW.out.size))
  replace HA := Lib.hid (HA.out.keep hb1)
  replace HB := Lib.hid (HB.out.keep hb1)
  clear hb1
  go_wp2_with fail
  go_at_call 9
  have RC := refsS HA.out
  rw [R1.out, errN_zero] at RC
  refine RC.mono ?_
  clear RC
  rintro e w2 ⟨rfl, hb1⟩
  replace HW := Lib.hid (HW.out.trans (hb1.mono HW.out.size))
  replace HA := Lib.hid (HA.out.keep hb1)
  replace HB := Lib.hid (HB.out.keep hb1)
  clear hb1 w1
  go_wp2_with fail
  go_at_call 10
  refine (told0 _ (HET.out.keep HW.out)).mono ?_
  rintro e w3 ⟨rfl, hb1⟩
  replace HW := Lib.hid (HW.out.trans (hb1.mono HW.out.size))
  replace HA := Lib.hid (HA.out.keep hb1)
  replace HB := Lib.hid (HB.out.keep hb1)
  clear hb1 w2
  go_wp2_with fail
  go_at_call 8
  have RC := refClockS HB.out
  rw [R2.out] at RC
  refine RC.mono ?_
  clear RC
  rintro e w4 ⟨rfl, hb1⟩
  replace HW := Lib.hid (HW.out.trans (hb1.mono HW.out.size))
  replace HA := Lib.hid (HA.out.keep hb1)
  replace HB := Lib.hid (HB.out.keep hb1)
  clear hb1 w3
  go_wp2_with fail
  go_at_call 11
  refine (refJoinS HA.out HB.out HV.out.1 HV.out.2).mono ?_
  rintro e w5 ⟨x, rfl, hr, hb1⟩
  replace HW := Lib.hid (HW.out.trans (hb1.mono HW.out.size))
  replace HA := Lib.hid (HA.out.keep hb1)
  replace HB := Lib.hid (HB.out.keep hb1)
  have HX := Lib.hid hr
  clear hb1 hr w4
  go_wp2_with fail
  go_at_call 12
  refine (sameD HX.out HA.out rfl).mono ?_
  rintro e w6 ⟨rfl, hb1⟩
  replace HW := Lib.hid (HW.out.trans (hb1.mono HW.out.size))
  replace HA := Lib.hid (HA.out.keep hb1)
  replace HB := Lib.hid (HB.out.keep hb1)
  replace HX := Lib.hid (HX.out.keep hb1)
  clear hb1 w5
  go_wp2_with fail
  go_at_call 13
  refine (joinS HA.out HB.out HV.out.1 HV.out.2).mono ?_
  rintro e w7 ⟨hb1, R, v, rfl, hj, hr⟩
  replace HW := Lib.hid (HW.out.trans (hb1.mono HW.out.size))
  replace HA := Lib.hid (HA.out.keep hb1)
  replace HB := Lib.hid (HB.out.keep hb1)
  replace HX := Lib.hid (HX.out.keep hb1)
  have HR := Lib.hid hr
  have HJ := Lib.hid hj
  have HRX := Lib.hid (refJ_join HV.out.1 HV.out.2 hj)
  clear hb1 hr hj w6
  go_wp2_with fail
  go_at_call 10
  refine (told0 _ (HET.out.keep HW.out)).mono ?_
  rintro e w8 ⟨rfl, hb1⟩
  replace HW := Lib.hid (HW.out.trans (hb1.mono HW.out.size))
  replace HA := Lib.hid (HA.out.keep hb1)
  replace HB := Lib.hid (HB.out.keep hb1)
  replace HX := Lib.hid (HX.out.keep hb1)
  replace HR := Lib.hid (HR.out.keep hb1)
  clear hb1 w7
  go_wp2_with fail
  go_at_call 12
  refine (sameD HR.out HX.out (decide_eq_true HRX.out)).mono ?_
  rintro e w9 ⟨rfl, hb1⟩
  replace HW := Lib.hid (HW.out.trans (hb1.mono HW.out.size))
  replace HA := Lib.hid (HA.out.keep hb1)
  replace HB := Lib.hid (HB.out.keep hb1)
  clear hb1 HX HR w8
  go_wp2_with fail
  go_at_call 14
  refine (coversS HA.out HB.out HV.out.1 HV.out.2).mono ?_
  rintro e w10 ⟨rfl, hb1⟩
  replace HW := Lib.hid (HW.out.trans (hb1.mono HW.out.size))
  replace HA := Lib.hid (HA.out.keep hb1)
  replace HB := Lib.hid (HB.out.keep hb1)
  clear hb1 w9
  go_wp2_with fail
  go_at_call 10
  refine (told0 _ (HET.out.keep HW.out)).mono ?_
  rintro e w11 ⟨rfl, hb1⟩
  replace HW := Lib.hid (HW.out.trans (hb1.mono HW.out.size))
  replace HA := Lib.hid (HA.out.keep hb1)
  replace HB := Lib.hid (HB.out.keep hb1)
  clear hb1 w10 HA HB
  have hc := HJ.out.covers HV.out.1
  rw [HRX.out] at hc
  rw [hc]
  clear hc
  generalize (!(aheadB a b)) = x
  cases x
  all_goals
    go_wp2_with fail
    go_ret
    exact ⟨rfl, HW.out⟩
theorem idClocks_walk (a b : List Rf) (va vb : Value) (w : World) (hE : ErrT w) (ha : RdS w a va) (hb : RdS w b vb) :
    Calls Tryd.prog 3 #[va, vb] w fun e w' => e = .returned (.bool true) ∧ Below w.heap.size w w' := by
  by_cases h : bothE a b = 0
  · exact idClocks_good a b va vb w hE ha hb ((bothE_iff a b).mp h).1 ((bothE_iff a b).mp h).2
  · exact idClocks_bad a b va vb w hE ha hb _ rfl h
end Go.Proofs.YtfaihilehdjfjaaDoor
