/- Contracts: the document's Change: what is wrong with a change. -/
import Derived.Test.YtclgfcjcpbiadaaGreatDoorChg1
set_option linter.unusedVariables false
set_option linter.unusedSimpArgs false
namespace Go.Proofs.YtclgfcjcpbiadaaGreatDoor
open Go.ChangeShapes Go.WideShapes Go.ChangeAt Go.RowKit

set_option maxHeartbeats 8000000 in
set_option maxRecDepth 20000 in
theorem refChange_any (a s st : Int) (deps : List Rf) (DA : Option Addr) (dn DC : Nat) (ops : List OpD) (OA : Option Addr) (m OC : Nat) (w : World)
    (hC : ChM w deps DA ops OA) (hdn : deps.length = dn) (hm : ops.length = m) :
    Calls Tryz.prog 26 #[.agg #[.int .i64 a, .int .i64 s, .int .i64 st, .slice DA dn DC, .slice OA m OC]] w fun e w' => e = .returned (.int .i64 (chgE a s st deps ops)) ∧ Below w.heap.size w w' := by
  have HC := Lib.hid hC
  have HDN := Lib.hid hdn
  have HM := Lib.hid hm
  have hbd : dn ≤ 9223372036854775807 := by rw [← hdn]; exact hC.hdl
  have hbm : m ≤ 9223372036854775807 := by rw [← hm]; exact hC.hol
  have HW := Lib.hid ((Below.refl _ w).alloc (Nat.le_refl _) (.cells #[.int .i64 a, .int .i64 s, .int .i64 st, .slice DA dn DC, .slice OA m OC] 34))
  have HBC := Lib.hid (Blk.new w 34 #[.int .i64 a, .int .i64 s, .int .i64 st, .slice DA dn DC, .slice OA m OC])
  have R1 := refRef_any (a, s)
  unfold refV at R1
  clear hC hdn hm
  go_enter Tryz.func26, Tryz.ntmps26
  go_wp2_with fail
  go_at_call 43
  refine (R1 _).mono ?_
  rintro e w1 ⟨rfl, hb⟩
  replace HBC := Lib.hid (HBC.out.keep (hb.block _ HBC.out.lt))
  replace HW := Lib.hid (HW.out.trans (hb.mono HW.out.size))
  clear hb
  try clear c0 c1 c2 c3 c4
  have c0 : w1.cell? ⟨w.heap.size, 0, none⟩ = some (.int .i64 a) := HBC.out.cell 0
  have c1 : w1.cell? ⟨w.heap.size, 1, none⟩ = some (.int .i64 s) := HBC.out.cell 1
  have c2 : w1.cell? ⟨w.heap.size, 2, none⟩ = some (.int .i64 st) := HBC.out.cell 2
  have c3 : w1.cell? ⟨w.heap.size, 3, none⟩ = some (.slice DA dn DC) := HBC.out.cell 3
  have c4 : w1.cell? ⟨w.heap.size, 4, none⟩ = some (.slice OA m OC) := HBC.out.cell 4
  clear R1
  cases hr : isRef (a, s)
  · have HV : Hid (chgE a s st deps ops = 1) := by show _ = _; rw [chgE, if_pos (Or.inl hr)]
    go_wp2_with fail
    go_ret
    exact ⟨by rw [HV.out]; rfl, HW.out⟩
  by_cases h1 : st < 1
  · have HV : Hid (chgE a s st deps ops = 1) := by show _ = _; rw [chgE, if_pos (Or.inr (Or.inl h1))]
    have d1 : decide (st < 1) = true := decide_eq_true h1
    clear h1
    go_wp2_with fail
    go_ret
    exact ⟨by rw [HV.out]; rfl, HW.out⟩
  have d1 : decide (st < 1) = false := decide_eq_false h1
  by_cases h2 : 1000000 < st
  · have HV : Hid (chgE a s st deps ops = 1) := by show _ = _; rw [chgE, if_pos (Or.inr (Or.inr h2))]
    have d2 : decide (1000000 < st) = true := decide_eq_true h2
    clear h1 h2
    go_wp2_with fail
    go_ret
    exact ⟨by rw [HV.out]; rfl, HW.out⟩
  have d2 : decide (1000000 < st) = false := decide_eq_false h2
  have HS : Hid (1 ≤ st ∧ st ≤ 1000000) := by show _ ∧ _; omega
  have HV0 : Hid (chgE a s st deps ops = if 12 < deps.length then 4 else if refsE 0 deps ≠ 0 then refsE 0 deps else if 40 < ops.length then 4 else if 1000000 < st + ops.length - 1 then 1 else opsE ops) := by
    show _ = _
    rw [chgE, if_neg]
    rintro (h | h | h)
    · rw [hr] at h; cases h
    · exact h1 h
    · exact h2 h
  clear h1 h2
  by_cases h3 : 12 < dn
  · have HV : Hid (chgE a s st deps ops = 4) := by show _ = _; rw [HV0.out, if_pos (by rw [HDN.out]; exact h3)]
    have d3 : decide (12 < (dn : Int)) = true := decide_eq_true (by omega)
    clear h3
    go_wp2_with fail
    go_ret
    exact ⟨by rw [HV.out]; rfl, HW.out⟩
  have d3 : decide (12 < (dn : Int)) = false := decide_eq_false (by omega)
  have H3 := Lib.hid h3
  clear h3 hr
  go_wp2_with fail
  clear d1 d2 d3
  have HCk := fun w' (hb : Below w.heap.size w w') => HC.out.keep hb
  have RF := refClock_any deps _ DA DC w1 (HC.out.keep HW.out).hd (fun k h => h) HC.out.hdl
  rw [HDN.out] at RF
  go_at_call 53
  by_cases h4 : refsE 0 deps = 0
  case neg =>
    have HV : Hid (chgE a s st deps ops = refsE 0 deps) := by show _ = _; rw [HV0.out, if_neg (by rw [HDN.out]; exact H3.out), if_pos h4]
    generalize refsE 0 deps = ie at *
    have d4 : ((ie : Int) == 0) = false := by simp; omega
    clear h4 HV0
    refine RF.mono ?_
    rintro e w2 ⟨rfl, hb⟩
    replace HBC := Lib.hid (HBC.out.keep (hb.block _ HBC.out.lt))
    replace HW := Lib.hid (HW.out.trans (hb.mono HW.out.size))
    clear hb
    try clear c0 c1 c2 c3 c4
    have c0 : w2.cell? ⟨w.heap.size, 0, none⟩ = some (.int .i64 a) := HBC.out.cell 0
    have c1 : w2.cell? ⟨w.heap.size, 1, none⟩ = some (.int .i64 s) := HBC.out.cell 1
    have c2 : w2.cell? ⟨w.heap.size, 2, none⟩ = some (.int .i64 st) := HBC.out.cell 2
    have c3 : w2.cell? ⟨w.heap.size, 3, none⟩ = some (.slice DA dn DC) := HBC.out.cell 3
    have c4 : w2.cell? ⟨w.heap.size, 4, none⟩ = some (.slice OA m OC) := HBC.out.cell 4
    go_wp2_with fail
    go_ret
    exact ⟨by rw [HV.out]; rfl, HW.out⟩
  have HV1 : Hid (chgE a s st deps ops = if 40 < ops.length then 4 else if 1000000 < st + ops.length - 1 then 1 else opsE ops) := by
    show _ = _; rw [HV0.out, if_neg (by rw [HDN.out]; exact H3.out), if_neg (by rw [h4]; simp)]
  rw [h4] at RF
  clear h4 HV0
  refine RF.mono ?_
  rintro e w2 ⟨rfl, hb⟩
  replace HBC := Lib.hid (HBC.out.keep (hb.block _ HBC.out.lt))
  replace HW := Lib.hid (HW.out.trans (hb.mono HW.out.size))
  clear hb
  try clear c0 c1 c2 c3 c4
  have c0 : w2.cell? ⟨w.heap.size, 0, none⟩ = some (.int .i64 a) := HBC.out.cell 0
  have c1 : w2.cell? ⟨w.heap.size, 1, none⟩ = some (.int .i64 s) := HBC.out.cell 1
  have c2 : w2.cell? ⟨w.heap.size, 2, none⟩ = some (.int .i64 st) := HBC.out.cell 2
  have c3 : w2.cell? ⟨w.heap.size, 3, none⟩ = some (.slice DA dn DC) := HBC.out.cell 3
  have c4 : w2.cell? ⟨w.heap.size, 4, none⟩ = some (.slice OA m OC) := HBC.out.cell 4
  clear RF
  by_cases h5 : 40 < m
  · have HV : Hid (chgE a s st deps ops = 4) := by show _ = _; rw [HV1.out, if_pos (by rw [HM.out]; exact h5)]
    have d1 : decide (40 < (m : Int)) = true := decide_eq_true (by omega)
    clear h5
    go_wp2_with fail
    go_ret
    exact ⟨by rw [HV.out]; rfl, HW.out⟩
  have d1 : decide (40 < (m : Int)) = false := decide_eq_false (by omega)
  have x1 : IntKind.i64.wrap (st + (m : Int)) = st + (m : Int) := IntWalk.i64_in _ (by have := HS.out; omega)
  have x2 : IntKind.i64.wrap (st + (m : Int) - 1) = st + (m : Int) - 1 := IntWalk.i64_in _ (by have := HS.out; omega)
  by_cases h6 : 1000000 < st + (m : Int) - 1
  · have HV : Hid (chgE a s st deps ops = 1) := by show _ = _; rw [HV1.out, if_neg (by rw [HM.out]; exact h5), if_pos (by rw [HM.out]; exact h6)]
    have d2 : decide (1000000 < st + (m : Int) - 1) = true := decide_eq_true h6
    clear h5 h6
    go_wp2_with fail
    go_ret
    exact ⟨by rw [HV.out]; rfl, HW.out⟩
  have d2 : decide (1000000 < st + (m : Int) - 1) = false := decide_eq_false h6
  have HV2 : Hid (chgE a s st deps ops = opsE ops) := by show _ = _; rw [HV1.out, if_neg (by rw [HM.out]; exact h5), if_neg (by rw [HM.out]; exact h6)]
  clear h5 h6 HV1
  go_wp2_with fail
  clear d1 d2 x1 x2 c0 c1 c2 c3 c4
  go_loopw [5] (fun z wr => ∃ j : Nat, j ≤ m ∧ z = .int .i64 j ∧ Hid (Below w.heap.size w wr) ∧ Hid (Blk wr w.heap.size 34 #[.int .i64 a, .int .i64 s, .int .i64 st, .slice DA dn DC, .slice OA m OC]) ∧ Hid (opsE ops = opsE (ops.drop j))) (fun z _ => m - (intOf z).toNat)
  case atStart => exact ⟨0, by omega, rfl, HW, HBC, by show _ = _; rw [List.drop_zero]⟩
  case round =>
    clear HW HBC
    obtain ⟨j, hj, rfl, HW, HBC, HO⟩ := hrel
    have c0 : wr.cell? ⟨w.heap.size, 0, none⟩ = some (.int .i64 a) := HBC.out.cell 0
    have c1 : wr.cell? ⟨w.heap.size, 1, none⟩ = some (.int .i64 s) := HBC.out.cell 1
    have c2 : wr.cell? ⟨w.heap.size, 2, none⟩ = some (.int .i64 st) := HBC.out.cell 2
    have c3 : wr.cell? ⟨w.heap.size, 3, none⟩ = some (.slice DA dn DC) := HBC.out.cell 3
    have c4 : wr.cell? ⟨w.heap.size, 4, none⟩ = some (.slice OA m OC) := HBC.out.cell 4
    by_cases hlt : j < m
    · obtain ⟨o, ho⟩ : ∃ o, ops[j]? = some o := get_lt (by rw [HM.out]; exact hlt)
      obtain ⟨b, off, hA, hb, hcs⟩ := op_cells (HC.out.ho) (by rw [HM.out]; omega) ho
      have hcw := hcs wr (HW.out.block b hb)
      have hmem := List.mem_of_getElem? ho
      have hd := drop_op ho
      have HP := HC.out.keep HW.out
      have OX := refOpX_any o _ (HP.hp o hmem).1 (HP.hp o hmem).2
      clear hcs HP hmem
      have HX : Hid (opsE ops = if opE' o = 0 then opsE (ops.drop (j + 1)) else opE' o) := by show _ = _; rw [HO.out, hd]; rfl
      generalize opE' o = oe at OX HX
      obtain ⟨y0, y1, y2, y3, y4, y5, y6, y7, y8, y9, y10, y11, y12⟩ := hcw
      subst hA
      simp only [opC] at OX
      generalize o.l.length = ol at *
      clear hd ho HO
      go_wp2_with fail
      go_at_call 54
      refine OX.mono ?_
      rintro e w3 ⟨rfl, hb3⟩
      have HW3 := Lib.hid (HW.out.trans (hb3.mono HW.out.size))
      have HB3 : Hid (Blk w3 w.heap.size 34 #[.int .i64 a, .int .i64 s, .int .i64 st, .slice DA dn DC, .slice (some ⟨b, off, none⟩) m OC]) := Lib.hid (HBC.out.keep (hb3.block _ HBC.out.lt))
      clear OX hb3 y0 y1 y2 y3 y4 y5 y6 y7 y8 y9 y10 y11 y12 c0 c1 c2 c3 c4
      by_cases hoe : oe = 0
      · subst hoe
        have HN : Hid (opsE ops = opsE (ops.drop (j + 1))) := by show _ = _; rw [HX.out, if_pos rfl]
        clear HX
        go_wp2_with fail
        first
          | exact ⟨⟨j + 1, by omega, by go_num, HW3, HB3, HN⟩, by simp [intOf]; omega⟩
          | (go_roundw
             case rel => exact ⟨j + 1, by omega, by go_num, HW3, HB3, HN⟩
             case measure => simp [intOf]; omega)
      · have HF : Hid (chgE a s st deps ops = oe) := by show _ = _; rw [HV2.out, HX.out, if_neg hoe]
        have d4 : ((oe : Int) == 0) = false := by simp; omega
        clear HX hoe
        go_wp2_with fail
        go_ret
        exact ⟨by rw [HF.out]; rfl, HW3.out⟩
    · have HF : Hid (chgE a s st deps ops = 0) := by
        show _ = _
        rw [HV2.out, HO.out, List.drop_of_length_le (by rw [HM.out]; omega)]; rfl
      go_wp2_with fail
      go_ret
      exact ⟨by rw [HF.out]; rfl, HW.out⟩
end Go.Proofs.YtclgfcjcpbiadaaGreatDoor
