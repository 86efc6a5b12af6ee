/- Contracts: change.Check and the document's Change: what is wrong with a change. -/
import Derived.Test.YtclgfcjcpbiadaaGreatDoorOp2
set_option linter.unusedVariables false
set_option linter.unusedSimpArgs false
namespace Go.Proofs.YtclgfcjcpbiadaaGreatDoor
open Go.ChangeShapes Go.WideShapes Go.ChangeAt Go.RowKit

/-- an op's fields -/
structure OpD where
  k : Int
  on : Int
  oa : Int
  key : ByteArray
  en : Int
  ea : Int
  ins : Bool
  vk : Int
  vn : Int
  vt : ByteArray
  va : Int
  vb : Int
  A : Option Addr
  c : Nat
  l : List Rf
def opC (o : OpD) : List Value := [.int .i64 o.k, .int .i64 o.on, .int .i64 o.oa, .string o.key, .int .i64 o.en, .int .i64 o.ea, .bool o.ins, .int .i64 o.vk, .int .i64 o.vn, .string o.vt, .int .i64 o.va, .int .i64 o.vb, .slice o.A o.l.length o.c]
def opsC (l : List OpD) : List Value := l.flatMap opC
theorem opsC_at : ∀ {l : List OpD} {k : Nat} {o : OpD}, l[k]? = some o → ∀ i, i < 13 → (opsC l)[k * 13 + i]? = (opC o)[i]?
  | [], k, r, h => by simp at h
  | x :: l, 0, o, h => fun i hi => by
    simp at h; subst h
    simp only [opsC, List.flatMap_cons, Nat.zero_mul, Nat.zero_add]
    exact List.getElem?_append_left (by simp only [opC, List.length_cons, List.length_nil]; omega)
  | x :: l, k + 1, o, h => fun i hi => by
    have ih := opsC_at (l := l) (k := k) (by simpa using h) i hi
    have e : opsC (x :: l) = opC x ++ opsC l := by simp [opsC]
    have hx : (opC x).length = 13 := by simp [opC]
    rw [e, List.getElem?_append_right (by rw [hx]; omega), hx, show (k + 1) * 13 + i - 13 = k * 13 + i from by omega]
    exact ih
def opE' (o : OpD) : Nat := opE o.k o.on o.oa o.key o.en o.ea o.ins o.vk o.vn o.vt o.va o.vb o.l
def opsE : List OpD → Nat
  | [] => 0
  | o :: l => if opE' o = 0 then opsE l else opE' o
/-- what is wrong with a change -/
def chgE (a s st : Int) (deps : List Rf) (ops : List OpD) : Nat :=
  if isRef (a, s) = false ∨ st < 1 ∨ 1000000 < st then 1
  else if 12 < deps.length then 4
  else if refsE 0 deps ≠ 0 then refsE 0 deps
  else if 40 < ops.length then 4
  else if 1000000 < st + ops.length - 1 then 1
  else opsE ops
/-- a change's rows in memory -/
structure ChM (w : World) (deps : List Rf) (DA : Option Addr) (ops : List OpD) (OA : Option Addr) : Prop where
  hd : Reads (fun k => k < w.heap.size) w 2 DA deps.length (refC deps)
  hdl : deps.length ≤ 9223372036854775807
  ho : Reads (fun k => k < w.heap.size) w 13 OA ops.length (opsC ops)
  hol : ops.length ≤ 9223372036854775807
  hp : ∀ o ∈ ops, Reads (fun k => k < w.heap.size) w 2 o.A o.l.length (refC o.l) ∧ o.l.length ≤ 9223372036854775807
theorem reads_below {w w' : World} {size n : Nat} {A : Option Addr} {xs : List Value} (h : Reads (fun k => k < w.heap.size) w size A n xs) (hb : Below w.heap.size w w') : Reads (fun k => k < w'.heap.size) w' size A n xs :=
  (h.keep fun k hk => hb.block k hk).more fun _ hk => Nat.lt_of_lt_of_le hk hb.size
theorem ChM.keep {w w' : World} {deps : List Rf} {DA : Option Addr} {ops : List OpD} {OA : Option Addr} (h : ChM w deps DA ops OA) (hb : Below w.heap.size w w') : ChM w' deps DA ops OA :=
  ⟨reads_below h.hd hb, h.hdl, reads_below h.ho hb, h.hol, fun o ho => ⟨reads_below (h.hp o ho).1 hb, (h.hp o ho).2⟩⟩
theorem op_cells {w : World} {D : Nat → Prop} {OA : Option Addr} {ops : List OpD} {n : Nat} (h : Reads D w 13 OA n (opsC ops)) (hn : 0 < n) {j : Nat} {o : OpD} (hj : ops[j]? = some o) :
    ∃ b off, OA = some ⟨b, off, none⟩ ∧ D b ∧ ∀ w' : World, w'.heap[b]? = w.heap[b]? →
      w'.cell? ⟨b, off + j * 13, none⟩ = some (.int .i64 o.k) ∧ w'.cell? ⟨b, off + j * 13 + 1, none⟩ = some (.int .i64 o.on) ∧ w'.cell? ⟨b, off + j * 13 + 2, none⟩ = some (.int .i64 o.oa) ∧
      w'.cell? ⟨b, off + j * 13 + 3, none⟩ = some (.string o.key) ∧ w'.cell? ⟨b, off + j * 13 + 4, none⟩ = some (.int .i64 o.en) ∧ w'.cell? ⟨b, off + j * 13 + 5, none⟩ = some (.int .i64 o.ea) ∧
      w'.cell? ⟨b, off + j * 13 + 6, none⟩ = some (.bool o.ins) ∧ w'.cell? ⟨b, off + j * 13 + 7, none⟩ = some (.int .i64 o.vk) ∧ w'.cell? ⟨b, off + j * 13 + 8, none⟩ = some (.int .i64 o.vn) ∧
      w'.cell? ⟨b, off + j * 13 + 9, none⟩ = some (.string o.vt) ∧ w'.cell? ⟨b, off + j * 13 + 10, none⟩ = some (.int .i64 o.va) ∧ w'.cell? ⟨b, off + j * 13 + 11, none⟩ = some (.int .i64 o.vb) ∧
      w'.cell? ⟨b, off + j * 13 + 12, none⟩ = some (.slice o.A o.l.length o.c) := by
  obtain ⟨b, off, hA, hb, hc⟩ := h.at_ hn (by omega)
  have key : ∀ w' : World, w'.heap[b]? = w.heap[b]? → ∀ i u, i < 13 → (opC o)[i]? = some u → w'.cell? ⟨b, off + j * 13 + i, none⟩ = some u := fun w' hw i u hi hu => by
    have h1 : w'.cell? ⟨b, off + j * 13 + i, none⟩ = w.cell? ⟨b, off + j * 13 + i, none⟩ := World.cell?_of_block (w := w) hw
    rw [h1, Nat.add_assoc]
    exact hc _ _ (by rw [opsC_at hj i hi]; exact hu)
  exact ⟨b, off, hA, hb, fun w' hw => ⟨key w' hw 0 _ (by omega) rfl, key w' hw 1 _ (by omega) rfl, key w' hw 2 _ (by omega) rfl, key w' hw 3 _ (by omega) rfl, key w' hw 4 _ (by omega) rfl, key w' hw 5 _ (by omega) rfl,
    key w' hw 6 _ (by omega) rfl, key w' hw 7 _ (by omega) rfl, key w' hw 8 _ (by omega) rfl, key w' hw 9 _ (by omega) rfl, key w' hw 10 _ (by omega) rfl, key w' hw 11 _ (by omega) rfl, key w' hw 12 _ (by omega) rfl⟩⟩
theorem drop_op {l : List OpD} {k : Nat} {r : OpD} (h : l[k]? = some r) : l.drop k = r :: l.drop (k + 1) := by
  obtain ⟨hl, e⟩ := List.getElem?_eq_some_iff.1 h
  rw [List.drop_eq_getElem_cons hl, e]
theorem opX_any (o : OpD) (w : World) (hr : Reads (fun k => k < w.heap.size) w 2 o.A o.l.length (refC o.l)) (hl : o.l.length ≤ 9223372036854775807) :
    Calls Tryz.prog 58 #[.agg (opC o).toArray] w fun e w' => e = .returned (errN (opE' o)) ∧ Below w.heap.size w w' :=
  op_any _ _ _ _ _ _ _ _ _ _ _ _ _ _ _ _ _ w rfl hl hr fun _ h => h
theorem refOpX_any (o : OpD) (w : World) (hr : Reads (fun k => k < w.heap.size) w 2 o.A o.l.length (refC o.l)) (hl : o.l.length ≤ 9223372036854775807) :
    Calls Tryz.prog 54 #[.agg (opC o).toArray] w fun e w' => e = .returned (.int .i64 (opE' o)) ∧ Below w.heap.size w w' :=
  refOp_any _ _ _ _ _ _ _ _ _ _ _ _ _ _ _ _ _ w rfl hl hr fun _ h => h

set_option maxHeartbeats 8000000 in
set_option maxRecDepth 20000 in
theorem check_any (a s st : Int) (deps : List Rf) (DA : Option Addr) (dn DC : Nat) (ops : List OpD) (OA : Option Addr) (m OC : Nat) (w : World)
    (hC : ChM w deps DA ops OA) (hdn : deps.length = dn) (hm : ops.length = m) :
    Calls Tryz.prog 32 #[.agg #[.int .i64 a, .int .i64 s, .int .i64 st, .slice DA dn DC, .slice OA m OC]] w fun e w' => e = .returned (errN (chgE a s st deps ops)) ∧ Below w.heap.size w w' := by
  have HC := Lib.hid hC
  have HDN := Lib.hid hdn
  have HM := Lib.hid hm
  have hbd : dn ≤ 9223372036854775807 := by rw [← hdn]; exact hC.hdl
  have hbm : m ≤ 9223372036854775807 := by rw [← hm]; exact hC.hol
  have HW := Lib.hid ((Below.refl _ w).alloc (Nat.le_refl _) (.cells #[.int .i64 a, .int .i64 s, .int .i64 st, .slice DA dn DC, .slice OA m OC] 34))
  have HBC := Lib.hid (Blk.new w 34 #[.int .i64 a, .int .i64 s, .int .i64 st, .slice DA dn DC, .slice OA m OC])
  have R1 := cref_any (a, s)
  unfold refV at R1
  clear hC hdn hm
  go_enter Tryz.func32, Tryz.ntmps32
  go_wp2_with fail
  go_at_call 45
  refine (R1 _).mono ?_
  rintro e w1 ⟨rfl, hb⟩
  replace HBC := Lib.hid (HBC.out.keep (hb.block _ HBC.out.lt))
  replace HW := Lib.hid (HW.out.trans (hb.mono HW.out.size))
  clear hb
  try clear c0 c1 c2 c3 c4
  have c0 : w1.cell? ⟨w.heap.size, 0, none⟩ = some (.int .i64 a) := HBC.out.cell 0
  have c1 : w1.cell? ⟨w.heap.size, 1, none⟩ = some (.int .i64 s) := HBC.out.cell 1
  have c2 : w1.cell? ⟨w.heap.size, 2, none⟩ = some (.int .i64 st) := HBC.out.cell 2
  have c3 : w1.cell? ⟨w.heap.size, 3, none⟩ = some (.slice DA dn DC) := HBC.out.cell 3
  have c4 : w1.cell? ⟨w.heap.size, 4, none⟩ = some (.slice OA m OC) := HBC.out.cell 4
  clear R1
  cases hr : isRef (a, s)
  · have HV : Hid (chgE a s st deps ops = 1) := by show _ = _; rw [chgE, if_pos (Or.inl hr)]
    go_wp2_with fail
    go_ret
    exact ⟨by rw [HV.out]; rfl, HW.out⟩
  by_cases h1 : st < 1
  · have HV : Hid (chgE a s st deps ops = 1) := by show _ = _; rw [chgE, if_pos (Or.inr (Or.inl h1))]
    have d1 : decide (st < 1) = true := decide_eq_true h1
    clear h1
    go_wp2_with fail
    go_ret
    exact ⟨by rw [HV.out]; rfl, HW.out⟩
  have d1 : decide (st < 1) = false := decide_eq_false h1
  by_cases h2 : 1000000 < st
  · have HV : Hid (chgE a s st deps ops = 1) := by show _ = _; rw [chgE, if_pos (Or.inr (Or.inr h2))]
    have d2 : decide (1000000 < st) = true := decide_eq_true h2
    clear h1 h2
    go_wp2_with fail
    go_ret
    exact ⟨by rw [HV.out]; rfl, HW.out⟩
  have d2 : decide (1000000 < st) = false := decide_eq_false h2
  have HS : Hid (1 ≤ st ∧ st ≤ 1000000) := by show _ ∧ _; omega
  have HV0 : Hid (chgE a s st deps ops = if 12 < deps.length then 4 else if refsE 0 deps ≠ 0 then refsE 0 deps else if 40 < ops.length then 4 else if 1000000 < st + ops.length - 1 then 1 else opsE ops) := by
    show _ = _
    rw [chgE, if_neg]
    rintro (h | h | h)
    · rw [hr] at h; cases h
    · exact h1 h
    · exact h2 h
  clear h1 h2
  by_cases h3 : 12 < dn
  · have HV : Hid (chgE a s st deps ops = 4) := by show _ = _; rw [HV0.out, if_pos (by rw [HDN.out]; exact h3)]
    have d3 : decide (12 < (dn : Int)) = true := decide_eq_true (by omega)
    clear h3
    go_wp2_with fail
    go_ret
    exact ⟨by rw [HV.out]; rfl, HW.out⟩
  have d3 : decide (12 < (dn : Int)) = false := decide_eq_false (by omega)
  have H3 := Lib.hid h3
  clear h3 hr
  go_wp2_with fail
  clear d1 d2 d3
  have HCk := fun w' (hb : Below w.heap.size w w') => HC.out.keep hb
  have RF := refs_any deps _ DA DC w1 (HC.out.keep HW.out).hd (fun k h => h) HC.out.hdl
  rw [HDN.out] at RF
  go_at_call 57
  by_cases h4 : refsE 0 deps = 0
  case neg =>
    have HV : Hid (chgE a s st deps ops = refsE 0 deps) := by show _ = _; rw [HV0.out, if_neg (by rw [HDN.out]; exact H3.out), if_pos h4]
    rw [show errN (refsE 0 deps) = .iface 65 (.int .i64 (refsE 0 deps)) from if_neg h4] at RF
    have HE : Hid (errN (refsE 0 deps) = .iface 65 (.int .i64 (refsE 0 deps))) := by show _ = _; exact if_neg h4
    generalize refsE 0 deps = ie at *
    clear h4 HV0
    refine RF.mono ?_
    rintro e w2 ⟨rfl, hb⟩
    replace HBC := Lib.hid (HBC.out.keep (hb.block _ HBC.out.lt))
    replace HW := Lib.hid (HW.out.trans (hb.mono HW.out.size))
    clear hb
    try clear c0 c1 c2 c3 c4
    have c0 : w2.cell? ⟨w.heap.size, 0, none⟩ = some (.int .i64 a) := HBC.out.cell 0
    have c1 : w2.cell? ⟨w.heap.size, 1, none⟩ = some (.int .i64 s) := HBC.out.cell 1
    have c2 : w2.cell? ⟨w.heap.size, 2, none⟩ = some (.int .i64 st) := HBC.out.cell 2
    have c3 : w2.cell? ⟨w.heap.size, 3, none⟩ = some (.slice DA dn DC) := HBC.out.cell 3
    have c4 : w2.cell? ⟨w.heap.size, 4, none⟩ = some (.slice OA m OC) := HBC.out.cell 4
    go_wp2_with fail
    go_ret
    exact ⟨by rw [HV.out, HE.out]; rfl, HW.out⟩
  have HV1 : Hid (chgE a s st deps ops = if 40 < ops.length then 4 else if 1000000 < st + ops.length - 1 then 1 else opsE ops) := by
    show _ = _; rw [HV0.out, if_neg (by rw [HDN.out]; exact H3.out), if_neg (by rw [h4]; simp)]
  rw [h4, show errN 0 = .nilIface from rfl] at RF
  clear h4 HV0
  refine RF.mono ?_
  rintro e w2 ⟨rfl, hb⟩
  replace HBC := Lib.hid (HBC.out.keep (hb.block _ HBC.out.lt))
  replace HW := Lib.hid (HW.out.trans (hb.mono HW.out.size))
  clear hb
  try clear c0 c1 c2 c3 c4
  have c0 : w2.cell? ⟨w.heap.size, 0, none⟩ = some (.int .i64 a) := HBC.out.cell 0
  have c1 : w2.cell? ⟨w.heap.size, 1, none⟩ = some (.int .i64 s) := HBC.out.cell 1
  have c2 : w2.cell? ⟨w.heap.size, 2, none⟩ = some (.int .i64 st) := HBC.out.cell 2
  have c3 : w2.cell? ⟨w.heap.size, 3, none⟩ = some (.slice DA dn DC) := HBC.out.cell 3
  have c4 : w2.cell? ⟨w.heap.size, 4, none⟩ = some (.slice OA m OC) := HBC.out.cell 4
  clear RF
  by_cases h5 : 40 < m
  · have HV : Hid (chgE a s st deps ops = 4) := by show _ = _; rw [HV1.out, if_pos (by rw [HM.out]; exact h5)]
    have d1 : decide (40 < (m : Int)) = true := decide_eq_true (by omega)
    clear h5
    go_wp2_with fail
    go_ret
    exact ⟨by rw [HV.out]; rfl, HW.out⟩
  have d1 : decide (40 < (m : Int)) = false := decide_eq_false (by omega)
  have x1 : IntKind.i64.wrap (st + (m : Int)) = st + (m : Int) := IntWalk.i64_in _ (by have := HS.out; omega)
  have x2 : IntKind.i64.wrap (st + (m : Int) - 1) = st + (m : Int) - 1 := IntWalk.i64_in _ (by have := HS.out; omega)
  by_cases h6 : 1000000 < st + (m : Int) - 1
  · have HV : Hid (chgE a s st deps ops = 1) := by show _ = _; rw [HV1.out, if_neg (by rw [HM.out]; exact h5), if_pos (by rw [HM.out]; exact h6)]
    have d2 : decide (1000000 < st + (m : Int) - 1) = true := decide_eq_true h6
    clear h5 h6
    go_wp2_with fail
    go_ret
    exact ⟨by rw [HV.out]; rfl, HW.out⟩
  have d2 : decide (1000000 < st + (m : Int) - 1) = false := decide_eq_false h6
  have HV2 : Hid (chgE a s st deps ops = opsE ops) := by show _ = _; rw [HV1.out, if_neg (by rw [HM.out]; exact h5), if_neg (by rw [HM.out]; exact h6)]
  clear h5 h6 HV1
  go_wp2_with fail
  clear d1 d2 x1 x2 c0 c1 c2 c3 c4
  go_loopw [55] (fun s wr => ∃ j : Nat, j ≤ m ∧ s = .int .i64 j ∧ Hid (Below w.heap.size w wr) ∧ Hid (opsE ops = opsE (ops.drop j))) (fun s _ => m - (intOf s).toNat)
  case atStart => exact ⟨0, by omega, rfl, HW, by show _ = _; rw [List.drop_zero]⟩
  case round =>
    clear HW HBC
    obtain ⟨j, hj, rfl, HW, HO⟩ := hrel
    by_cases hlt : j < m
    · obtain ⟨o, ho⟩ : ∃ o, ops[j]? = some o := get_lt (by rw [HM.out]; exact hlt)
      obtain ⟨b, off, hA, hb, hcs⟩ := op_cells (HC.out.ho) (by rw [HM.out]; omega) ho
      have hcw := hcs wr (HW.out.block b hb)
      have hmem := List.mem_of_getElem? ho
      have hd := drop_op ho
      have HP := HC.out.keep (HW.out.alloc HW.out.size (.cells (opC o).toArray 87))
      have OX := opX_any o _ (HP.hp o hmem).1 (HP.hp o hmem).2
      clear hcs HP hmem
      have HX : Hid (opsE ops = if opE' o = 0 then opsE (ops.drop (j + 1)) else opE' o) := by show _ = _; rw [HO.out, hd]; rfl
      generalize opE' o = oe at OX HX
      have HWA : Hid (Below w.heap.size w (wr.alloc (.cells (opC o).toArray 87))) := HW.out.alloc HW.out.size _
      obtain ⟨y0, y1, y2, y3, y4, y5, y6, y7, y8, y9, y10, y11, y12⟩ := hcw
      subst hA
      simp only [opC] at OX HWA
      generalize o.l.length = ol at *
      clear hd ho HO
      go_wp2_with fail
      go_at_call 58
      by_cases hoe : oe = 0
      · subst hoe
        have HN : Hid (opsE ops = opsE (ops.drop (j + 1))) := by show _ = _; rw [HX.out, if_pos rfl]
        rw [show errN 0 = .nilIface from rfl] at OX
        refine OX.mono ?_
        rintro e w3 ⟨rfl, hb3⟩
        have HW3 := Lib.hid (HWA.out.trans (hb3.mono HWA.out.size))
        clear OX hb3 HX HWA y0 y1 y2 y3 y4 y5 y6 y7 y8 y9 y10 y11 y12
        go_wp2_with fail
        first
          | exact ⟨⟨j + 1, by omega, by go_num, HW3, HN⟩, by simp [intOf]; omega⟩
          | (go_roundw
             case rel => exact ⟨j + 1, by omega, by go_num, HW3, HN⟩
             case measure => simp [intOf]; omega)
      · have HF : Hid (chgE a s st deps ops = oe) := by show _ = _; rw [HV2.out, HX.out, if_neg hoe]
        have HE : Hid (errN oe = .iface 65 (.int .i64 oe)) := by show _ = _; exact if_neg hoe
        rw [HE.out] at OX
        refine OX.mono ?_
        rintro e w3 ⟨rfl, hb3⟩
        have HW3 := Lib.hid (HWA.out.trans (hb3.mono HWA.out.size))
        clear OX hb3 HX HWA hoe y0 y1 y2 y3 y4 y5 y6 y7 y8 y9 y10 y11 y12
        go_wp2_with fail
        go_ret
        exact ⟨by rw [HF.out, HE.out]; rfl, HW3.out⟩
    · have HF : Hid (chgE a s st deps ops = 0) := by
        show _ = _
        rw [HV2.out, HO.out, List.drop_of_length_le (by rw [HM.out]; omega)]; rfl
      go_wp2_with fail
      go_ret
      exact ⟨by rw [HF.out]; rfl, HW.out⟩
end Go.Proofs.YtclgfcjcpbiadaaGreatDoor
