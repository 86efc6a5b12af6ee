/- Contracts: change.Encode. -/
import Derived.Test.YtoolpppbbphbjaaEncW
namespace Go.Proofs.Ytoolpppbbphbjaa
open Go.ChangeShapes Go.WideShapes Go.ChangeAt Go.RowKit

theorem encBad_any (a s st : Int) (deps : List Rf) (DA : Option Addr) (dn DC : Nat) (ops : List OpD) (OA : Option Addr) (m OC : Nat) (w : World)
    (hC : ChM w deps DA ops OA) (hdn : deps.length = dn) (hm : ops.length = m) (k : Nat) (hz : chgE a s st deps ops = k) (h0 : k ≠ 0) :
    Calls Try.prog 4 #[.agg #[.int .i64 a, .int .i64 s, .int .i64 st, .slice DA dn DC, .slice OA m OC]] w fun e w' => e = .returned (.tuple #[.slice none 0 0, .iface 56 (.int .i64 k)]) ∧ Below w.heap.size w w' := by
  have CK := check_any a s st deps DA dn DC ops OA m OC (w.alloc (.cells #[.int .i64 a, .int .i64 s, .int .i64 st, .slice DA dn DC, .slice OA m OC] 25)) (hC.keep ((Below.refl _ w).alloc (Nat.le_refl _) _)) hdn hm
  rw [hz, show errN k = .iface 56 (.int .i64 k) from if_neg h0] at CK
  clear hC hz
  go_enter Try.func4, Try.ntmps4
  go_wp2_with fail
  go_at_call 7
  refine CK.mono ?_
  rintro e w1 ⟨rfl, hb⟩
  go_wp2_with fail
  go_ret2
  exact ⟨rfl, ((Below.refl _ w).alloc (Nat.le_refl _) _).trans (hb.mono (by simp))⟩
set_option maxHeartbeats 16000000 in
set_option maxRecDepth 20000 in
theorem enc_any (a s st : Int) (deps : List Rf) (DA : Option Addr) (dn DC : Nat) (ops : List OpD) (OA : Option Addr) (m OC : Nat) (w : World)
    (hC : ChM w deps DA ops OA) (hdn : deps.length = dn) (hm : ops.length = m) (hz : chgE a s st deps ops = 0) (hG : EncG a s st deps ops) :
    Calls Try.prog 4 #[.agg #[.int .i64 a, .int .i64 s, .int .i64 st, .slice DA dn DC, .slice OA m OC]] w fun e w' => ∃ v, e = .returned (.tuple #[v, .nilIface]) ∧ Acc w w' v (encL a s st deps ops) := by
  have CK := check_any a s st deps DA dn DC ops OA m OC (w.alloc (.cells #[.int .i64 a, .int .i64 s, .int .i64 st, .slice DA dn DC, .slice OA m OC] 25)) (hC.keep ((Below.refl _ w).alloc (Nat.le_refl _) _)) hdn hm
  rw [hz, show errN 0 = .nilIface from rfl] at CK
  have HC := Lib.hid hC
  have HDN := Lib.hid hdn
  have HM := Lib.hid hm
  have HG := Lib.hid hG
  have hbd : dn ≤ 12 := by rw [← hdn]; exact hG.dl
  have hbm : m ≤ 40 := by rw [← hm]; exact hG.ol
  have HBC := Lib.hid (Blk.new w 25 #[.int .i64 a, .int .i64 s, .int .i64 st, .slice DA dn DC, .slice OA m OC])
  have hG4 : ∀ x ∈ [a, s, st, (dn : Int)], NatI x := by simp only [List.mem_cons, List.not_mem_nil, or_false]; rintro x (rfl | rfl | rfl | rfl); exact hG.a; exact hG.s; exact hG.st; exact ⟨by omega, by omega⟩
  have HG4 := Lib.hid hG4
  clear hC hdn hm hG hG4
  go_enter Try.func4, Try.ntmps4
  go_wp2_with fail
  go_at_call 7
  refine CK.mono ?_
  rintro e w1 ⟨rfl, hb⟩
  replace HBC := Lib.hid (HBC.out.keep (hb.block _ HBC.out.lt))
  have HW1 : Hid (Below w.heap.size w w1) := ((Below.refl _ w).alloc (Nat.le_refl _) _).trans (hb.mono (by simp))
  clear hb CK
  have c0 : w1.cell? ⟨w.heap.size, 0, none⟩ = some (.int .i64 a) := HBC.out.cell 0
  have c1 : w1.cell? ⟨w.heap.size, 1, none⟩ = some (.int .i64 s) := HBC.out.cell 1
  have c2 : w1.cell? ⟨w.heap.size, 2, none⟩ = some (.int .i64 st) := HBC.out.cell 2
  have c3 : w1.cell? ⟨w.heap.size, 3, none⟩ = some (.slice DA dn DC) := HBC.out.cell 3
  have c4 : w1.cell? ⟨w.heap.size, 4, none⟩ = some (.slice OA m OC) := HBC.out.cell 4
  have hlt1 := HBC.out.lt
  have HGE : Hid (w.heap.size ≤ w1.heap.size) := HW1.out.size
  have HA0 : Hid (WAcc w (w1.alloc (.cells #[.slice none 0 0] 43)) w1.heap.size []) := ⟨_, Blk.new _ _ _, own_nil _ _ _ _, HW1.out.alloc HW1.out.size _⟩
  have N1 := wnums_step HA0.out HGE.out [a, s, st, (dn : Int)] 4 #[.int .i64 a, .int .i64 s, .int .i64 st, .int .i64 (dn : Int)] rfl rfl (by omega) (by simp) HG4.out (w1.heap.size + 1) (by simp)
  go_wp2_with fail
  go_at_call 8
  refine N1.mono ?_
  rintro e w2 ⟨rfl, hA, hk⟩
  replace HBC := Lib.hid (hk _ _ _ (HBC.out.alloc _) (by decide) (by decide))
  have HA1 : Hid (WAcc w w2 w1.heap.size (numsL [a, s, st, (dn : Int)] ++ (deps.take 0).flatMap pairB)) := by show WAcc _ _ _ _; simpa using hA
  clear N1 hA hk c0 c1 c2 c3 c4 hlt1 HA0 HW1
  have c0 : w2.cell? ⟨w.heap.size, 0, none⟩ = some (.int .i64 a) := HBC.out.cell 0
  have c1 : w2.cell? ⟨w.heap.size, 1, none⟩ = some (.int .i64 s) := HBC.out.cell 1
  have c2 : w2.cell? ⟨w.heap.size, 2, none⟩ = some (.int .i64 st) := HBC.out.cell 2
  have c3 : w2.cell? ⟨w.heap.size, 3, none⟩ = some (.slice DA dn DC) := HBC.out.cell 3
  have c4 : w2.cell? ⟨w.heap.size, 4, none⟩ = some (.slice OA m OC) := HBC.out.cell 4
  generalize w1.heap.size = g at HGE HA1 ⊢
  go_wp2_with fail
  clear c0 c1 c2 c3 c4
  go_loopw [32] (fun i wr => ∃ j : Nat, j ≤ dn ∧ i = .int .i64 j ∧ Hid (WAcc w wr g (numsL [a, s, st, (dn : Int)] ++ (deps.take j).flatMap pairB)) ∧ Hid (Blk wr w.heap.size 25 #[.int .i64 a, .int .i64 s, .int .i64 st, .slice DA dn DC, .slice OA m OC])) (fun i _ => dn - (intOf i).toNat)
  case atStart => exact ⟨0, by omega, rfl, HA1, HBC⟩
  case round =>
    clear HA1 HBC
    obtain ⟨j, hj, rfl, HA, HBC⟩ := hrel
    have HWB : Hid (Below w.heap.size w wr) := by obtain ⟨_, _, _, h⟩ := HA.out; exact h
    have hal : (numsL [a, s, st, (dn : Int)] ++ (deps.take j).flatMap pairB).length ≤ 300 := by
      have h1 := numsL_le (l := [a, s, st, (dn : Int)]) (n := 4) rfl
      have h2 := pairs_len (deps.take j)
      simp only [List.length_append, List.length_take] at h2 ⊢
      omega
    by_cases hlt : j < dn
    · obtain ⟨r, hr⟩ : ∃ r, deps[j]? = some r := get_lt (by rw [HDN.out]; exact hlt)
      obtain ⟨r1, r2⟩ := r
      have hrd := HC.out.hd
      rw [HDN.out] at hrd
      obtain ⟨b, off, hA, hb, hcs⟩ := refC_cells hrd (by omega) hr
      subst hA
      have hg := HG.out.d _ (List.mem_of_getElem? hr)
      have HT : Hid (numsL [a, s, st, (dn : Int)] ++ (deps.take (j + 1)).flatMap pairB = (numsL [a, s, st, (dn : Int)] ++ (deps.take j).flatMap pairB) ++ numsL [r1, r2]) := by
        show _ = _
        rw [take_pairs hr, List.append_assoc]
      generalize numsL [a, s, st, (dn : Int)] ++ (deps.take j).flatMap pairB = acc at HA hal HT
      have NS := wnums_step (HA.out.alloc (.cells #[.int .i64 r1, .int .i64 r2] 46)) HGE.out [r1, r2] 2 #[.int .i64 r1, .int .i64 r2] rfl rfl (by omega) (by omega)
        (by simp only [List.mem_cons, List.not_mem_nil, or_false]; rintro x (rfl | rfl); exact hg.1; exact hg.2) (wr.heap.size + 1) (by simp)
      obtain ⟨x1, x2⟩ := hcs wr (HWB.out.block b hb)
      have hj0 : (0 : Int) ≤ (j : Int) := by omega
      have hj1 : (j : Int) < (dn : Int) := by omega
      clear hrd hr hg HA
      go_wp2_with fail
      go_at_call 8
      refine NS.mono ?_
      rintro e w3 ⟨rfl, hA3, hk3⟩
      have HB3 := Lib.hid (hk3 _ _ _ (HBC.out.alloc _) (by decide) (by decide))
      have HA3 := Lib.hid hA3
      clear hA3 hk3 NS x1 x2 hcs
      go_wp2_with fail
      first
        | exact ⟨⟨j + 1, by omega, by go_num, by rw [HT.out]; exact HA3, HB3⟩, by simp [intOf]; omega⟩
        | (go_roundw
           case rel => exact ⟨j + 1, by omega, by go_num, by rw [HT.out]; exact HA3, HB3⟩
           case measure => simp [intOf]; omega)
    · have hjn : j = dn := by omega
      have HF : Hid (numsL [a, s, st, (dn : Int)] ++ (deps.take j).flatMap pairB = numsL [a, s, st, (dn : Int)] ++ deps.flatMap pairB) := by
        show _ = _
        rw [List.take_of_length_le (by rw [HDN.out]; omega)]
      rw [HF.out] at HA hal
      have HFE : Hid (encL a s st deps ops = (numsL [a, s, st, (dn : Int)] ++ deps.flatMap pairB) ++ numsL [(m : Int)] ++ ops.flatMap opB) := by
        show _ = _
        rw [encL, HDN.out, HM.out]
      generalize numsL [a, s, st, (dn : Int)] ++ deps.flatMap pairB = acc at HA hal HFE
      clear hjn HF HWB
      have c0 : wr.cell? ⟨w.heap.size, 0, none⟩ = some (.int .i64 a) := HBC.out.cell 0
      have c1 : wr.cell? ⟨w.heap.size, 1, none⟩ = some (.int .i64 s) := HBC.out.cell 1
      have c2 : wr.cell? ⟨w.heap.size, 2, none⟩ = some (.int .i64 st) := HBC.out.cell 2
      have c3 : wr.cell? ⟨w.heap.size, 3, none⟩ = some (.slice DA dn DC) := HBC.out.cell 3
      have c4 : wr.cell? ⟨w.heap.size, 4, none⟩ = some (.slice OA m OC) := HBC.out.cell 4
      have NS := wnums_step HA.out HGE.out [(m : Int)] 1 #[.int .i64 (m : Int)] rfl rfl (by omega) (by omega)
        (by simp only [List.mem_cons, List.not_mem_nil, or_false]; rintro x rfl; exact ⟨by omega, by omega⟩) wr.heap.size rfl
      go_wp2_with fail
      go_at_call 8
      refine NS.mono ?_
      rintro e w3 ⟨rfl, hA2, hk2⟩
      replace HBC := Lib.hid (hk2 _ _ _ HBC.out (by decide) (by decide))
      have HA2 : Hid (WAcc w w3 g (acc ++ numsL [(m : Int)] ++ (ops.take 0).flatMap opB)) := by show WAcc _ _ _ _; simpa using hA2
      have HAL : Hid ((acc ++ numsL [(m : Int)]).length ≤ 400) := by
        have h1 := numsL_le (l := [(m : Int)]) (n := 1) rfl
        show _ ≤ _
        simp only [List.length_append]
        omega
      generalize acc ++ numsL [(m : Int)] = acc1 at HA2 HAL HFE
      clear NS hA2 hk2 HA hal c0 c1 c2 c3 c4
      have c0 : w3.cell? ⟨w.heap.size, 0, none⟩ = some (.int .i64 a) := HBC.out.cell 0
      have c1 : w3.cell? ⟨w.heap.size, 1, none⟩ = some (.int .i64 s) := HBC.out.cell 1
      have c2 : w3.cell? ⟨w.heap.size, 2, none⟩ = some (.int .i64 st) := HBC.out.cell 2
      have c3 : w3.cell? ⟨w.heap.size, 3, none⟩ = some (.slice DA dn DC) := HBC.out.cell 3
      have c4 : w3.cell? ⟨w.heap.size, 4, none⟩ = some (.slice OA m OC) := HBC.out.cell 4
      go_wp2_with fail
      clear c0 c1 c2 c3 c4
      go_loopw [51] (fun i wr => ∃ j : Nat, j ≤ m ∧ i = .int .i64 j ∧ Hid (WAcc w wr g (acc1 ++ (ops.take j).flatMap opB)) ∧ Hid (Blk wr w.heap.size 25 #[.int .i64 a, .int .i64 s, .int .i64 st, .slice DA dn DC, .slice OA m OC])) (fun i _ => m - (intOf i).toNat)
      case atStart => exact ⟨0, by omega, rfl, HA2, HBC⟩
      case round =>
        clear HA2 HBC
        obtain ⟨j, hj, rfl, HA, HBC⟩ := hrel
        have HWB : Hid (Below w.heap.size w wr) := by obtain ⟨_, _, _, h⟩ := HA.out; exact h
        by_cases hlt : j < m
        · obtain ⟨o, ho⟩ : ∃ o, ops[j]? = some o := get_lt (by rw [HM.out]; exact hlt)
          have hmem := List.mem_of_getElem? ho
          have hgo := HG.out.o o hmem
          have hpo := HC.out.hp o hmem
          have hrd := HC.out.ho
          rw [HM.out] at hrd
          obtain ⟨b, off, hOA, hb, hcs⟩ := op_cells hrd (by omega) ho
          subst hOA
          have hcw := hcs wr (HWB.out.block b hb)
          have HT : Hid (acc1 ++ (ops.take (j + 1)).flatMap opB = (acc1 ++ (ops.take j).flatMap opB) ++ opB o) := by
            show _ = _
            rw [take_op ho, List.append_assoc]
          have hal : (acc1 ++ (ops.take j).flatMap opB).length ≤ 21000 := by
            have h1 := ops_len (ops.take j) fun o ho => HG.out.o o (List.mem_of_mem_take ho)
            have h2 := HAL.out
            simp only [List.length_append, List.length_take] at h1 ⊢
            omega
          generalize acc1 ++ (ops.take j).flatMap opB = acc at HA HT hal
          obtain ⟨k, on, oa, key, en, ea, ins, vk, vn, vt, va, vb, PA, pc, l⟩ := o
          obtain ⟨gk, gon, goa, gkey, gen, gea, gvk, gvn, gvt, gll, gl⟩ := hgo
          dsimp only at gk gon goa gkey gen gea gvk gvn gvt gll gl hpo hcw
          obtain ⟨y0, y1, y2, y3, y4, y5, y6, y7, y8, y9, y10, y11, y12⟩ := hcw
          obtain ⟨ol, hol⟩ : ∃ ol, l.length = ol := ⟨_, rfl⟩
          rw [hol] at y12 hpo gll
          have HOL := Lib.hid hol
          have HLR := Lib.hid hpo.1
          have HGL := Lib.hid gl
          have HVN := Lib.hid gvn
          have HTB : Hid (opB ⟨k, on, oa, key, en, ea, ins, vk, vn, vt, va, vb, PA, pc, l⟩ = numsL [k, on, oa] ++ (numsL [(key.size : Int)] ++ (key.data.toList ++ (numsL [en, ea, inI ins, vk] ++ (putS vn ++ (numsL [(vt.size : Int)] ++ (vt.data.toList ++ (numsL [(ol : Int)] ++ l.flatMap pairB)))))))) := by
            show _ = _
            simp only [opB, hol]
            rw [show [k, on, oa, (key.size : Int)] = [k, on, oa] ++ [(key.size : Int)] from rfl, numsL_append]
            simp only [List.append_assoc]
          rw [HTB.out] at HT
          replace HT : Hid _ := (by have h := HT.out; simp only [← List.append_assoc] at h; exact h)
          have hj0 : (0 : Int) ≤ (j : Int) := by omega
          have hj1 : (j : Int) < (m : Int) := by omega
          have h12 : ol ≤ 12 := gll
          clear HTB hcs hrd hmem ho hpo hol gl gvn gll HWB
          have HBO := Lib.hid (Blk.new wr 33 #[.int .i64 k, .int .i64 on, .int .i64 oa, .string key, .int .i64 en, .int .i64 ea, .bool ins, .int .i64 vk, .int .i64 vn, .string vt, .int .i64 va, .int .i64 vb, .slice PA ol pc])
          replace HBC := Lib.hid (HBC.out.alloc (.cells #[.int .i64 k, .int .i64 on, .int .i64 oa, .string key, .int .i64 en, .int .i64 ea, .bool ins, .int .i64 vk, .int .i64 vn, .string vt, .int .i64 va, .int .i64 vb, .slice PA ol pc] 33))
          replace HA : Hid (WAcc w (wr.alloc (.cells #[.int .i64 k, .int .i64 on, .int .i64 oa, .string key, .int .i64 en, .int .i64 ea, .bool ins, .int .i64 vk, .int .i64 vn, .string vt, .int .i64 va, .int .i64 vb, .slice PA ol pc] 33)) g acc) := HA.out.alloc _
          have NS := wnums_step HA.out HGE.out [k, on, oa] 3 #[.int .i64 k, .int .i64 on, .int .i64 oa] rfl rfl (by omega) (by omega) (by simp only [List.mem_cons, List.not_mem_nil, or_false]; rintro x (rfl | rfl | rfl); exact gk; exact gon; exact goa) (wr.heap.size + 1) (by simp)
          go_wp2_with fail
          go_at_call 8
          refine NS.mono ?_
          rintro e w3 ⟨rfl, hA, hk⟩
          clear NS HA
          have HA := Lib.hid hA
          clear hA
          have hl3 : (acc ++ numsL [k, on, oa]).length ≤ 21040 := by
            have h1 := numsL_le (l := [k, on, oa]) (n := 3) rfl
            simp only [List.length_append]; omega
          generalize acc ++ numsL [k, on, oa] = acc3 at HA HT hl3
          replace HBC := Lib.hid (hk _ _ _ HBC.out (by decide) (by decide))
          replace HBO := Lib.hid (hk _ _ _ HBO.out (by decide) (by decide))
          clear hk
          try clear e0 e1 e2 e3 e4 e5 e6 e7 e8 e9 e10 e11 e12
          obtain ⟨e0, e1, e2, e3, e4, e5, e6, e7, e8, e9, e10, e11, e12⟩ := blk13 HBO.out
          clear y0 y1 y2 y3 y4 y5 y6 y7 y8 y9 y10 y11 y12
          generalize hB1 : wr.heap.size = B1 at HBO e0 e1 e2 e3 e4 e5 e6 e7 e8 e9 e10 e11 e12 ⊢
          have NS := wtext_step HA.out HGE.out key (by omega) (by omega)
          go_wp2_with fail
          go_at_call 9
          refine NS.mono ?_
          rintro e w4 ⟨rfl, hA, hk⟩
          clear NS HA
          have HA := Lib.hid hA
          clear hA
          have hl4 : (acc3 ++ numsL [(key.size : Int)] ++ key.data.toList).length ≤ 21080 := by
            have h1 : key.data.toList.length = key.size := by rw [ByteArray.size, Array.length_toList]
            have h2 := numsL_le (l := [(key.size : Int)]) (n := 1) rfl
            simp only [List.length_append]; omega
          generalize acc3 ++ numsL [(key.size : Int)] ++ key.data.toList = acc4 at HA HT hl4
          replace HBC := Lib.hid (hk _ _ _ HBC.out (by decide) (by decide))
          replace HBO := Lib.hid (hk _ _ _ HBO.out (by decide) (by decide))
          clear hk
          try clear e0 e1 e2 e3 e4 e5 e6 e7 e8 e9 e10 e11 e12
          obtain ⟨e0, e1, e2, e3, e4, e5, e6, e7, e8, e9, e10, e11, e12⟩ := blk13 HBO.out
          cases ins
          · skip
            replace HT : Hid _ := (by have h := HT.out; rw [show inI false = (0 : Int) from rfl] at h; exact h)
            have NS := wnums_step HA.out HGE.out [en, ea, (0 : Int), vk] 4 #[.int .i64 en, .int .i64 ea, .int .i64 0, .int .i64 vk] rfl rfl (by omega) (by omega) (by simp only [List.mem_cons, List.not_mem_nil, or_false]; rintro x (rfl | rfl | rfl | rfl); exact gen; exact gea; exact ⟨by decide, by decide⟩; exact gvk) _ rfl
            go_wp2_with fail
            go_at_call 8
            refine NS.mono ?_
            rintro e w5 ⟨rfl, hA, hk⟩
            clear NS HA
            have HA := Lib.hid hA
            clear hA
            have hl5 : (acc4 ++ numsL [en, ea, (0 : Int), vk]).length ≤ 21125 := by
              have h1 := numsL_le (l := [en, ea, (0 : Int), vk]) (n := 4) rfl
              simp only [List.length_append]; omega
            generalize acc4 ++ numsL [en, ea, (0 : Int), vk] = acc5 at HA HT hl5
            replace HBC := Lib.hid (hk _ _ _ HBC.out (by decide) (by decide))
            replace HBO := Lib.hid (hk _ _ _ HBO.out (by decide) (by decide))
            clear hk
            try clear e0 e1 e2 e3 e4 e5 e6 e7 e8 e9 e10 e11 e12
            obtain ⟨e0, e1, e2, e3, e4, e5, e6, e7, e8, e9, e10, e11, e12⟩ := blk13 HBO.out
            go_wp2_with fail
            obtain ⟨v5, hbw, how, hww⟩ := HA.out
            obtain ⟨VA, VC, hv5, _, _, _⟩ := Reads.of_own how
            subst hv5
            have hgne := blk_own_ne hbw how (by decide)
            have hc0 : w5.cell? ⟨g, 0, none⟩ = some (.slice VA acc5.length VC) := hbw.cell 0
            have hf0 : w5.frozen? ⟨g, 0, none⟩ = false := hbw.frozen 0
            have hglt := hbw.lt
            have hblt := HBO.out.lt
            have hbs : w.heap.size ≤ w5.heap.size := hww.size
            have hps : (putS vn).length ≤ 10 := (putN_length (zz vn)).2
            refine wp_region_any (by kernel_rfl) ?_
            change wpAny _ _ _ _ _ _ _ (World.drew _)
            refine wpAny_take (i := 1) (v := ?_) rfl (by kernel_rfl) (by kernel_rfl) (by kernel_rfl) (fun _ _ _ h => h) (Or.inl ⟨by rfl, ?_⟩) ?_
            rotate_left
            · (intro w; go_simp; try with_reducible rfl)
            try simp only [Act.put, List.setIfInBounds_toArray, List.set_cons_zero, List.set_cons_succ]
            refine wpAny_take (i := 2) (v := ?_) rfl (by kernel_rfl) (by kernel_rfl) (by kernel_rfl) (fun _ _ _ h => h) (Or.inl ⟨by rfl, ?_⟩) ?_
            rotate_left
            · (intro w; go_simp; try with_reducible rfl)
            try simp only [Act.put, List.setIfInBounds_toArray, List.set_cons_zero, List.set_cons_succ]
            refine wpAny_ready (rs := [0, 3]) (by kernel_rfl) (by simp) ?_
            refine AllReady.cons rfl (fun K hK => ?_) (AllReady.cons rfl (fun K hK => ?_) AllReady.nil)
            · skip
              go_simp
              refine hK _ _ ?_
              clear hK K
              try simp only [Act.put, List.setIfInBounds_toArray, List.set_cons_zero, List.set_cons_succ]
              refine wpAny_ready (rs := [3]) (by kernel_rfl) (by simp) ?_
              refine AllReady.cons rfl (fun K hK => ?_) AllReady.nil
              go_simp
              refine hK _ _ ?_
              clear hK K
              try simp only [Act.put, List.setIfInBounds_toArray, List.set_cons_zero, List.set_cons_succ]
              refine wpAny_ready (rs := [4]) (by kernel_rfl) (by simp) ?_
              refine AllReady.cons rfl (fun K hK => ?_) AllReady.nil
              go_simp
              refine (putS_sl vn HVN.out _).mono ?_
              rintro e wa ⟨Aa, ca, rfl, hoa, hba⟩
              refine hK _ _ ?_
              clear hK K
              try simp only [Act.put, List.setIfInBounds_toArray, List.set_cons_zero, List.set_cons_succ]
              have s1 : wa.cell? ⟨g, 0, none⟩ = some (.slice VA acc5.length VC) := (hba.cell (by exact hglt)).trans hc0
              have s3 : wa.cell? ⟨B1, 8, none⟩ = some (.int .i64 vn) := (hba.cell (by exact hblt)).trans e8
              have hsa : w.heap.size ≤ wa.heap.size := Nat.le_trans hbs (by exact hba.size)
              refine wpAny_ready (rs := [5]) (by kernel_rfl) (by simp) ?_
              refine AllReady.cons rfl (fun K hK => ?_) AllReady.nil
              refine step_app (by rfl) (.tmp 82) (.tmp 86) 43 26 (by rfl) (.slice VA acc5.length VC) (.slice Aa (putS vn).length ca) (by rfl) (by rfl) _ (run_app_wr wa w.heap.size _ _ ⟨_, Try.underlying26⟩ VA acc5.length VC (bytesC acc5) (own_below (by exact how) hba) _ Aa (putS vn).length ca (putS vn) (own_reads hoa) (by omega) hsa) ?_
              rintro vb wb ⟨hob, heb⟩
              obtain ⟨VB, CB, hvb, _, _, _⟩ := Reads.of_own hob
              subst hvb
              refine hK _ _ ?_
              clear hK K
              try simp only [Act.put, List.setIfInBounds_toArray, List.set_cons_zero, List.set_cons_succ]
              have hgb := heb.block g (Nat.lt_of_lt_of_le hglt (by exact hba.size)) hgne
              have t1 : wb.cell? ⟨g, 0, none⟩ = some (.slice VA acc5.length VC) := (World.cell?_of_block (w := wa) hgb).trans s1
              have t2 : wb.frozen? ⟨g, 0, none⟩ = false := (World.frozen?_of_block (w := wa) hgb).trans ((World.frozen?_of_block (hba.block g (by exact hglt))).trans hf0)
              refine wpAny_ready (rs := [6]) (by kernel_rfl) (by simp) ?_
              refine AllReady.cons rfl (fun K hK => ?_) AllReady.nil
              go_simp
              refine hK _ _ ?_
              clear hK K
              try simp only [Act.put, List.setIfInBounds_toArray, List.set_cons_zero, List.set_cons_succ]
              refine wpAny_done (by kernel_rfl) ?_ _
              obtain ⟨hA, hk⟩ := wput_fin (wr := w5.drew) HGE.out (by exact hbw) (by exact how) hww.drew hba hob heb
              clear HA hgb t1 t2 s1 s3 hob heb hba hoa hc0 hf0 hbw how hww hgne hsa hbs hblt
              have HA := Lib.hid hA
              clear hA
              have hl7 : (acc5 ++ putS vn).length ≤ 21140 := by simp only [List.length_append]; omega
              generalize acc5 ++ putS vn = acc7 at HA HT hl7
              replace HBC := Lib.hid (hk _ _ _ HBC.out (by decide) (by decide))
              replace HBO := Lib.hid (hk _ _ _ HBO.out (by decide) (by decide))
              clear hk
              try clear e0 e1 e2 e3 e4 e5 e6 e7 e8 e9 e10 e11 e12
              obtain ⟨e0, e1, e2, e3, e4, e5, e6, e7, e8, e9, e10, e11, e12⟩ := blk13 HBO.out
              have NS := wtext_step HA.out HGE.out vt (by omega) (by omega)
              go_wp2_with fail
              go_at_call 9
              refine NS.mono ?_
              rintro e w8 ⟨rfl, hA, hk⟩
              clear NS HA
              have HA := Lib.hid hA
              clear hA
              have hl8 : (acc7 ++ numsL [(vt.size : Int)] ++ vt.data.toList).length ≤ 21220 := by
                have h1 : vt.data.toList.length = vt.size := by rw [ByteArray.size, Array.length_toList]
                have h2 := numsL_le (l := [(vt.size : Int)]) (n := 1) rfl
                simp only [List.length_append]; omega
              generalize acc7 ++ numsL [(vt.size : Int)] ++ vt.data.toList = acc8 at HA HT hl8
              replace HBC := Lib.hid (hk _ _ _ HBC.out (by decide) (by decide))
              replace HBO := Lib.hid (hk _ _ _ HBO.out (by decide) (by decide))
              clear hk
              try clear e0 e1 e2 e3 e4 e5 e6 e7 e8 e9 e10 e11 e12
              obtain ⟨e0, e1, e2, e3, e4, e5, e6, e7, e8, e9, e10, e11, e12⟩ := blk13 HBO.out
              have NS := wnums_step HA.out HGE.out [(ol : Int)] 1 #[.int .i64 (ol : Int)] rfl rfl (by omega) (by omega) (by simp only [List.mem_cons, List.not_mem_nil, or_false]; rintro x rfl; exact nat_of (by omega)) _ rfl
              go_wp2_with fail
              go_at_call 8
              refine NS.mono ?_
              rintro e w9 ⟨rfl, hA, hk⟩
              clear NS HA
              have HA := Lib.hid hA
              clear hA
              have hl9 : (acc8 ++ numsL [(ol : Int)]).length ≤ 21240 := by
                have h1 := numsL_le (l := [(ol : Int)]) (n := 1) rfl
                simp only [List.length_append]; omega
              generalize acc8 ++ numsL [(ol : Int)] = acc9 at HA HT hl9
              replace HBC := Lib.hid (hk _ _ _ HBC.out (by decide) (by decide))
              replace HBO := Lib.hid (hk _ _ _ HBO.out (by decide) (by decide))
              clear hk
              try clear e0 e1 e2 e3 e4 e5 e6 e7 e8 e9 e10 e11 e12
              obtain ⟨e0, e1, e2, e3, e4, e5, e6, e7, e8, e9, e10, e11, e12⟩ := blk13 HBO.out
              have HA10 : Hid (WAcc w w9 g (acc9 ++ (l.take 0).flatMap pairB)) := by show WAcc _ _ _ _; simpa using HA.out
              go_wp2_with fail
              clear HA e0 e1 e2 e3 e4 e5 e6 e7 e8 e9 e10 e11 e12
              go_loopw [100] (fun i wr => ∃ q : Nat, q ≤ ol ∧ i = .int .i64 q ∧ Hid (WAcc w wr g (acc9 ++ (l.take q).flatMap pairB)) ∧ Hid (Blk wr w.heap.size 25 #[.int .i64 a, .int .i64 s, .int .i64 st, .slice DA dn DC, .slice (some ⟨b, off, none⟩) m OC])) (fun i _ => ol - (intOf i).toNat)
              case atStart => exact ⟨0, by omega, rfl, HA10, HBC⟩
              case round =>
                clear HA10 HBC HBO
                obtain ⟨q, hq, rfl, HA, HBC⟩ := hrel
                have HWB : Hid (Below w.heap.size w wr) := by obtain ⟨_, _, _, h⟩ := HA.out; exact h
                by_cases hql : q < ol
                · obtain ⟨r, hr⟩ : ∃ r, l[q]? = some r := get_lt (by rw [HOL.out]; exact hql)
                  obtain ⟨r1, r2⟩ := r
                  obtain ⟨pb, poff, hPA, hpb, hps2⟩ := refC_cells HLR.out (by omega) hr
                  subst hPA
                  have hg := HGL.out _ (List.mem_of_getElem? hr)
                  have HTp : Hid (acc9 ++ (l.take (q + 1)).flatMap pairB = (acc9 ++ (l.take q).flatMap pairB) ++ numsL [r1, r2]) := by
                    show _ = _
                    rw [take_pairs hr, List.append_assoc]
                  have hlq : (acc9 ++ (l.take q).flatMap pairB).length ≤ 22000 := by
                    have h2 := pairs_len (l.take q)
                    simp only [List.length_append, List.length_take] at h2 ⊢
                    omega
                  generalize acc9 ++ (l.take q).flatMap pairB = accq at HA HTp hlq
                  have NS := wnums_step (HA.out.alloc (.cells #[.int .i64 r1, .int .i64 r2] 28)) HGE.out [r1, r2] 2 #[.int .i64 r1, .int .i64 r2] rfl rfl (by omega) (by omega)
                    (by simp only [List.mem_cons, List.not_mem_nil, or_false]; rintro x (rfl | rfl); exact hg.1; exact hg.2) (wr.heap.size + 1) (by simp)
                  obtain ⟨x1, x2⟩ := hps2 wr (HWB.out.block pb hpb)
                  have hq0 : (0 : Int) ≤ (q : Int) := by omega
                  have hq1 : (q : Int) < (ol : Int) := by omega
                  clear hr hg HA
                  go_wp2_with fail
                  go_at_call 8
                  refine NS.mono ?_
                  rintro e w3 ⟨rfl, hA3, hk3⟩
                  have HB3 := Lib.hid (hk3 _ _ _ (HBC.out.alloc _) (by decide) (by decide))
                  have HA3 := Lib.hid hA3
                  clear hA3 hk3 NS x1 x2 hps2
                  go_wp2_with fail
                  first
                    | exact ⟨⟨q + 1, by omega, by go_num, by rw [HTp.out]; exact HA3, HB3⟩, by simp [intOf]; omega⟩
                    | (go_roundw
                       case rel => exact ⟨q + 1, by omega, by go_num, by rw [HTp.out]; exact HA3, HB3⟩
                       case measure => simp [intOf]; omega)
                · have hqo : q = ol := by omega
                  have HF : Hid (acc9 ++ (l.take q).flatMap pairB = acc1 ++ (ops.take (j + 1)).flatMap opB) := by
                    show _ = _
                    rw [HT.out, List.take_of_length_le (by rw [HOL.out]; omega)]
                  clear hqo
                  go_wp2_with fail
                  first
                    | exact ⟨⟨j + 1, by omega, by go_num, by rw [← HF.out]; exact HA, HBC⟩, by simp [intOf]; omega⟩
                    | (go_roundw
                       case rel => exact ⟨j + 1, by omega, by go_num, by rw [← HF.out]; exact HA, HBC⟩
                       case measure => simp [intOf]; omega)
            · go_simp
              refine hK _ _ ?_
              clear hK K
              try simp only [Act.put, List.setIfInBounds_toArray, List.set_cons_zero, List.set_cons_succ]
              refine wpAny_ready (rs := [0, 4]) (by kernel_rfl) (by simp) ?_
              refine AllReady.cons rfl (fun K hK => ?_) (AllReady.cons rfl (fun K hK => ?_) AllReady.nil)
              · skip
                go_simp
                refine hK _ _ ?_
                clear hK K
                try simp only [Act.put, List.setIfInBounds_toArray, List.set_cons_zero, List.set_cons_succ]
                refine wpAny_ready (rs := [4]) (by kernel_rfl) (by simp) ?_
                refine AllReady.cons rfl (fun K hK => ?_) AllReady.nil
                go_simp
                refine (putS_sl vn HVN.out _).mono ?_
                rintro e wa ⟨Aa, ca, rfl, hoa, hba⟩
                refine hK _ _ ?_
                clear hK K
                try simp only [Act.put, List.setIfInBounds_toArray, List.set_cons_zero, List.set_cons_succ]
                have s1 : wa.cell? ⟨g, 0, none⟩ = some (.slice VA acc5.length VC) := (hba.cell (by exact hglt)).trans hc0
                have s3 : wa.cell? ⟨B1, 8, none⟩ = some (.int .i64 vn) := (hba.cell (by exact hblt)).trans e8
                have hsa : w.heap.size ≤ wa.heap.size := Nat.le_trans hbs (by exact hba.size)
                refine wpAny_ready (rs := [5]) (by kernel_rfl) (by simp) ?_
                refine AllReady.cons rfl (fun K hK => ?_) AllReady.nil
                refine step_app (by rfl) (.tmp 82) (.tmp 86) 43 26 (by rfl) (.slice VA acc5.length VC) (.slice Aa (putS vn).length ca) (by rfl) (by rfl) _ (run_app_wr wa w.heap.size _ _ ⟨_, Try.underlying26⟩ VA acc5.length VC (bytesC acc5) (own_below (by exact how) hba) _ Aa (putS vn).length ca (putS vn) (own_reads hoa) (by omega) hsa) ?_
                rintro vb wb ⟨hob, heb⟩
                obtain ⟨VB, CB, hvb, _, _, _⟩ := Reads.of_own hob
                subst hvb
                refine hK _ _ ?_
                clear hK K
                try simp only [Act.put, List.setIfInBounds_toArray, List.set_cons_zero, List.set_cons_succ]
                have hgb := heb.block g (Nat.lt_of_lt_of_le hglt (by exact hba.size)) hgne
                have t1 : wb.cell? ⟨g, 0, none⟩ = some (.slice VA acc5.length VC) := (World.cell?_of_block (w := wa) hgb).trans s1
                have t2 : wb.frozen? ⟨g, 0, none⟩ = false := (World.frozen?_of_block (w := wa) hgb).trans ((World.frozen?_of_block (hba.block g (by exact hglt))).trans hf0)
                refine wpAny_ready (rs := [6]) (by kernel_rfl) (by simp) ?_
                refine AllReady.cons rfl (fun K hK => ?_) AllReady.nil
                go_simp
                refine hK _ _ ?_
                clear hK K
                try simp only [Act.put, List.setIfInBounds_toArray, List.set_cons_zero, List.set_cons_succ]
                refine wpAny_done (by kernel_rfl) ?_ _
                obtain ⟨hA, hk⟩ := wput_fin (wr := w5.drew) HGE.out (by exact hbw) (by exact how) hww.drew hba hob heb
                clear HA hgb t1 t2 s1 s3 hob heb hba hoa hc0 hf0 hbw how hww hgne hsa hbs hblt
                have HA := Lib.hid hA
                clear hA
                have hl7 : (acc5 ++ putS vn).length ≤ 21140 := by simp only [List.length_append]; omega
                generalize acc5 ++ putS vn = acc7 at HA HT hl7
                replace HBC := Lib.hid (hk _ _ _ HBC.out (by decide) (by decide))
                replace HBO := Lib.hid (hk _ _ _ HBO.out (by decide) (by decide))
                clear hk
                try clear e0 e1 e2 e3 e4 e5 e6 e7 e8 e9 e10 e11 e12
                obtain ⟨e0, e1, e2, e3, e4, e5, e6, e7, e8, e9, e10, e11, e12⟩ := blk13 HBO.out
                have NS := wtext_step HA.out HGE.out vt (by omega) (by omega)
                go_wp2_with fail
                go_at_call 9
                refine NS.mono ?_
                rintro e w8 ⟨rfl, hA, hk⟩
                clear NS HA
                have HA := Lib.hid hA
                clear hA
                have hl8 : (acc7 ++ numsL [(vt.size : Int)] ++ vt.data.toList).length ≤ 21220 := by
                  have h1 : vt.data.toList.length = vt.size := by rw [ByteArray.size, Array.length_toList]
                  have h2 := numsL_le (l := [(vt.size : Int)]) (n := 1) rfl
                  simp only [List.length_append]; omega
                generalize acc7 ++ numsL [(vt.size : Int)] ++ vt.data.toList = acc8 at HA HT hl8
                replace HBC := Lib.hid (hk _ _ _ HBC.out (by decide) (by decide))
                replace HBO := Lib.hid (hk _ _ _ HBO.out (by decide) (by decide))
                clear hk
                try clear e0 e1 e2 e3 e4 e5 e6 e7 e8 e9 e10 e11 e12
                obtain ⟨e0, e1, e2, e3, e4, e5, e6, e7, e8, e9, e10, e11, e12⟩ := blk13 HBO.out
                have NS := wnums_step HA.out HGE.out [(ol : Int)] 1 #[.int .i64 (ol : Int)] rfl rfl (by omega) (by omega) (by simp only [List.mem_cons, List.not_mem_nil, or_false]; rintro x rfl; exact nat_of (by omega)) _ rfl
                go_wp2_with fail
                go_at_call 8
                refine NS.mono ?_
                rintro e w9 ⟨rfl, hA, hk⟩
                clear NS HA
                have HA := Lib.hid hA
                clear hA
                have hl9 : (acc8 ++ numsL [(ol : Int)]).length ≤ 21240 := by
                  have h1 := numsL_le (l := [(ol : Int)]) (n := 1) rfl
                  simp only [List.length_append]; omega
                generalize acc8 ++ numsL [(ol : Int)] = acc9 at HA HT hl9
                replace HBC := Lib.hid (hk _ _ _ HBC.out (by decide) (by decide))
                replace HBO := Lib.hid (hk _ _ _ HBO.out (by decide) (by decide))
                clear hk
                try clear e0 e1 e2 e3 e4 e5 e6 e7 e8 e9 e10 e11 e12
                obtain ⟨e0, e1, e2, e3, e4, e5, e6, e7, e8, e9, e10, e11, e12⟩ := blk13 HBO.out
                have HA10 : Hid (WAcc w w9 g (acc9 ++ (l.take 0).flatMap pairB)) := by show WAcc _ _ _ _; simpa using HA.out
                go_wp2_with fail
                clear HA e0 e1 e2 e3 e4 e5 e6 e7 e8 e9 e10 e11 e12
                go_loopw [100] (fun i wr => ∃ q : Nat, q ≤ ol ∧ i = .int .i64 q ∧ Hid (WAcc w wr g (acc9 ++ (l.take q).flatMap pairB)) ∧ Hid (Blk wr w.heap.size 25 #[.int .i64 a, .int .i64 s, .int .i64 st, .slice DA dn DC, .slice (some ⟨b, off, none⟩) m OC])) (fun i _ => ol - (intOf i).toNat)
                case atStart => exact ⟨0, by omega, rfl, HA10, HBC⟩
                case round =>
                  clear HA10 HBC HBO
                  obtain ⟨q, hq, rfl, HA, HBC⟩ := hrel
                  have HWB : Hid (Below w.heap.size w wr) := by obtain ⟨_, _, _, h⟩ := HA.out; exact h
                  by_cases hql : q < ol
                  · obtain ⟨r, hr⟩ : ∃ r, l[q]? = some r := get_lt (by rw [HOL.out]; exact hql)
                    obtain ⟨r1, r2⟩ := r
                    obtain ⟨pb, poff, hPA, hpb, hps2⟩ := refC_cells HLR.out (by omega) hr
                    subst hPA
                    have hg := HGL.out _ (List.mem_of_getElem? hr)
                    have HTp : Hid (acc9 ++ (l.take (q + 1)).flatMap pairB = (acc9 ++ (l.take q).flatMap pairB) ++ numsL [r1, r2]) := by
                      show _ = _
                      rw [take_pairs hr, List.append_assoc]
                    have hlq : (acc9 ++ (l.take q).flatMap pairB).length ≤ 22000 := by
                      have h2 := pairs_len (l.take q)
                      simp only [List.length_append, List.length_take] at h2 ⊢
                      omega
                    generalize acc9 ++ (l.take q).flatMap pairB = accq at HA HTp hlq
                    have NS := wnums_step (HA.out.alloc (.cells #[.int .i64 r1, .int .i64 r2] 28)) HGE.out [r1, r2] 2 #[.int .i64 r1, .int .i64 r2] rfl rfl (by omega) (by omega)
                      (by simp only [List.mem_cons, List.not_mem_nil, or_false]; rintro x (rfl | rfl); exact hg.1; exact hg.2) (wr.heap.size + 1) (by simp)
                    obtain ⟨x1, x2⟩ := hps2 wr (HWB.out.block pb hpb)
                    have hq0 : (0 : Int) ≤ (q : Int) := by omega
                    have hq1 : (q : Int) < (ol : Int) := by omega
                    clear hr hg HA
                    go_wp2_with fail
                    go_at_call 8
                    refine NS.mono ?_
                    rintro e w3 ⟨rfl, hA3, hk3⟩
                    have HB3 := Lib.hid (hk3 _ _ _ (HBC.out.alloc _) (by decide) (by decide))
                    have HA3 := Lib.hid hA3
                    clear hA3 hk3 NS x1 x2 hps2
                    go_wp2_with fail
                    first
                      | exact ⟨⟨q + 1, by omega, by go_num, by rw [HTp.out]; exact HA3, HB3⟩, by simp [intOf]; omega⟩
                      | (go_roundw
                         case rel => exact ⟨q + 1, by omega, by go_num, by rw [HTp.out]; exact HA3, HB3⟩
                         case measure => simp [intOf]; omega)
                  · have hqo : q = ol := by omega
                    have HF : Hid (acc9 ++ (l.take q).flatMap pairB = acc1 ++ (ops.take (j + 1)).flatMap opB) := by
                      show _ = _
                      rw [HT.out, List.take_of_length_le (by rw [HOL.out]; omega)]
                    clear hqo
                    go_wp2_with fail
                    first
                      | exact ⟨⟨j + 1, by omega, by go_num, by rw [← HF.out]; exact HA, HBC⟩, by simp [intOf]; omega⟩
                      | (go_roundw
                         case rel => exact ⟨j + 1, by omega, by go_num, by rw [← HF.out]; exact HA, HBC⟩
                         case measure => simp [intOf]; omega)
              · skip
                go_simp
                refine (putS_sl vn HVN.out _).mono ?_
                rintro e wa ⟨Aa, ca, rfl, hoa, hba⟩
                refine hK _ _ ?_
                clear hK K
                try simp only [Act.put, List.setIfInBounds_toArray, List.set_cons_zero, List.set_cons_succ]
                have s1 : wa.cell? ⟨g, 0, none⟩ = some (.slice VA acc5.length VC) := (hba.cell (by exact hglt)).trans hc0
                have s3 : wa.cell? ⟨B1, 8, none⟩ = some (.int .i64 vn) := (hba.cell (by exact hblt)).trans e8
                have hsa : w.heap.size ≤ wa.heap.size := Nat.le_trans hbs (by exact hba.size)
                refine wpAny_ready (rs := [0]) (by kernel_rfl) (by simp) ?_
                refine AllReady.cons rfl (fun K hK => ?_) AllReady.nil
                go_simp
                refine hK _ _ ?_
                clear hK K
                try simp only [Act.put, List.setIfInBounds_toArray, List.set_cons_zero, List.set_cons_succ]
                refine wpAny_ready (rs := [5]) (by kernel_rfl) (by simp) ?_
                refine AllReady.cons rfl (fun K hK => ?_) AllReady.nil
                refine step_app (by rfl) (.tmp 82) (.tmp 86) 43 26 (by rfl) (.slice VA acc5.length VC) (.slice Aa (putS vn).length ca) (by rfl) (by rfl) _ (run_app_wr wa w.heap.size _ _ ⟨_, Try.underlying26⟩ VA acc5.length VC (bytesC acc5) (own_below (by exact how) hba) _ Aa (putS vn).length ca (putS vn) (own_reads hoa) (by omega) hsa) ?_
                rintro vb wb ⟨hob, heb⟩
                obtain ⟨VB, CB, hvb, _, _, _⟩ := Reads.of_own hob
                subst hvb
                refine hK _ _ ?_
                clear hK K
                try simp only [Act.put, List.setIfInBounds_toArray, List.set_cons_zero, List.set_cons_succ]
                have hgb := heb.block g (Nat.lt_of_lt_of_le hglt (by exact hba.size)) hgne
                have t1 : wb.cell? ⟨g, 0, none⟩ = some (.slice VA acc5.length VC) := (World.cell?_of_block (w := wa) hgb).trans s1
                have t2 : wb.frozen? ⟨g, 0, none⟩ = false := (World.frozen?_of_block (w := wa) hgb).trans ((World.frozen?_of_block (hba.block g (by exact hglt))).trans hf0)
                refine wpAny_ready (rs := [6]) (by kernel_rfl) (by simp) ?_
                refine AllReady.cons rfl (fun K hK => ?_) AllReady.nil
                go_simp
                refine hK _ _ ?_
                clear hK K
                try simp only [Act.put, List.setIfInBounds_toArray, List.set_cons_zero, List.set_cons_succ]
                refine wpAny_done (by kernel_rfl) ?_ _
                obtain ⟨hA, hk⟩ := wput_fin (wr := w5.drew) HGE.out (by exact hbw) (by exact how) hww.drew hba hob heb
                clear HA hgb t1 t2 s1 s3 hob heb hba hoa hc0 hf0 hbw how hww hgne hsa hbs hblt
                have HA := Lib.hid hA
                clear hA
                have hl7 : (acc5 ++ putS vn).length ≤ 21140 := by simp only [List.length_append]; omega
                generalize acc5 ++ putS vn = acc7 at HA HT hl7
                replace HBC := Lib.hid (hk _ _ _ HBC.out (by decide) (by decide))
                replace HBO := Lib.hid (hk _ _ _ HBO.out (by decide) (by decide))
                clear hk
                try clear e0 e1 e2 e3 e4 e5 e6 e7 e8 e9 e10 e11 e12
                obtain ⟨e0, e1, e2, e3, e4, e5, e6, e7, e8, e9, e10, e11, e12⟩ := blk13 HBO.out
                have NS := wtext_step HA.out HGE.out vt (by omega) (by omega)
                go_wp2_with fail
                go_at_call 9
                refine NS.mono ?_
                rintro e w8 ⟨rfl, hA, hk⟩
                clear NS HA
                have HA := Lib.hid hA
                clear hA
                have hl8 : (acc7 ++ numsL [(vt.size : Int)] ++ vt.data.toList).length ≤ 21220 := by
                  have h1 : vt.data.toList.length = vt.size := by rw [ByteArray.size, Array.length_toList]
                  have h2 := numsL_le (l := [(vt.size : Int)]) (n := 1) rfl
                  simp only [List.length_append]; omega
                generalize acc7 ++ numsL [(vt.size : Int)] ++ vt.data.toList = acc8 at HA HT hl8
                replace HBC := Lib.hid (hk _ _ _ HBC.out (by decide) (by decide))
                replace HBO := Lib.hid (hk _ _ _ HBO.out (by decide) (by decide))
                clear hk
                try clear e0 e1 e2 e3 e4 e5 e6 e7 e8 e9 e10 e11 e12
                obtain ⟨e0, e1, e2, e3, e4, e5, e6, e7, e8, e9, e10, e11, e12⟩ := blk13 HBO.out
                have NS := wnums_step HA.out HGE.out [(ol : Int)] 1 #[.int .i64 (ol : Int)] rfl rfl (by omega) (by omega) (by simp only [List.mem_cons, List.not_mem_nil, or_false]; rintro x rfl; exact nat_of (by omega)) _ rfl
                go_wp2_with fail
                go_at_call 8
                refine NS.mono ?_
                rintro e w9 ⟨rfl, hA, hk⟩
                clear NS HA
                have HA := Lib.hid hA
                clear hA
                have hl9 : (acc8 ++ numsL [(ol : Int)]).length ≤ 21240 := by
                  have h1 := numsL_le (l := [(ol : Int)]) (n := 1) rfl
                  simp only [List.length_append]; omega
                generalize acc8 ++ numsL [(ol : Int)] = acc9 at HA HT hl9
                replace HBC := Lib.hid (hk _ _ _ HBC.out (by decide) (by decide))
                replace HBO := Lib.hid (hk _ _ _ HBO.out (by decide) (by decide))
                clear hk
                try clear e0 e1 e2 e3 e4 e5 e6 e7 e8 e9 e10 e11 e12
                obtain ⟨e0, e1, e2, e3, e4, e5, e6, e7, e8, e9, e10, e11, e12⟩ := blk13 HBO.out
                have HA10 : Hid (WAcc w w9 g (acc9 ++ (l.take 0).flatMap pairB)) := by show WAcc _ _ _ _; simpa using HA.out
                go_wp2_with fail
                clear HA e0 e1 e2 e3 e4 e5 e6 e7 e8 e9 e10 e11 e12
                go_loopw [100] (fun i wr => ∃ q : Nat, q ≤ ol ∧ i = .int .i64 q ∧ Hid (WAcc w wr g (acc9 ++ (l.take q).flatMap pairB)) ∧ Hid (Blk wr w.heap.size 25 #[.int .i64 a, .int .i64 s, .int .i64 st, .slice DA dn DC, .slice (some ⟨b, off, none⟩) m OC])) (fun i _ => ol - (intOf i).toNat)
                case atStart => exact ⟨0, by omega, rfl, HA10, HBC⟩
                case round =>
                  clear HA10 HBC HBO
                  obtain ⟨q, hq, rfl, HA, HBC⟩ := hrel
                  have HWB : Hid (Below w.heap.size w wr) := by obtain ⟨_, _, _, h⟩ := HA.out; exact h
                  by_cases hql : q < ol
                  · obtain ⟨r, hr⟩ : ∃ r, l[q]? = some r := get_lt (by rw [HOL.out]; exact hql)
                    obtain ⟨r1, r2⟩ := r
                    obtain ⟨pb, poff, hPA, hpb, hps2⟩ := refC_cells HLR.out (by omega) hr
                    subst hPA
                    have hg := HGL.out _ (List.mem_of_getElem? hr)
                    have HTp : Hid (acc9 ++ (l.take (q + 1)).flatMap pairB = (acc9 ++ (l.take q).flatMap pairB) ++ numsL [r1, r2]) := by
                      show _ = _
                      rw [take_pairs hr, List.append_assoc]
                    have hlq : (acc9 ++ (l.take q).flatMap pairB).length ≤ 22000 := by
                      have h2 := pairs_len (l.take q)
                      simp only [List.length_append, List.length_take] at h2 ⊢
                      omega
                    generalize acc9 ++ (l.take q).flatMap pairB = accq at HA HTp hlq
                    have NS := wnums_step (HA.out.alloc (.cells #[.int .i64 r1, .int .i64 r2] 28)) HGE.out [r1, r2] 2 #[.int .i64 r1, .int .i64 r2] rfl rfl (by omega) (by omega)
                      (by simp only [List.mem_cons, List.not_mem_nil, or_false]; rintro x (rfl | rfl); exact hg.1; exact hg.2) (wr.heap.size + 1) (by simp)
                    obtain ⟨x1, x2⟩ := hps2 wr (HWB.out.block pb hpb)
                    have hq0 : (0 : Int) ≤ (q : Int) := by omega
                    have hq1 : (q : Int) < (ol : Int) := by omega
                    clear hr hg HA
                    go_wp2_with fail
                    go_at_call 8
                    refine NS.mono ?_
                    rintro e w3 ⟨rfl, hA3, hk3⟩
                    have HB3 := Lib.hid (hk3 _ _ _ (HBC.out.alloc _) (by decide) (by decide))
                    have HA3 := Lib.hid hA3
                    clear hA3 hk3 NS x1 x2 hps2
                    go_wp2_with fail
                    first
                      | exact ⟨⟨q + 1, by omega, by go_num, by rw [HTp.out]; exact HA3, HB3⟩, by simp [intOf]; omega⟩
                      | (go_roundw
                         case rel => exact ⟨q + 1, by omega, by go_num, by rw [HTp.out]; exact HA3, HB3⟩
                         case measure => simp [intOf]; omega)
                  · have hqo : q = ol := by omega
                    have HF : Hid (acc9 ++ (l.take q).flatMap pairB = acc1 ++ (ops.take (j + 1)).flatMap opB) := by
                      show _ = _
                      rw [HT.out, List.take_of_length_le (by rw [HOL.out]; omega)]
                    clear hqo
                    go_wp2_with fail
                    first
                      | exact ⟨⟨j + 1, by omega, by go_num, by rw [← HF.out]; exact HA, HBC⟩, by simp [intOf]; omega⟩
                      | (go_roundw
                         case rel => exact ⟨j + 1, by omega, by go_num, by rw [← HF.out]; exact HA, HBC⟩
                         case measure => simp [intOf]; omega)
          · skip
            replace HT : Hid _ := (by have h := HT.out; rw [show inI true = (1 : Int) from rfl] at h; exact h)
            have NS := wnums_step HA.out HGE.out [en, ea, (1 : Int), vk] 4 #[.int .i64 en, .int .i64 ea, .int .i64 1, .int .i64 vk] rfl rfl (by omega) (by omega) (by simp only [List.mem_cons, List.not_mem_nil, or_false]; rintro x (rfl | rfl | rfl | rfl); exact gen; exact gea; exact ⟨by decide, by decide⟩; exact gvk) _ rfl
            go_wp2_with fail
            go_at_call 8
            refine NS.mono ?_
            rintro e w5 ⟨rfl, hA, hk⟩
            clear NS HA
            have HA := Lib.hid hA
            clear hA
            have hl5 : (acc4 ++ numsL [en, ea, (1 : Int), vk]).length ≤ 21125 := by
              have h1 := numsL_le (l := [en, ea, (1 : Int), vk]) (n := 4) rfl
              simp only [List.length_append]; omega
            generalize acc4 ++ numsL [en, ea, (1 : Int), vk] = acc5 at HA HT hl5
            replace HBC := Lib.hid (hk _ _ _ HBC.out (by decide) (by decide))
            replace HBO := Lib.hid (hk _ _ _ HBO.out (by decide) (by decide))
            clear hk
            try clear e0 e1 e2 e3 e4 e5 e6 e7 e8 e9 e10 e11 e12
            obtain ⟨e0, e1, e2, e3, e4, e5, e6, e7, e8, e9, e10, e11, e12⟩ := blk13 HBO.out
            go_wp2_with fail
            obtain ⟨v5, hbw, how, hww⟩ := HA.out
            obtain ⟨VA, VC, hv5, _, _, _⟩ := Reads.of_own how
            subst hv5
            have hgne := blk_own_ne hbw how (by decide)
            have hc0 : w5.cell? ⟨g, 0, none⟩ = some (.slice VA acc5.length VC) := hbw.cell 0
            have hf0 : w5.frozen? ⟨g, 0, none⟩ = false := hbw.frozen 0
            have hglt := hbw.lt
            have hblt := HBO.out.lt
            have hbs : w.heap.size ≤ w5.heap.size := hww.size
            have hps : (putS vn).length ≤ 10 := (putN_length (zz vn)).2
            refine wp_region_any (by kernel_rfl) ?_
            change wpAny _ _ _ _ _ _ _ (World.drew _)
            refine wpAny_take (i := 1) (v := ?_) rfl (by kernel_rfl) (by kernel_rfl) (by kernel_rfl) (fun _ _ _ h => h) (Or.inl ⟨by rfl, ?_⟩) ?_
            rotate_left
            · (intro w; go_simp; try with_reducible rfl)
            try simp only [Act.put, List.setIfInBounds_toArray, List.set_cons_zero, List.set_cons_succ]
            refine wpAny_take (i := 2) (v := ?_) rfl (by kernel_rfl) (by kernel_rfl) (by kernel_rfl) (fun _ _ _ h => h) (Or.inl ⟨by rfl, ?_⟩) ?_
            rotate_left
            · (intro w; go_simp; try with_reducible rfl)
            try simp only [Act.put, List.setIfInBounds_toArray, List.set_cons_zero, List.set_cons_succ]
            refine wpAny_ready (rs := [0, 3]) (by kernel_rfl) (by simp) ?_
            refine AllReady.cons rfl (fun K hK => ?_) (AllReady.cons rfl (fun K hK => ?_) AllReady.nil)
            · skip
              go_simp
              refine hK _ _ ?_
              clear hK K
              try simp only [Act.put, List.setIfInBounds_toArray, List.set_cons_zero, List.set_cons_succ]
              refine wpAny_ready (rs := [3]) (by kernel_rfl) (by simp) ?_
              refine AllReady.cons rfl (fun K hK => ?_) AllReady.nil
              go_simp
              refine hK _ _ ?_
              clear hK K
              try simp only [Act.put, List.setIfInBounds_toArray, List.set_cons_zero, List.set_cons_succ]
              refine wpAny_ready (rs := [4]) (by kernel_rfl) (by simp) ?_
              refine AllReady.cons rfl (fun K hK => ?_) AllReady.nil
              go_simp
              refine (putS_sl vn HVN.out _).mono ?_
              rintro e wa ⟨Aa, ca, rfl, hoa, hba⟩
              refine hK _ _ ?_
              clear hK K
              try simp only [Act.put, List.setIfInBounds_toArray, List.set_cons_zero, List.set_cons_succ]
              have s1 : wa.cell? ⟨g, 0, none⟩ = some (.slice VA acc5.length VC) := (hba.cell (by exact hglt)).trans hc0
              have s3 : wa.cell? ⟨B1, 8, none⟩ = some (.int .i64 vn) := (hba.cell (by exact hblt)).trans e8
              have hsa : w.heap.size ≤ wa.heap.size := Nat.le_trans hbs (by exact hba.size)
              refine wpAny_ready (rs := [5]) (by kernel_rfl) (by simp) ?_
              refine AllReady.cons rfl (fun K hK => ?_) AllReady.nil
              refine step_app (by rfl) (.tmp 82) (.tmp 86) 43 26 (by rfl) (.slice VA acc5.length VC) (.slice Aa (putS vn).length ca) (by rfl) (by rfl) _ (run_app_wr wa w.heap.size _ _ ⟨_, Try.underlying26⟩ VA acc5.length VC (bytesC acc5) (own_below (by exact how) hba) _ Aa (putS vn).length ca (putS vn) (own_reads hoa) (by omega) hsa) ?_
              rintro vb wb ⟨hob, heb⟩
              obtain ⟨VB, CB, hvb, _, _, _⟩ := Reads.of_own hob
              subst hvb
              refine hK _ _ ?_
              clear hK K
              try simp only [Act.put, List.setIfInBounds_toArray, List.set_cons_zero, List.set_cons_succ]
              have hgb := heb.block g (Nat.lt_of_lt_of_le hglt (by exact hba.size)) hgne
              have t1 : wb.cell? ⟨g, 0, none⟩ = some (.slice VA acc5.length VC) := (World.cell?_of_block (w := wa) hgb).trans s1
              have t2 : wb.frozen? ⟨g, 0, none⟩ = false := (World.frozen?_of_block (w := wa) hgb).trans ((World.frozen?_of_block (hba.block g (by exact hglt))).trans hf0)
              refine wpAny_ready (rs := [6]) (by kernel_rfl) (by simp) ?_
              refine AllReady.cons rfl (fun K hK => ?_) AllReady.nil
              go_simp
              refine hK _ _ ?_
              clear hK K
              try simp only [Act.put, List.setIfInBounds_toArray, List.set_cons_zero, List.set_cons_succ]
              refine wpAny_done (by kernel_rfl) ?_ _
              obtain ⟨hA, hk⟩ := wput_fin (wr := w5.drew) HGE.out (by exact hbw) (by exact how) hww.drew hba hob heb
              clear HA hgb t1 t2 s1 s3 hob heb hba hoa hc0 hf0 hbw how hww hgne hsa hbs hblt
              have HA := Lib.hid hA
              clear hA
              have hl7 : (acc5 ++ putS vn).length ≤ 21140 := by simp only [List.length_append]; omega
              generalize acc5 ++ putS vn = acc7 at HA HT hl7
              replace HBC := Lib.hid (hk _ _ _ HBC.out (by decide) (by decide))
              replace HBO := Lib.hid (hk _ _ _ HBO.out (by decide) (by decide))
              clear hk
              try clear e0 e1 e2 e3 e4 e5 e6 e7 e8 e9 e10 e11 e12
              obtain ⟨e0, e1, e2, e3, e4, e5, e6, e7, e8, e9, e10, e11, e12⟩ := blk13 HBO.out
              have NS := wtext_step HA.out HGE.out vt (by omega) (by omega)
              go_wp2_with fail
              go_at_call 9
              refine NS.mono ?_
              rintro e w8 ⟨rfl, hA, hk⟩
              clear NS HA
              have HA := Lib.hid hA
              clear hA
              have hl8 : (acc7 ++ numsL [(vt.size : Int)] ++ vt.data.toList).length ≤ 21220 := by
                have h1 : vt.data.toList.length = vt.size := by rw [ByteArray.size, Array.length_toList]
                have h2 := numsL_le (l := [(vt.size : Int)]) (n := 1) rfl
                simp only [List.length_append]; omega
              generalize acc7 ++ numsL [(vt.size : Int)] ++ vt.data.toList = acc8 at HA HT hl8
              replace HBC := Lib.hid (hk _ _ _ HBC.out (by decide) (by decide))
              replace HBO := Lib.hid (hk _ _ _ HBO.out (by decide) (by decide))
              clear hk
              try clear e0 e1 e2 e3 e4 e5 e6 e7 e8 e9 e10 e11 e12
              obtain ⟨e0, e1, e2, e3, e4, e5, e6, e7, e8, e9, e10, e11, e12⟩ := blk13 HBO.out
              have NS := wnums_step HA.out HGE.out [(ol : Int)] 1 #[.int .i64 (ol : Int)] rfl rfl (by omega) (by omega) (by simp only [List.mem_cons, List.not_mem_nil, or_false]; rintro x rfl; exact nat_of (by omega)) _ rfl
              go_wp2_with fail
              go_at_call 8
              refine NS.mono ?_
              rintro e w9 ⟨rfl, hA, hk⟩
              clear NS HA
              have HA := Lib.hid hA
              clear hA
              have hl9 : (acc8 ++ numsL [(ol : Int)]).length ≤ 21240 := by
                have h1 := numsL_le (l := [(ol : Int)]) (n := 1) rfl
                simp only [List.length_append]; omega
              generalize acc8 ++ numsL [(ol : Int)] = acc9 at HA HT hl9
              replace HBC := Lib.hid (hk _ _ _ HBC.out (by decide) (by decide))
              replace HBO := Lib.hid (hk _ _ _ HBO.out (by decide) (by decide))
              clear hk
              try clear e0 e1 e2 e3 e4 e5 e6 e7 e8 e9 e10 e11 e12
              obtain ⟨e0, e1, e2, e3, e4, e5, e6, e7, e8, e9, e10, e11, e12⟩ := blk13 HBO.out
              have HA10 : Hid (WAcc w w9 g (acc9 ++ (l.take 0).flatMap pairB)) := by show WAcc _ _ _ _; simpa using HA.out
              go_wp2_with fail
              clear HA e0 e1 e2 e3 e4 e5 e6 e7 e8 e9 e10 e11 e12
              go_loopw [100] (fun i wr => ∃ q : Nat, q ≤ ol ∧ i = .int .i64 q ∧ Hid (WAcc w wr g (acc9 ++ (l.take q).flatMap pairB)) ∧ Hid (Blk wr w.heap.size 25 #[.int .i64 a, .int .i64 s, .int .i64 st, .slice DA dn DC, .slice (some ⟨b, off, none⟩) m OC])) (fun i _ => ol - (intOf i).toNat)
              case atStart => exact ⟨0, by omega, rfl, HA10, HBC⟩
              case round =>
                clear HA10 HBC HBO
                obtain ⟨q, hq, rfl, HA, HBC⟩ := hrel
                have HWB : Hid (Below w.heap.size w wr) := by obtain ⟨_, _, _, h⟩ := HA.out; exact h
                by_cases hql : q < ol
                · obtain ⟨r, hr⟩ : ∃ r, l[q]? = some r := get_lt (by rw [HOL.out]; exact hql)
                  obtain ⟨r1, r2⟩ := r
                  obtain ⟨pb, poff, hPA, hpb, hps2⟩ := refC_cells HLR.out (by omega) hr
                  subst hPA
                  have hg := HGL.out _ (List.mem_of_getElem? hr)
                  have HTp : Hid (acc9 ++ (l.take (q + 1)).flatMap pairB = (acc9 ++ (l.take q).flatMap pairB) ++ numsL [r1, r2]) := by
                    show _ = _
                    rw [take_pairs hr, List.append_assoc]
                  have hlq : (acc9 ++ (l.take q).flatMap pairB).length ≤ 22000 := by
                    have h2 := pairs_len (l.take q)
                    simp only [List.length_append, List.length_take] at h2 ⊢
                    omega
                  generalize acc9 ++ (l.take q).flatMap pairB = accq at HA HTp hlq
                  have NS := wnums_step (HA.out.alloc (.cells #[.int .i64 r1, .int .i64 r2] 28)) HGE.out [r1, r2] 2 #[.int .i64 r1, .int .i64 r2] rfl rfl (by omega) (by omega)
                    (by simp only [List.mem_cons, List.not_mem_nil, or_false]; rintro x (rfl | rfl); exact hg.1; exact hg.2) (wr.heap.size + 1) (by simp)
                  obtain ⟨x1, x2⟩ := hps2 wr (HWB.out.block pb hpb)
                  have hq0 : (0 : Int) ≤ (q : Int) := by omega
                  have hq1 : (q : Int) < (ol : Int) := by omega
                  clear hr hg HA
                  go_wp2_with fail
                  go_at_call 8
                  refine NS.mono ?_
                  rintro e w3 ⟨rfl, hA3, hk3⟩
                  have HB3 := Lib.hid (hk3 _ _ _ (HBC.out.alloc _) (by decide) (by decide))
                  have HA3 := Lib.hid hA3
                  clear hA3 hk3 NS x1 x2 hps2
                  go_wp2_with fail
                  first
                    | exact ⟨⟨q + 1, by omega, by go_num, by rw [HTp.out]; exact HA3, HB3⟩, by simp [intOf]; omega⟩
                    | (go_roundw
                       case rel => exact ⟨q + 1, by omega, by go_num, by rw [HTp.out]; exact HA3, HB3⟩
                       case measure => simp [intOf]; omega)
                · have hqo : q = ol := by omega
                  have HF : Hid (acc9 ++ (l.take q).flatMap pairB = acc1 ++ (ops.take (j + 1)).flatMap opB) := by
                    show _ = _
                    rw [HT.out, List.take_of_length_le (by rw [HOL.out]; omega)]
                  clear hqo
                  go_wp2_with fail
                  first
                    | exact ⟨⟨j + 1, by omega, by go_num, by rw [← HF.out]; exact HA, HBC⟩, by simp [intOf]; omega⟩
                    | (go_roundw
                       case rel => exact ⟨j + 1, by omega, by go_num, by rw [← HF.out]; exact HA, HBC⟩
                       case measure => simp [intOf]; omega)
            · go_simp
              refine hK _ _ ?_
              clear hK K
              try simp only [Act.put, List.setIfInBounds_toArray, List.set_cons_zero, List.set_cons_succ]
              refine wpAny_ready (rs := [0, 4]) (by kernel_rfl) (by simp) ?_
              refine AllReady.cons rfl (fun K hK => ?_) (AllReady.cons rfl (fun K hK => ?_) AllReady.nil)
              · skip
                go_simp
                refine hK _ _ ?_
                clear hK K
                try simp only [Act.put, List.setIfInBounds_toArray, List.set_cons_zero, List.set_cons_succ]
                refine wpAny_ready (rs := [4]) (by kernel_rfl) (by simp) ?_
                refine AllReady.cons rfl (fun K hK => ?_) AllReady.nil
                go_simp
                refine (putS_sl vn HVN.out _).mono ?_
                rintro e wa ⟨Aa, ca, rfl, hoa, hba⟩
                refine hK _ _ ?_
                clear hK K
                try simp only [Act.put, List.setIfInBounds_toArray, List.set_cons_zero, List.set_cons_succ]
                have s1 : wa.cell? ⟨g, 0, none⟩ = some (.slice VA acc5.length VC) := (hba.cell (by exact hglt)).trans hc0
                have s3 : wa.cell? ⟨B1, 8, none⟩ = some (.int .i64 vn) := (hba.cell (by exact hblt)).trans e8
                have hsa : w.heap.size ≤ wa.heap.size := Nat.le_trans hbs (by exact hba.size)
                refine wpAny_ready (rs := [5]) (by kernel_rfl) (by simp) ?_
                refine AllReady.cons rfl (fun K hK => ?_) AllReady.nil
                refine step_app (by rfl) (.tmp 82) (.tmp 86) 43 26 (by rfl) (.slice VA acc5.length VC) (.slice Aa (putS vn).length ca) (by rfl) (by rfl) _ (run_app_wr wa w.heap.size _ _ ⟨_, Try.underlying26⟩ VA acc5.length VC (bytesC acc5) (own_below (by exact how) hba) _ Aa (putS vn).length ca (putS vn) (own_reads hoa) (by omega) hsa) ?_
                rintro vb wb ⟨hob, heb⟩
                obtain ⟨VB, CB, hvb, _, _, _⟩ := Reads.of_own hob
                subst hvb
                refine hK _ _ ?_
                clear hK K
                try simp only [Act.put, List.setIfInBounds_toArray, List.set_cons_zero, List.set_cons_succ]
                have hgb := heb.block g (Nat.lt_of_lt_of_le hglt (by exact hba.size)) hgne
                have t1 : wb.cell? ⟨g, 0, none⟩ = some (.slice VA acc5.length VC) := (World.cell?_of_block (w := wa) hgb).trans s1
                have t2 : wb.frozen? ⟨g, 0, none⟩ = false := (World.frozen?_of_block (w := wa) hgb).trans ((World.frozen?_of_block (hba.block g (by exact hglt))).trans hf0)
                refine wpAny_ready (rs := [6]) (by kernel_rfl) (by simp) ?_
                refine AllReady.cons rfl (fun K hK => ?_) AllReady.nil
                go_simp
                refine hK _ _ ?_
                clear hK K
                try simp only [Act.put, List.setIfInBounds_toArray, List.set_cons_zero, List.set_cons_succ]
                refine wpAny_done (by kernel_rfl) ?_ _
                obtain ⟨hA, hk⟩ := wput_fin (wr := w5.drew) HGE.out (by exact hbw) (by exact how) hww.drew hba hob heb
                clear HA hgb t1 t2 s1 s3 hob heb hba hoa hc0 hf0 hbw how hww hgne hsa hbs hblt
                have HA := Lib.hid hA
                clear hA
                have hl7 : (acc5 ++ putS vn).length ≤ 21140 := by simp only [List.length_append]; omega
                generalize acc5 ++ putS vn = acc7 at HA HT hl7
                replace HBC := Lib.hid (hk _ _ _ HBC.out (by decide) (by decide))
                replace HBO := Lib.hid (hk _ _ _ HBO.out (by decide) (by decide))
                clear hk
                try clear e0 e1 e2 e3 e4 e5 e6 e7 e8 e9 e10 e11 e12
                obtain ⟨e0, e1, e2, e3, e4, e5, e6, e7, e8, e9, e10, e11, e12⟩ := blk13 HBO.out
                have NS := wtext_step HA.out HGE.out vt (by omega) (by omega)
                go_wp2_with fail
                go_at_call 9
                refine NS.mono ?_
                rintro e w8 ⟨rfl, hA, hk⟩
                clear NS HA
                have HA := Lib.hid hA
                clear hA
                have hl8 : (acc7 ++ numsL [(vt.size : Int)] ++ vt.data.toList).length ≤ 21220 := by
                  have h1 : vt.data.toList.length = vt.size := by rw [ByteArray.size, Array.length_toList]
                  have h2 := numsL_le (l := [(vt.size : Int)]) (n := 1) rfl
                  simp only [List.length_append]; omega
                generalize acc7 ++ numsL [(vt.size : Int)] ++ vt.data.toList = acc8 at HA HT hl8
                replace HBC := Lib.hid (hk _ _ _ HBC.out (by decide) (by decide))
                replace HBO := Lib.hid (hk _ _ _ HBO.out (by decide) (by decide))
                clear hk
                try clear e0 e1 e2 e3 e4 e5 e6 e7 e8 e9 e10 e11 e12
                obtain ⟨e0, e1, e2, e3, e4, e5, e6, e7, e8, e9, e10, e11, e12⟩ := blk13 HBO.out
                have NS := wnums_step HA.out HGE.out [(ol : Int)] 1 #[.int .i64 (ol : Int)] rfl rfl (by omega) (by omega) (by simp only [List.mem_cons, List.not_mem_nil, or_false]; rintro x rfl; exact nat_of (by omega)) _ rfl
                go_wp2_with fail
                go_at_call 8
                refine NS.mono ?_
                rintro e w9 ⟨rfl, hA, hk⟩
                clear NS HA
                have HA := Lib.hid hA
                clear hA
                have hl9 : (acc8 ++ numsL [(ol : Int)]).length ≤ 21240 := by
                  have h1 := numsL_le (l := [(ol : Int)]) (n := 1) rfl
                  simp only [List.length_append]; omega
                generalize acc8 ++ numsL [(ol : Int)] = acc9 at HA HT hl9
                replace HBC := Lib.hid (hk _ _ _ HBC.out (by decide) (by decide))
                replace HBO := Lib.hid (hk _ _ _ HBO.out (by decide) (by decide))
                clear hk
                try clear e0 e1 e2 e3 e4 e5 e6 e7 e8 e9 e10 e11 e12
                obtain ⟨e0, e1, e2, e3, e4, e5, e6, e7, e8, e9, e10, e11, e12⟩ := blk13 HBO.out
                have HA10 : Hid (WAcc w w9 g (acc9 ++ (l.take 0).flatMap pairB)) := by show WAcc _ _ _ _; simpa using HA.out
                go_wp2_with fail
                clear HA e0 e1 e2 e3 e4 e5 e6 e7 e8 e9 e10 e11 e12
                go_loopw [100] (fun i wr => ∃ q : Nat, q ≤ ol ∧ i = .int .i64 q ∧ Hid (WAcc w wr g (acc9 ++ (l.take q).flatMap pairB)) ∧ Hid (Blk wr w.heap.size 25 #[.int .i64 a, .int .i64 s, .int .i64 st, .slice DA dn DC, .slice (some ⟨b, off, none⟩) m OC])) (fun i _ => ol - (intOf i).toNat)
                case atStart => exact ⟨0, by omega, rfl, HA10, HBC⟩
                case round =>
                  clear HA10 HBC HBO
                  obtain ⟨q, hq, rfl, HA, HBC⟩ := hrel
                  have HWB : Hid (Below w.heap.size w wr) := by obtain ⟨_, _, _, h⟩ := HA.out; exact h
                  by_cases hql : q < ol
                  · obtain ⟨r, hr⟩ : ∃ r, l[q]? = some r := get_lt (by rw [HOL.out]; exact hql)
                    obtain ⟨r1, r2⟩ := r
                    obtain ⟨pb, poff, hPA, hpb, hps2⟩ := refC_cells HLR.out (by omega) hr
                    subst hPA
                    have hg := HGL.out _ (List.mem_of_getElem? hr)
                    have HTp : Hid (acc9 ++ (l.take (q + 1)).flatMap pairB = (acc9 ++ (l.take q).flatMap pairB) ++ numsL [r1, r2]) := by
                      show _ = _
                      rw [take_pairs hr, List.append_assoc]
                    have hlq : (acc9 ++ (l.take q).flatMap pairB).length ≤ 22000 := by
                      have h2 := pairs_len (l.take q)
                      simp only [List.length_append, List.length_take] at h2 ⊢
                      omega
                    generalize acc9 ++ (l.take q).flatMap pairB = accq at HA HTp hlq
                    have NS := wnums_step (HA.out.alloc (.cells #[.int .i64 r1, .int .i64 r2] 28)) HGE.out [r1, r2] 2 #[.int .i64 r1, .int .i64 r2] rfl rfl (by omega) (by omega)
                      (by simp only [List.mem_cons, List.not_mem_nil, or_false]; rintro x (rfl | rfl); exact hg.1; exact hg.2) (wr.heap.size + 1) (by simp)
                    obtain ⟨x1, x2⟩ := hps2 wr (HWB.out.block pb hpb)
                    have hq0 : (0 : Int) ≤ (q : Int) := by omega
                    have hq1 : (q : Int) < (ol : Int) := by omega
                    clear hr hg HA
                    go_wp2_with fail
                    go_at_call 8
                    refine NS.mono ?_
                    rintro e w3 ⟨rfl, hA3, hk3⟩
                    have HB3 := Lib.hid (hk3 _ _ _ (HBC.out.alloc _) (by decide) (by decide))
                    have HA3 := Lib.hid hA3
                    clear hA3 hk3 NS x1 x2 hps2
                    go_wp2_with fail
                    first
                      | exact ⟨⟨q + 1, by omega, by go_num, by rw [HTp.out]; exact HA3, HB3⟩, by simp [intOf]; omega⟩
                      | (go_roundw
                         case rel => exact ⟨q + 1, by omega, by go_num, by rw [HTp.out]; exact HA3, HB3⟩
                         case measure => simp [intOf]; omega)
                  · have hqo : q = ol := by omega
                    have HF : Hid (acc9 ++ (l.take q).flatMap pairB = acc1 ++ (ops.take (j + 1)).flatMap opB) := by
                      show _ = _
                      rw [HT.out, List.take_of_length_le (by rw [HOL.out]; omega)]
                    clear hqo
                    go_wp2_with fail
                    first
                      | exact ⟨⟨j + 1, by omega, by go_num, by rw [← HF.out]; exact HA, HBC⟩, by simp [intOf]; omega⟩
                      | (go_roundw
                         case rel => exact ⟨j + 1, by omega, by go_num, by rw [← HF.out]; exact HA, HBC⟩
                         case measure => simp [intOf]; omega)
              · skip
                go_simp
                refine (putS_sl vn HVN.out _).mono ?_
                rintro e wa ⟨Aa, ca, rfl, hoa, hba⟩
                refine hK _ _ ?_
                clear hK K
                try simp only [Act.put, List.setIfInBounds_toArray, List.set_cons_zero, List.set_cons_succ]
                have s1 : wa.cell? ⟨g, 0, none⟩ = some (.slice VA acc5.length VC) := (hba.cell (by exact hglt)).trans hc0
                have s3 : wa.cell? ⟨B1, 8, none⟩ = some (.int .i64 vn) := (hba.cell (by exact hblt)).trans e8
                have hsa : w.heap.size ≤ wa.heap.size := Nat.le_trans hbs (by exact hba.size)
                refine wpAny_ready (rs := [0]) (by kernel_rfl) (by simp) ?_
                refine AllReady.cons rfl (fun K hK => ?_) AllReady.nil
                go_simp
                refine hK _ _ ?_
                clear hK K
                try simp only [Act.put, List.setIfInBounds_toArray, List.set_cons_zero, List.set_cons_succ]
                refine wpAny_ready (rs := [5]) (by kernel_rfl) (by simp) ?_
                refine AllReady.cons rfl (fun K hK => ?_) AllReady.nil
                refine step_app (by rfl) (.tmp 82) (.tmp 86) 43 26 (by rfl) (.slice VA acc5.length VC) (.slice Aa (putS vn).length ca) (by rfl) (by rfl) _ (run_app_wr wa w.heap.size _ _ ⟨_, Try.underlying26⟩ VA acc5.length VC (bytesC acc5) (own_below (by exact how) hba) _ Aa (putS vn).length ca (putS vn) (own_reads hoa) (by omega) hsa) ?_
                rintro vb wb ⟨hob, heb⟩
                obtain ⟨VB, CB, hvb, _, _, _⟩ := Reads.of_own hob
                subst hvb
                refine hK _ _ ?_
                clear hK K
                try simp only [Act.put, List.setIfInBounds_toArray, List.set_cons_zero, List.set_cons_succ]
                have hgb := heb.block g (Nat.lt_of_lt_of_le hglt (by exact hba.size)) hgne
                have t1 : wb.cell? ⟨g, 0, none⟩ = some (.slice VA acc5.length VC) := (World.cell?_of_block (w := wa) hgb).trans s1
                have t2 : wb.frozen? ⟨g, 0, none⟩ = false := (World.frozen?_of_block (w := wa) hgb).trans ((World.frozen?_of_block (hba.block g (by exact hglt))).trans hf0)
                refine wpAny_ready (rs := [6]) (by kernel_rfl) (by simp) ?_
                refine AllReady.cons rfl (fun K hK => ?_) AllReady.nil
                go_simp
                refine hK _ _ ?_
                clear hK K
                try simp only [Act.put, List.setIfInBounds_toArray, List.set_cons_zero, List.set_cons_succ]
                refine wpAny_done (by kernel_rfl) ?_ _
                obtain ⟨hA, hk⟩ := wput_fin (wr := w5.drew) HGE.out (by exact hbw) (by exact how) hww.drew hba hob heb
                clear HA hgb t1 t2 s1 s3 hob heb hba hoa hc0 hf0 hbw how hww hgne hsa hbs hblt
                have HA := Lib.hid hA
                clear hA
                have hl7 : (acc5 ++ putS vn).length ≤ 21140 := by simp only [List.length_append]; omega
                generalize acc5 ++ putS vn = acc7 at HA HT hl7
                replace HBC := Lib.hid (hk _ _ _ HBC.out (by decide) (by decide))
                replace HBO := Lib.hid (hk _ _ _ HBO.out (by decide) (by decide))
                clear hk
                try clear e0 e1 e2 e3 e4 e5 e6 e7 e8 e9 e10 e11 e12
                obtain ⟨e0, e1, e2, e3, e4, e5, e6, e7, e8, e9, e10, e11, e12⟩ := blk13 HBO.out
                have NS := wtext_step HA.out HGE.out vt (by omega) (by omega)
                go_wp2_with fail
                go_at_call 9
                refine NS.mono ?_
                rintro e w8 ⟨rfl, hA, hk⟩
                clear NS HA
                have HA := Lib.hid hA
                clear hA
                have hl8 : (acc7 ++ numsL [(vt.size : Int)] ++ vt.data.toList).length ≤ 21220 := by
                  have h1 : vt.data.toList.length = vt.size := by rw [ByteArray.size, Array.length_toList]
                  have h2 := numsL_le (l := [(vt.size : Int)]) (n := 1) rfl
                  simp only [List.length_append]; omega
                generalize acc7 ++ numsL [(vt.size : Int)] ++ vt.data.toList = acc8 at HA HT hl8
                replace HBC := Lib.hid (hk _ _ _ HBC.out (by decide) (by decide))
                replace HBO := Lib.hid (hk _ _ _ HBO.out (by decide) (by decide))
                clear hk
                try clear e0 e1 e2 e3 e4 e5 e6 e7 e8 e9 e10 e11 e12
                obtain ⟨e0, e1, e2, e3, e4, e5, e6, e7, e8, e9, e10, e11, e12⟩ := blk13 HBO.out
                have NS := wnums_step HA.out HGE.out [(ol : Int)] 1 #[.int .i64 (ol : Int)] rfl rfl (by omega) (by omega) (by simp only [List.mem_cons, List.not_mem_nil, or_false]; rintro x rfl; exact nat_of (by omega)) _ rfl
                go_wp2_with fail
                go_at_call 8
                refine NS.mono ?_
                rintro e w9 ⟨rfl, hA, hk⟩
                clear NS HA
                have HA := Lib.hid hA
                clear hA
                have hl9 : (acc8 ++ numsL [(ol : Int)]).length ≤ 21240 := by
                  have h1 := numsL_le (l := [(ol : Int)]) (n := 1) rfl
                  simp only [List.length_append]; omega
                generalize acc8 ++ numsL [(ol : Int)] = acc9 at HA HT hl9
                replace HBC := Lib.hid (hk _ _ _ HBC.out (by decide) (by decide))
                replace HBO := Lib.hid (hk _ _ _ HBO.out (by decide) (by decide))
                clear hk
                try clear e0 e1 e2 e3 e4 e5 e6 e7 e8 e9 e10 e11 e12
                obtain ⟨e0, e1, e2, e3, e4, e5, e6, e7, e8, e9, e10, e11, e12⟩ := blk13 HBO.out
                have HA10 : Hid (WAcc w w9 g (acc9 ++ (l.take 0).flatMap pairB)) := by show WAcc _ _ _ _; simpa using HA.out
                go_wp2_with fail
                clear HA e0 e1 e2 e3 e4 e5 e6 e7 e8 e9 e10 e11 e12
                go_loopw [100] (fun i wr => ∃ q : Nat, q ≤ ol ∧ i = .int .i64 q ∧ Hid (WAcc w wr g (acc9 ++ (l.take q).flatMap pairB)) ∧ Hid (Blk wr w.heap.size 25 #[.int .i64 a, .int .i64 s, .int .i64 st, .slice DA dn DC, .slice (some ⟨b, off, none⟩) m OC])) (fun i _ => ol - (intOf i).toNat)
                case atStart => exact ⟨0, by omega, rfl, HA10, HBC⟩
                case round =>
                  clear HA10 HBC HBO
                  obtain ⟨q, hq, rfl, HA, HBC⟩ := hrel
                  have HWB : Hid (Below w.heap.size w wr) := by obtain ⟨_, _, _, h⟩ := HA.out; exact h
                  by_cases hql : q < ol
                  · obtain ⟨r, hr⟩ : ∃ r, l[q]? = some r := get_lt (by rw [HOL.out]; exact hql)
                    obtain ⟨r1, r2⟩ := r
                    obtain ⟨pb, poff, hPA, hpb, hps2⟩ := refC_cells HLR.out (by omega) hr
                    subst hPA
                    have hg := HGL.out _ (List.mem_of_getElem? hr)
                    have HTp : Hid (acc9 ++ (l.take (q + 1)).flatMap pairB = (acc9 ++ (l.take q).flatMap pairB) ++ numsL [r1, r2]) := by
                      show _ = _
                      rw [take_pairs hr, List.append_assoc]
                    have hlq : (acc9 ++ (l.take q).flatMap pairB).length ≤ 22000 := by
                      have h2 := pairs_len (l.take q)
                      simp only [List.length_append, List.length_take] at h2 ⊢
                      omega
                    generalize acc9 ++ (l.take q).flatMap pairB = accq at HA HTp hlq
                    have NS := wnums_step (HA.out.alloc (.cells #[.int .i64 r1, .int .i64 r2] 28)) HGE.out [r1, r2] 2 #[.int .i64 r1, .int .i64 r2] rfl rfl (by omega) (by omega)
                      (by simp only [List.mem_cons, List.not_mem_nil, or_false]; rintro x (rfl | rfl); exact hg.1; exact hg.2) (wr.heap.size + 1) (by simp)
                    obtain ⟨x1, x2⟩ := hps2 wr (HWB.out.block pb hpb)
                    have hq0 : (0 : Int) ≤ (q : Int) := by omega
                    have hq1 : (q : Int) < (ol : Int) := by omega
                    clear hr hg HA
                    go_wp2_with fail
                    go_at_call 8
                    refine NS.mono ?_
                    rintro e w3 ⟨rfl, hA3, hk3⟩
                    have HB3 := Lib.hid (hk3 _ _ _ (HBC.out.alloc _) (by decide) (by decide))
                    have HA3 := Lib.hid hA3
                    clear hA3 hk3 NS x1 x2 hps2
                    go_wp2_with fail
                    first
                      | exact ⟨⟨q + 1, by omega, by go_num, by rw [HTp.out]; exact HA3, HB3⟩, by simp [intOf]; omega⟩
                      | (go_roundw
                         case rel => exact ⟨q + 1, by omega, by go_num, by rw [HTp.out]; exact HA3, HB3⟩
                         case measure => simp [intOf]; omega)
                  · have hqo : q = ol := by omega
                    have HF : Hid (acc9 ++ (l.take q).flatMap pairB = acc1 ++ (ops.take (j + 1)).flatMap opB) := by
                      show _ = _
                      rw [HT.out, List.take_of_length_le (by rw [HOL.out]; omega)]
                    clear hqo
                    go_wp2_with fail
                    first
                      | exact ⟨⟨j + 1, by omega, by go_num, by rw [← HF.out]; exact HA, HBC⟩, by simp [intOf]; omega⟩
                      | (go_roundw
                         case rel => exact ⟨j + 1, by omega, by go_num, by rw [← HF.out]; exact HA, HBC⟩
                         case measure => simp [intOf]; omega)
        · have hjm : j = m := by omega
          have HF : Hid (encL a s st deps ops = acc1 ++ (ops.take j).flatMap opB) := by
            show _ = _
            rw [HFE.out, List.take_of_length_le (by rw [HM.out]; omega)]
          clear hjm
          generalize acc1 ++ (ops.take j).flatMap opB = acc at HA HF
          obtain ⟨v, hbw, how, hww⟩ := HA.out
          have cw : wr.cell? ⟨g, 0, none⟩ = some v := hbw.cell 0
          obtain ⟨VA, VC, hv, _, _, _⟩ := Reads.of_own how
          subst hv
          go_wp2_with fail
          go_ret2
          refine ⟨.slice VA acc.length VC, rfl, ?_⟩
          rw [HF.out]
          exact ⟨how, hww⟩
end Go.Proofs.Ytoolpppbbphbjaa
