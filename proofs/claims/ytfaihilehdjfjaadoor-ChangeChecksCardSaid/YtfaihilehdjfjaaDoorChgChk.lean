/- The law ChangeChecks: walked. -/
import Derived.Test.YtfaihilehdjfjaaDoorIds
import Derived.Test.YtfaihilehdjfjaaDoorAs
namespace Go.Proofs.YtfaihilehdjfjaaDoor
open Go.ChangeShapes Go.WideShapes Go.ChangeAt Go.RowKit

theorem told_same (k : Nat) (w : World) (hE : ErrT w) : Calls Tryd.prog 10 #[errN k, .int .i64 k] w fun e w' => e = .returned (.bool true) ∧ Below w.heap.size w w' := by
  have := same_error k k w hE
  rwa [show ((k : Int) == (k : Int)) = true from by simp] at this
set_option maxHeartbeats 8000000 in
set_option maxRecDepth 20000 in
theorem changeChecks_walk (a s st : Int) (deps : List Rf) (DA : Option Addr) (dn DC : Nat) (ops : List OpD) (OA : Option Addr) (m OC : Nat) (w : World)
    (hC : ChM w deps DA ops OA) (hdn : deps.length = dn) (hm : ops.length = m) (hv : ∀ o ∈ ops, (Lit.int .i64 o.vn).wf = true) (hE : ErrT w) :
    Calls Tryd.prog 4 #[.agg #[.int .i64 a, .int .i64 s, .int .i64 st, .slice DA dn DC, .slice OA m OC]] w fun e w' => e = .returned (.bool true) ∧ Below w.heap.size w w' := by
  have HET := Lib.hid hE
  have HC := Lib.hid hC
  have HDN := Lib.hid hdn
  have HM := Lib.hid hm
  have HV := Lib.hid hv
  have HBC := Lib.hid (Blk.new w 36 #[.int .i64 a, .int .i64 s, .int .i64 st, .slice DA dn DC, .slice OA m OC])
  have HW := Lib.hid ((Below.refl _ w).alloc (Nat.le_refl _) (.cells #[.int .i64 a, .int .i64 s, .int .i64 st, .slice DA dn DC, .slice OA m OC] 36))
  have R1 := refChange_any a s st deps DA dn DC ops OA m OC _ (HC.out.keep HW.out) hdn hm
  clear hC hdn hm hv hE
  generalize hk : chgE a s st deps ops = k at R1
  go_enter Tryd.func4, Tryd.ntmps4
  go_wp2_with fail
  go_at_call 15
  refine R1.mono ?_
  rintro e w1 ⟨rfl, hb⟩
  replace HBC := Lib.hid (HBC.out.keep (hb.block _ HBC.out.lt))
  replace HW := Lib.hid (HW.out.trans (hb.mono HW.out.size))
  clear hb
  try clear c0 c1 c2 c3 c4
  have c0 : w1.cell? ⟨w.heap.size, 0, none⟩ = some (.int .i64 a) := HBC.out.cell 0
  have c1 : w1.cell? ⟨w.heap.size, 1, none⟩ = some (.int .i64 s) := HBC.out.cell 1
  have c2 : w1.cell? ⟨w.heap.size, 2, none⟩ = some (.int .i64 st) := HBC.out.cell 2
  have c3 : w1.cell? ⟨w.heap.size, 3, none⟩ = some (.slice DA dn DC) := HBC.out.cell 3
  have c4 : w1.cell? ⟨w.heap.size, 4, none⟩ = some (.slice OA m OC) := HBC.out.cell 4
  have R2 := check_any a s st deps DA dn DC ops OA m OC w1 (HC.out.keep HW.out) HDN.out HM.out
  rw [hk] at R2
  clear R1
  go_wp2_with fail
  go_at_call 16
  refine R2.mono ?_
  rintro e w2 ⟨rfl, hb⟩
  replace HBC := Lib.hid (HBC.out.keep (hb.block _ HBC.out.lt))
  replace HW := Lib.hid (HW.out.trans (hb.mono HW.out.size))
  clear hb
  try clear c0 c1 c2 c3 c4
  have c0 : w2.cell? ⟨w.heap.size, 0, none⟩ = some (.int .i64 a) := HBC.out.cell 0
  have c1 : w2.cell? ⟨w.heap.size, 1, none⟩ = some (.int .i64 s) := HBC.out.cell 1
  have c2 : w2.cell? ⟨w.heap.size, 2, none⟩ = some (.int .i64 st) := HBC.out.cell 2
  have c3 : w2.cell? ⟨w.heap.size, 3, none⟩ = some (.slice DA dn DC) := HBC.out.cell 3
  have c4 : w2.cell? ⟨w.heap.size, 4, none⟩ = some (.slice OA m OC) := HBC.out.cell 4
  clear R2
  have T1 := told_same k w2 (HET.out.keep HW.out)
  by_cases h0 : k = 0
  case neg =>
    rw [show errN k = .iface 80 (.int .i64 k) from if_neg h0] at T1 ⊢
    have d0 : ((k : Int) == 0) = false := by simp; omega
    have HK := Lib.hid hk
    have H0 := Lib.hid h0
    clear hk h0
    go_wp2_with fail
    go_at_call 10
    refine T1.mono ?_
    rintro e w3 ⟨rfl, hb⟩
    replace HBC := Lib.hid (HBC.out.keep (hb.block _ HBC.out.lt))
    replace HW := Lib.hid (HW.out.trans (hb.mono HW.out.size))
    clear hb
    try clear c0 c1 c2 c3 c4
    have c0 : w3.cell? ⟨w.heap.size, 0, none⟩ = some (.int .i64 a) := HBC.out.cell 0
    have c1 : w3.cell? ⟨w.heap.size, 1, none⟩ = some (.int .i64 s) := HBC.out.cell 1
    have c2 : w3.cell? ⟨w.heap.size, 2, none⟩ = some (.int .i64 st) := HBC.out.cell 2
    have c3 : w3.cell? ⟨w.heap.size, 3, none⟩ = some (.slice DA dn DC) := HBC.out.cell 3
    have c4 : w3.cell? ⟨w.heap.size, 4, none⟩ = some (.slice OA m OC) := HBC.out.cell 4
    clear T1
    have R3 := encBad_any a s st deps DA dn DC ops OA m OC w3 (HC.out.keep HW.out) HDN.out HM.out k HK.out H0.out
    go_wp2_with fail
    go_at_call 19
    refine R3.mono ?_
    rintro e w4 ⟨rfl, hb⟩
    replace HBC := Lib.hid (HBC.out.keep (hb.block _ HBC.out.lt))
    replace HW := Lib.hid (HW.out.trans (hb.mono HW.out.size))
    clear hb
    try clear c0 c1 c2 c3 c4
    have c0 : w4.cell? ⟨w.heap.size, 0, none⟩ = some (.int .i64 a) := HBC.out.cell 0
    have c1 : w4.cell? ⟨w.heap.size, 1, none⟩ = some (.int .i64 s) := HBC.out.cell 1
    have c2 : w4.cell? ⟨w.heap.size, 2, none⟩ = some (.int .i64 st) := HBC.out.cell 2
    have c3 : w4.cell? ⟨w.heap.size, 3, none⟩ = some (.slice DA dn DC) := HBC.out.cell 3
    have c4 : w4.cell? ⟨w.heap.size, 4, none⟩ = some (.slice OA m OC) := HBC.out.cell 4
    clear R3
    have T2 := told_same k w4 (HET.out.keep HW.out)
    rw [show errN k = .iface 80 (.int .i64 k) from if_neg H0.out] at T2
    go_wp2_with fail
    go_at_call 10
    refine T2.mono ?_
    rintro e w5 ⟨rfl, hb⟩
    replace HBC := Lib.hid (HBC.out.keep (hb.block _ HBC.out.lt))
    replace HW := Lib.hid (HW.out.trans (hb.mono HW.out.size))
    clear hb
    try clear c0 c1 c2 c3 c4
    have c0 : w5.cell? ⟨w.heap.size, 0, none⟩ = some (.int .i64 a) := HBC.out.cell 0
    have c1 : w5.cell? ⟨w.heap.size, 1, none⟩ = some (.int .i64 s) := HBC.out.cell 1
    have c2 : w5.cell? ⟨w.heap.size, 2, none⟩ = some (.int .i64 st) := HBC.out.cell 2
    have c3 : w5.cell? ⟨w.heap.size, 3, none⟩ = some (.slice DA dn DC) := HBC.out.cell 3
    have c4 : w5.cell? ⟨w.heap.size, 4, none⟩ = some (.slice OA m OC) := HBC.out.cell 4
    clear T2
    have cvn : (convert 39 9 (.slice none 0 0)).run Tryd.prog w5 = .ok (.string ⟨#[]⟩) w5 := conv_reads (l := []) (c := 0) (A := none) (D := fun _ => False) (w := w5) Reads.none_
    go_wp2_with fail
    go_ret
    exact ⟨rfl, HW.out⟩
  subst h0
  obtain ⟨hG, hst⟩ := chg_good hk HV.out
  have HK := Lib.hid hk
  have HG := Lib.hid hG
  have hm40 : m ≤ 40 := by rw [← HM.out]; exact hG.ol
  clear hk hG
  rw [show errN 0 = .nilIface from rfl] at T1 ⊢
  go_wp2_with fail
  go_at_call 10
  refine T1.mono ?_
  rintro e w3 ⟨rfl, hb⟩
  replace HBC := Lib.hid (HBC.out.keep (hb.block _ HBC.out.lt))
  replace HW := Lib.hid (HW.out.trans (hb.mono HW.out.size))
  clear hb
  try clear c0 c1 c2 c3 c4
  have c0 : w3.cell? ⟨w.heap.size, 0, none⟩ = some (.int .i64 a) := HBC.out.cell 0
  have c1 : w3.cell? ⟨w.heap.size, 1, none⟩ = some (.int .i64 s) := HBC.out.cell 1
  have c2 : w3.cell? ⟨w.heap.size, 2, none⟩ = some (.int .i64 st) := HBC.out.cell 2
  have c3 : w3.cell? ⟨w.heap.size, 3, none⟩ = some (.slice DA dn DC) := HBC.out.cell 3
  have c4 : w3.cell? ⟨w.heap.size, 4, none⟩ = some (.slice OA m OC) := HBC.out.cell 4
  clear T1
  have R3 := refEnc_any a s st deps DA dn DC ops OA m OC w3 (HC.out.keep HW.out) HDN.out HM.out HG.out
  generalize hbs : encL a s st deps ops = bs at R3
  have HBS := Lib.hid hbs
  clear hbs
  go_wp2_with fail
  go_at_call 17
  refine R3.mono ?_
  rintro e w4 ⟨v4, rfl, ho4, hb⟩
  replace HBC := Lib.hid (HBC.out.keep (hb.block _ HBC.out.lt))
  replace HW := Lib.hid (HW.out.trans (hb.mono HW.out.size))
  clear hb
  try clear c0 c1 c2 c3 c4
  have c0 : w4.cell? ⟨w.heap.size, 0, none⟩ = some (.int .i64 a) := HBC.out.cell 0
  have c1 : w4.cell? ⟨w.heap.size, 1, none⟩ = some (.int .i64 s) := HBC.out.cell 1
  have c2 : w4.cell? ⟨w.heap.size, 2, none⟩ = some (.int .i64 st) := HBC.out.cell 2
  have c3 : w4.cell? ⟨w.heap.size, 3, none⟩ = some (.slice DA dn DC) := HBC.out.cell 3
  have c4 : w4.cell? ⟨w.heap.size, 4, none⟩ = some (.slice OA m OC) := HBC.out.cell 4
  obtain ⟨A4, C4, hv4, _, _, hr4⟩ := Reads.of_own ho4
  subst hv4
  have HR4 : Hid (Reads (fun x => x < w4.heap.size) w4 1 A4 bs.length (bytesC bs)) := hr4.more fun x hx => (own_lt ho4 hx).2
  clear R3 ho4 hr4
  have R4 := cids_any a s st DA dn DC OA m OC w4 hm40 ⟨by omega, by omega⟩
  go_wp2_with fail
  go_at_call 18
  refine R4.mono ?_
  rintro e w5 ⟨v5, rfl, ho5, hb⟩
  replace HR4 : Hid (Reads (fun x => x < w5.heap.size) w5 1 A4 bs.length (bytesC bs)) := reads_below HR4.out hb
  replace HBC := Lib.hid (HBC.out.keep (hb.block _ HBC.out.lt))
  replace HW := Lib.hid (HW.out.trans (hb.mono HW.out.size))
  clear hb
  try clear c0 c1 c2 c3 c4
  have c0 : w5.cell? ⟨w.heap.size, 0, none⟩ = some (.int .i64 a) := HBC.out.cell 0
  have c1 : w5.cell? ⟨w.heap.size, 1, none⟩ = some (.int .i64 s) := HBC.out.cell 1
  have c2 : w5.cell? ⟨w.heap.size, 2, none⟩ = some (.int .i64 st) := HBC.out.cell 2
  have c3 : w5.cell? ⟨w.heap.size, 3, none⟩ = some (.slice DA dn DC) := HBC.out.cell 3
  have c4 : w5.cell? ⟨w.heap.size, 4, none⟩ = some (.slice OA m OC) := HBC.out.cell 4
  obtain ⟨A5, C5, hv5, _, _, hr5⟩ := Reads.of_own ho5
  subst hv5
  have HR5 : Hid (Reads (fun x => x < w5.heap.size) w5 2 A5 m (refC (idsL a st m))) := hr5.more fun x hx => (own_lt ho5 hx).2
  clear R4 ho5 hr5
  go_wp2_with fail
  clear c0 c1 c2 c3 c4
  have HB5 := Lib.hid (Below.refl w5.heap.size w5)
  go_loopw [8] (fun z wr => ∃ i : Nat, i ≤ m ∧ z = .int .i64 i ∧ Hid (Below w.heap.size w wr) ∧ Hid (Blk wr w.heap.size 36 #[.int .i64 a, .int .i64 s, .int .i64 st, .slice DA dn DC, .slice OA m OC]) ∧ Hid (Below w5.heap.size w5 wr)) (fun z _ => m - (intOf z).toNat)
  case atStart => exact ⟨0, by omega, rfl, HW, HBC, HB5⟩
  case round =>
    clear HW HBC HB5
    obtain ⟨i, hi, rfl, HW, HBC, HB5⟩ := hrel
    have c0 : wr.cell? ⟨w.heap.size, 0, none⟩ = some (.int .i64 a) := HBC.out.cell 0
    have c1 : wr.cell? ⟨w.heap.size, 1, none⟩ = some (.int .i64 s) := HBC.out.cell 1
    have c2 : wr.cell? ⟨w.heap.size, 2, none⟩ = some (.int .i64 st) := HBC.out.cell 2
    have c3 : wr.cell? ⟨w.heap.size, 3, none⟩ = some (.slice DA dn DC) := HBC.out.cell 3
    have c4 : wr.cell? ⟨w.heap.size, 4, none⟩ = some (.slice OA m OC) := HBC.out.cell 4
    by_cases hlt : i < m
    · obtain ⟨b, off, hA, hb, hcs⟩ := refC_cells HR5.out (by omega) (idsL_at a st m i hlt)
      subst hA
      obtain ⟨x1, x2⟩ := hcs wr (HB5.out.block b hb)
      have x5 : IntKind.i64.wrap (st + (i : Int)) = st + (i : Int) := IntWalk.i64_in _ (by omega)
      have hi0 : (0 : Int) ≤ (i : Int) := by omega
      have hi1 : (i : Int) < (m : Int) := by omega
      clear hcs hb
      go_wp2_with fail
      go_quiet (fail)
      change Exit.then _ _ _ _ (wr.drewN nq)
      have HWn : Hid (Below w.heap.size w (wr.drewN nq)) := below_drewN HW.out nq
      have HBn : Hid (Blk (wr.drewN nq) w.heap.size 36 #[.int .i64 a, .int .i64 s, .int .i64 st, .slice DA dn DC, .slice OA m OC]) := HBC.out
      have HB5n : Hid (Below w5.heap.size w5 (wr.drewN nq)) := below_drewN HB5.out nq
      generalize wr.drewN nq = w6 at HWn HBn HB5n ⊢
      clear x1 x2 x5 c0 c1 c2 c3 c4
      go_wp2_with fail
      go_roundw
      case rel => exact ⟨i + 1, by omega, by go_num, HWn, HBn, HB5n⟩
      case measure => simp [intOf]; omega
    · replace HR4 : Hid (Reads (fun x => x < wr.heap.size) wr 1 A4 bs.length (bytesC bs)) := reads_below HR4.out HB5.out
      have R6 := enc_any a s st deps DA dn DC ops OA m OC wr (HC.out.keep HW.out) HDN.out HM.out HK.out HG.out
      rw [HBS.out] at R6
      clear HR5 HB5
      go_wp2_with fail
      go_at_call 19
      refine R6.mono ?_
      rintro e w6 ⟨v6, rfl, ho6, hb⟩
      replace HR4 : Hid (Reads (fun x => x < w6.heap.size) w6 1 A4 bs.length (bytesC bs)) := reads_below HR4.out hb
      replace HBC := Lib.hid (HBC.out.keep (hb.block _ HBC.out.lt))
      replace HW := Lib.hid (HW.out.trans (hb.mono HW.out.size))
      clear hb
      try clear c0 c1 c2 c3 c4
      have c0 : w6.cell? ⟨w.heap.size, 0, none⟩ = some (.int .i64 a) := HBC.out.cell 0
      have c1 : w6.cell? ⟨w.heap.size, 1, none⟩ = some (.int .i64 s) := HBC.out.cell 1
      have c2 : w6.cell? ⟨w.heap.size, 2, none⟩ = some (.int .i64 st) := HBC.out.cell 2
      have c3 : w6.cell? ⟨w.heap.size, 3, none⟩ = some (.slice DA dn DC) := HBC.out.cell 3
      have c4 : w6.cell? ⟨w.heap.size, 4, none⟩ = some (.slice OA m OC) := HBC.out.cell 4
      obtain ⟨A6, C6, hv6, _, _, hr6⟩ := Reads.of_own ho6
      subst hv6
      have HR6 : Hid (Reads (fun x => x < w6.heap.size) w6 1 A6 bs.length (bytesC bs)) := hr6.more fun x hx => (own_lt ho6 hx).2
      clear R6 ho6 hr6
      have T2 := told_same 0 w6 (HET.out.keep HW.out)
      rw [show errN 0 = .nilIface from rfl] at T2
      go_wp2_with fail
      go_at_call 10
      refine T2.mono ?_
      rintro e w7 ⟨rfl, hb⟩
      have cv1 : (convert 39 9 (.slice A6 bs.length C6)).run Tryd.prog w7 = .ok (.string ⟨bs.toArray⟩) w7 := conv_reads (reads_below HR6.out hb)
      have cv2 : (convert 39 9 (.slice A4 bs.length C4)).run Tryd.prog w7 = .ok (.string ⟨bs.toArray⟩) w7 := conv_reads (reads_below HR4.out hb)
      replace HBC := Lib.hid (HBC.out.keep (hb.block _ HBC.out.lt))
      replace HW := Lib.hid (HW.out.trans (hb.mono HW.out.size))
      clear hb
      try clear c0 c1 c2 c3 c4
      have c0 : w7.cell? ⟨w.heap.size, 0, none⟩ = some (.int .i64 a) := HBC.out.cell 0
      have c1 : w7.cell? ⟨w.heap.size, 1, none⟩ = some (.int .i64 s) := HBC.out.cell 1
      have c2 : w7.cell? ⟨w.heap.size, 2, none⟩ = some (.int .i64 st) := HBC.out.cell 2
      have c3 : w7.cell? ⟨w.heap.size, 3, none⟩ = some (.slice DA dn DC) := HBC.out.cell 3
      have c4 : w7.cell? ⟨w.heap.size, 4, none⟩ = some (.slice OA m OC) := HBC.out.cell 4
      clear T2 HR4 HR6
      go_wp2_with fail
      go_ret
      exact ⟨rfl, HW.out⟩
end Go.Proofs.YtfaihilehdjfjaaDoor
