/- The law ChangeDecodes: walked. -/
import Derived.Test.YtfaihilehdjfjaaDoorDec
import Derived.Test.YtfaihilehdjfjaaDoorRefDec
import Derived.Test.YtfaihilehdjfjaaDoorSame
import Derived.Test.YtfaihilehdjfjaaDoorAs
namespace Go.Proofs.YtfaihilehdjfjaaDoor
open Go.ChangeShapes Go.WideShapes Go.ChangeAt Go.RowKit

theorem rdOp_wf (l : List UInt8) (s : Nat × Bool) : (Lit.int .i64 (rdOp l s).1.vn).wf = true := by
  have h := rdInt_bd (l := l) (at_ := (rdNum l 6 (rdNum l 1 (rdPair l 1000000 99 (rdText l 20 (rdPair l 1000000 99 (rdNum l 4 s.1 s.2).2).2.1 (rdPair l 1000000 99 (rdNum l 4 s.1 s.2).2).2.2).2).2.1 (rdPair l 1000000 99 (rdText l 20 (rdPair l 1000000 99 (rdNum l 4 s.1 s.2).2).2.1 (rdPair l 1000000 99 (rdNum l 4 s.1 s.2).2).2.2).2).2.2).2.1 (rdNum l 1 (rdPair l 1000000 99 (rdText l 20 (rdPair l 1000000 99 (rdNum l 4 s.1 s.2).2).2.1 (rdPair l 1000000 99 (rdNum l 4 s.1 s.2).2).2.2).2).2.1 (rdPair l 1000000 99 (rdText l 20 (rdPair l 1000000 99 (rdNum l 4 s.1 s.2).2).2.1 (rdPair l 1000000 99 (rdNum l 4 s.1 s.2).2).2.2).2).2.2).2.2).2.1)
    (bad := (rdNum l 6 (rdNum l 1 (rdPair l 1000000 99 (rdText l 20 (rdPair l 1000000 99 (rdNum l 4 s.1 s.2).2).2.1 (rdPair l 1000000 99 (rdNum l 4 s.1 s.2).2).2.2).2).2.1 (rdPair l 1000000 99 (rdText l 20 (rdPair l 1000000 99 (rdNum l 4 s.1 s.2).2).2.1 (rdPair l 1000000 99 (rdNum l 4 s.1 s.2).2).2.2).2).2.2).2.1 (rdNum l 1 (rdPair l 1000000 99 (rdText l 20 (rdPair l 1000000 99 (rdNum l 4 s.1 s.2).2).2.1 (rdPair l 1000000 99 (rdNum l 4 s.1 s.2).2).2.2).2).2.1 (rdPair l 1000000 99 (rdText l 20 (rdPair l 1000000 99 (rdNum l 4 s.1 s.2).2).2.1 (rdPair l 1000000 99 (rdNum l 4 s.1 s.2).2).2.2).2).2.2).2.2).2.2)
  simp only [rdOp, Lit.wf, IntKind.min, IntKind.max, IntKind.signed, IntKind.bits]
  simpa using h
theorem rdOps_wf (l : List UInt8) (s : Nat × Bool) : ∀ n, ∀ o ∈ (rdOps l s n).1, (Lit.int .i64 o.vn).wf = true
  | 0, o, h => by simp [rdOps] at h
  | n + 1, o, h => by
    rw [rdOps] at h
    rcases List.mem_append.1 h with h | h
    · exact rdOps_wf l s n o h
    · obtain rfl : o = (rdOp l (rdOps l s n).2).1 := by simpa using h
      exact rdOp_wf _ _
theorem rdAll_wf (l : List UInt8) {os : List OpD} (h : os.map base = (rdAll l).ops) : ∀ o ∈ os, (Lit.int .i64 o.vn).wf = true := by
  intro o ho
  have h1 : base o ∈ (rdAll l).ops := by rw [← h]; exact List.mem_map_of_mem ho
  have h2 : (Lit.int .i64 (base o).vn).wf = true := rdOps_wf l _ _ (base o) h1
  exact h2
theorem told_same (k : Nat) (w : World) (hE : ErrT w) : Calls Tryd.prog 10 #[errN k, .int .i64 k] w fun e w' => e = .returned (.bool true) ∧ Below w.heap.size w w' := by
  have := same_error k k w hE
  rwa [show ((k : Int) == (k : Int)) = true from by simp] at this
set_option maxHeartbeats 8000000 in
set_option maxRecDepth 20000 in
theorem changeDecodes_walk (l : List UInt8) (A : Option Addr) (c : Nat) (w : World) (hr : Reads (fun k => k < w.heap.size) w 1 A l.length (bytesC l)) (hcap : l.length ≤ c) (hsm : l.length ≤ 9223372036854775807) (hE : ErrT w) :
    Calls Tryd.prog 6 #[.slice A l.length c] w fun e w' => e = .returned (.bool true) ∧ Below w.heap.size w w' := by
  have HET := Lib.hid hE
  have HR := Lib.hid hr
  have R1 := refDec_any hr (fun _ h => h) hcap hsm
  have HWF := Lib.hid (fun os h => rdAll_wf l (os := os) h)
  have R2 := fun (w1 : World) (hb : Below w.heap.size w w1) => dec_any (reads_below hr hb) (fun _ h => h) hcap hsm
  obtain ⟨r, hrd⟩ : ∃ r, rdAll l = r := ⟨_, rfl⟩
  rw [hrd] at R1 HWF
  simp only [hrd] at R2
  clear hr hE hrd
  obtain ⟨ra, rs, rst, deps, rops, rat, rbad⟩ := r
  go_enter Tryd.func6, Tryd.ntmps6
  go_wp2_with fail
  go_at_call 33
  refine R1.mono ?_
  rintro e w1 ⟨hp, hb1⟩
  have HB1 := Lib.hid hb1
  clear R1 hb1
  rcases hp with ⟨hno, rfl⟩ | ⟨hbad, he0, DA, DC, OA, OC, os, hos, hcm, rfl⟩
  · have HBa := Lib.hid (HB1.out.alloc HB1.out.size (.cells #[.int .i64 0, .int .i64 0, .int .i64 0, .slice none 0 0, .slice none 0 0] 36))
    replace R2 := R2 _ HBa.out
    go_wp2_with fail
    go_at_call 34
    refine R2.mono ?_
    rintro e w2 ⟨hp, hb2⟩
    have HB2 := Lib.hid (HBa.out.trans (hb2.mono HBa.out.size))
    clear R2 hb2
    rcases hp with ⟨_, rfl⟩ | ⟨hbad, he0, _⟩
    · have HB2a := Lib.hid (HB2.out.alloc HB2.out.size (.cells #[.int .i64 0, .int .i64 0, .int .i64 0, .slice none 0 0, .slice none 0 0] 36))
      have T1 := told_same 9 _ (HET.out.keep HB2a.out)
      rw [show errN 9 = .iface 80 (.int .i64 9) from rfl] at T1
      go_wp2_with fail
      go_at_call 10
      refine T1.mono ?_
      rintro e w3 ⟨rfl, hb⟩
      have HB3 := Lib.hid (HB2a.out.trans (hb.mono HB2a.out.size))
      clear T1 hb
      go_wp2_with fail
      go_ret
      exact ⟨rfl, HB3.out⟩
    · exact absurd hno (by rintro (e | e); exact Bool.noConfusion (hbad.symm.trans e); exact e he0)
  · have HCM := Lib.hid hcm
    have HOS := Lib.hid hos
    have HE0 := Lib.hid he0
    have HBa := Lib.hid (HB1.out.alloc HB1.out.size (.cells #[.int .i64 ra, .int .i64 rs, .int .i64 rst, .slice DA deps.length DC, .slice OA os.length OC] 36))
    have HWB := Lib.hid (Blk.new w1 36 #[.int .i64 ra, .int .i64 rs, .int .i64 rst, .slice DA deps.length DC, .slice OA os.length OC])
    replace R2 := R2 _ HBa.out
    replace HCM := Lib.hid (HCM.out.keep ((Below.refl _ w1).alloc (Nat.le_refl _) (.cells #[.int .i64 ra, .int .i64 rs, .int .i64 rst, .slice DA deps.length DC, .slice OA os.length OC] 36)))
    clear hcm hos
    go_wp2_with fail
    go_at_call 34
    refine R2.mono ?_
    rintro e w2 ⟨hp, hb2⟩
    replace HCM := Lib.hid (HCM.out.keep hb2)
    replace HWB := Lib.hid (HWB.out.keep (hb2.block _ HWB.out.lt))
    have HB2 := Lib.hid (HBa.out.trans (hb2.mono HBa.out.size))
    clear R2 hb2
    rcases hp with ⟨hno, _⟩ | ⟨_, _, DA2, DC2, OA2, OC2, os2, hos2, hcm2, rfl⟩
    · exact absurd hno (by rintro (e | e); exact Bool.noConfusion (hbad.symm.trans e); exact e he0)
    · have HOS2 := Lib.hid hos2
      have HB2a := Lib.hid (HB2.out.alloc HB2.out.size (.cells #[.int .i64 ra, .int .i64 rs, .int .i64 rst, .slice DA2 deps.length DC2, .slice OA2 os2.length OC2] 36))
      have HGB := Lib.hid (Blk.new w2 36 #[.int .i64 ra, .int .i64 rs, .int .i64 rst, .slice DA2 deps.length DC2, .slice OA2 os2.length OC2])
      have hba := (Below.refl _ w2).alloc (Nat.le_refl _) (.cells #[.int .i64 ra, .int .i64 rs, .int .i64 rst, .slice DA2 deps.length DC2, .slice OA2 os2.length OC2] 36)
      have HCM2 := Lib.hid (hcm2.keep hba)
      replace HCM := Lib.hid (HCM.out.keep hba)
      replace HWB := Lib.hid (HWB.out.keep (hba.block _ HWB.out.lt))
      have T1 := told_same 0 _ (HET.out.keep HB2a.out)
      rw [show errN 0 = .nilIface from rfl] at T1
      clear hcm2 hos2 he0 hba
      go_wp2_with fail
      go_at_call 10
      refine T1.mono ?_
      rintro e w3 ⟨rfl, hb⟩
      replace HCM := Lib.hid (HCM.out.keep hb)
      replace HCM2 := Lib.hid (HCM2.out.keep hb)
      replace HWB := Lib.hid (HWB.out.keep (hb.block _ HWB.out.lt))
      replace HGB := Lib.hid (HGB.out.keep (hb.block _ HGB.out.lt))
      have HB3 := Lib.hid (HB2a.out.trans (hb.mono HB2a.out.size))
      clear T1 hb
      have e1 : chgE ra rs rst deps os = 0 := (chgE_base (HOS.out.trans (ops_base HOS.out).symm)).trans HE0.out
      have e2 : chgE ra rs rst deps os2 = 0 := (chgE_base (HOS2.out.trans (ops_base HOS2.out).symm)).trans HE0.out
      have g1 := (chg_good e1 (HWF.out os HOS.out)).1
      have g2 := (chg_good e2 (HWF.out os2 HOS2.out)).1
      have S1 := same_change ra rs rst deps DA2 deps.length DC2 os2 OA2 os2.length OC2 deps DA deps.length DC os OA os.length OC w3 HCM2.out HCM.out rfl rfl rfl rfl g2 g1 (encL_base (HOS2.out.trans HOS.out.symm))
      obtain ⟨x0, x1, x2, x3, x4⟩ := blk5 HWB.out
      obtain ⟨y0, y1, y2, y3, y4⟩ := blk5 HGB.out
      clear e1 e2 g1 g2 HCM HCM2
      go_wp2_with fail
      go_at_call 35
      refine S1.mono ?_
      rintro e w4 ⟨rfl, hb⟩
      have HB4 := Lib.hid (HB3.out.trans (hb.mono HB3.out.size))
      clear S1 hb
      go_wp2_with fail
      go_ret
      exact ⟨rfl, HB4.out⟩
end Go.Proofs.YtfaihilehdjfjaaDoor
