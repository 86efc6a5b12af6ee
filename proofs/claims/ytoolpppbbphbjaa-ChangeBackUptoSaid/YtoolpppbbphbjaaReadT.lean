/- Contracts: package bytes, the Reader's Text; change.pair. -/
import Derived.Test.YtoolpppbbphbjaaDecP
namespace Go.Proofs.Ytoolpppbbphbjaa
open Go.ChangeShapes Go.WideShapes Go.ChangeAt Go.RowKit

theorem slice_mid (A : Option Addr) (n c a k : Nat) (hk : a + k ≤ n) (hc : n ≤ c) (w : World) :
    (Instr.slice 26 (.slice A n c) (some (.int .i64 a)) (some (.int .i64 ((a : Int) + (k : Int)))) none).run Try.prog w = .ok (.slice (if c = a then A else A.map (fun x => x.add a)) k (c - a)) w := by
  have u := Try.underlying26
  have h0 : (0 : Int) ≤ (a : Int) := by omega
  have h1 : (a : Int) ≤ (a : Int) + (k : Int) := by omega
  have h2 : (a : Int) + (k : Int) ≤ (c : Int) := by omega
  have h3 : ((a : Int) + (k : Int)).toNat - a = k := by omega
  by_cases h : c = a
  · subst h
    go_simp
  · go_simp
/-- the bytes from one place to another, as a string -/
theorem mid_conv {l : List UInt8} {D : Nat → Prop} {A : Option Addr} {c a n : Nat} {w : World} (hr : Reads D w 1 A l.length (bytesC l)) (ha : a + n ≤ l.length) (hc : l.length ≤ c) :
    (convert 26 9 (.slice (if c = a then A else A.map (fun x => x.add a)) n (c - a))).run Try.prog w = .ok (.string ⟨((l.drop a).take n).toArray⟩) w := by
  have h1 := hr.cut (k := a) (by omega) hc
  simp only [Nat.mul_one] at h1
  rw [← bytesC_drop] at h1
  have h2 := h1.take (k := n) (by omega)
  simp only [Nat.mul_one] at h2
  have e : (bytesC (l.drop a)).take n = bytesC ((l.drop a).take n) := by simp [bytesC, List.map_take]
  rw [e] at h2
  have hl : ((l.drop a).take n).length = n := by simp; omega
  have := conv_reads (l := (l.drop a).take n) (c := c - a) (by rw [hl]; exact h2)
  rw [hl] at this
  exact this
set_option maxHeartbeats 4000000 in
set_option maxRecDepth 20000 in
theorem text_any {l : List UInt8} {g : Nat} {D : Nat → Prop} {A : Option Addr} {c at_ : Nat} {bad : Bool} (most : Nat) {w : World} (hr : RdW w g D A l c at_ bad) (hD : ∀ k, D k → k < w.heap.size) (hm : most ≤ 2000000) :
    Calls Try.prog 13 #[.pointer (some ⟨g, 0, none⟩), .int .i64 most] w fun e w' =>
      e = .returned (.string ⟨(rdText l most at_ bad).1.toArray⟩) ∧ RdW w' g D A l c (rdText l most at_ bad).2.1 (rdText l most at_ bad).2.2 ∧ Chg (fun k => k = g) w w' := by
  have CN := rnum_any most hr hD hm
  obtain ⟨⟨n, a, b⟩, hn⟩ : ∃ x, rdNum l most at_ bad = x := ⟨_, rfl⟩
  rw [hn] at CN
  have HD := Lib.hid hD
  have HN := Lib.hid hn
  have hcap := hr.cap
  have hsm := hr.small
  have hnm : n ≤ most := by have := rdNum_le (l := l) (most := most) (at_ := at_) (bad := bad); rw [hn] at this; exact this
  clear hr hD hn
  go_enter Try.func13, Try.ntmps13
  go_wp2_with fail
  go_at_call 11
  refine CN.mono ?_
  rintro e w1 ⟨rfl, hr1, hc1⟩
  have hat := hr1.le
  have t0 : w1.cell? ⟨g, 0, none⟩ = some (.slice A l.length c) := hr1.blk.cell 0
  have t1 : w1.cell? ⟨g, 1, none⟩ = some (.int .i64 a) := hr1.blk.cell 1
  have hf1 := hr1.blk.frozen 1
  have HB1 := Lib.hid hr1.blk
  have HR1 := Lib.hid hr1
  have HC1 := Lib.hid hc1
  have x0 : IntKind.i64.wrap ((l.length : Int) - (a : Int)) = (l.length : Int) - (a : Int) := IntWalk.i64_in _ (by omega)
  cases b with
  | true =>
    have t2 : w1.cell? ⟨g, 2, none⟩ = some (.iface 56 (.int .i64 9)) := hr1.blk.cell 2
    have HV : Hid (rdText l most at_ bad = ([], a, true)) := rdText_no HN.out (.inl rfl)
    clear hr1 hc1 CN
    go_wp2_with fail
    go_quiet (fail)
    go_wp2_with fail
    refine (fail_any _ _ _ _ _ _ _ (by exact HB1.out)).mono ?_
    rintro e w2 ⟨rfl, hb2, hc2⟩
    have HB2 := Lib.hid hb2
    have HC2a : Hid (Chg (fun k => k = g) w1 w2) := ((Chg.refl w1).drewN_ nq).trans hc2 (fun _ _ h => h)
    have HC2 : Hid (Chg (fun k => k = g) w w2) := HC1.out.trans HC2a.out (fun _ _ h => h)
    clear hb2 hc2
    go_wp2_with fail
    go_ret
    rw [HV.out]
    exact ⟨rfl, ⟨HB2.out, HR1.out.reads.keep (HC2a.out.keeps fun k hk => ⟨Nat.lt_of_lt_of_le (HD.out k hk) HC1.out.size, fun e => HR1.out.apart (by rw [← e]; exact hk)⟩), HR1.out.apart, hat, hcap, hsm⟩, HC2.out⟩
  | false =>
    have t2 : w1.cell? ⟨g, 2, none⟩ = some .nilIface := hr1.blk.cell 2
    have HRD := Lib.hid hr1.reads
    clear hr1 hc1 CN
    by_cases hlt : l.length - a < n
    · have HV : Hid (rdText l most at_ bad = ([], a, true)) := rdText_no HN.out (.inr hlt)
      have hd : decide ((l.length : Int) - (a : Int) < (n : Int)) = true := by simp; omega
      clear hlt
      go_wp2_with fail
      go_quiet (fail)
      go_wp2_with fail
      refine (fail_any _ _ _ _ _ _ _ (by exact HB1.out)).mono ?_
      rintro e w2 ⟨rfl, hb2, hc2⟩
      have HB2 := Lib.hid hb2
      have HC2a : Hid (Chg (fun k => k = g) w1 w2) := ((Chg.refl w1).drewN_ nq).trans hc2 (fun _ _ h => h)
      have HC2 : Hid (Chg (fun k => k = g) w w2) := HC1.out.trans HC2a.out (fun _ _ h => h)
      clear hb2 hc2
      go_wp2_with fail
      go_ret
      rw [HV.out]
      exact ⟨rfl, ⟨HB2.out, HR1.out.reads.keep (HC2a.out.keeps fun k hk => ⟨Nat.lt_of_lt_of_le (HD.out k hk) HC1.out.size, fun e => HR1.out.apart (by rw [← e]; exact hk)⟩), HR1.out.apart, hat, hcap, hsm⟩, HC2.out⟩
    · have HV : Hid (rdText l most at_ bad = ((l.drop a).take n, a + n, false)) := rdText_ok HN.out (by omega)
      have hd : decide ((l.length : Int) - (a : Int) < (n : Int)) = false := by simp; omega
      have hle : a + n ≤ l.length := by omega
      have x1 : IntKind.i64.wrap ((a : Int) + (n : Int)) = (a : Int) + (n : Int) := IntWalk.i64_in _ (by omega)
      have x2 : IntKind.i64.wrap ((a : Int) + (n : Int) - (n : Int)) = (a : Int) := by rw [show (a : Int) + (n : Int) - (n : Int) = (a : Int) from by omega]; exact IntWalk.i64_in _ (by omega)
      clear hlt
      go_wp2_with fail
      go_quiet (fail)
      go_wp2_with fail
      have HB2 : Hid (RdAt ((w1.drewN nq).setCell ⟨g, 1, none⟩ (.int .i64 ((a : Int) + (n : Int)))) g A l.length c (a + n) false) := (HB1.out.drewN nq).step n
      have HC2 : Hid (Chg (fun k => k = g) w1 ((w1.drewN nq).setCell ⟨g, 1, none⟩ (.int .i64 ((a : Int) + (n : Int))))) := ((Chg.refl w1).drewN_ nq).put1 1 _
      generalize (w1.drewN nq).setCell ⟨g, 1, none⟩ (.int .i64 ((a : Int) + (n : Int))) = w2 at HB2 HC2 ⊢
      have HRD2 : Hid (Reads D w2 1 A l.length (bytesC l)) := HRD.out.keep (HC2.out.keeps fun k hk => ⟨Nat.lt_of_lt_of_le (HD.out k hk) HC1.out.size, fun e => HR1.out.apart (by rw [← e]; exact hk)⟩)
      have u0 : w2.cell? ⟨g, 0, none⟩ = some (.slice A l.length c) := HB2.out.cell 0
      have u1 : w2.cell? ⟨g, 1, none⟩ = some (.int .i64 ((a : Int) + (n : Int))) := HB2.out.cell 1
      have hsl := fun w => slice_mid A l.length c a n hle hcap w
      have x3 : IntKind.i64.wrap (a : Int) = (a : Int) := IntWalk.i64_in _ (by omega)
      have hcv : ∀ x, (convert 26 9 (.slice (if c = a then A else A.map (fun x => x.add a)) n (c - a))).run Try.prog (w2.drewN x) = .ok (.string ⟨((l.drop a).take n).toArray⟩) (w2.drewN x) := fun x => mid_conv (HRD2.out.keep (Keeps.refl.drewN x)) hle hcap
      generalize (if c = a then A else A.map (fun x => x.add a)) = A' at hcv hsl
      clear t0 t1 t2 hf1
      go_quiet (fail)
      go_wp2_with fail
      go_ret
      rw [HV.out]
      exact ⟨rfl, ⟨HB2.out.drewN nq, HRD2.out.keep (Keeps.refl.drewN nq), HR1.out.apart, hle, hcap, hsm⟩, (HC1.out.trans HC2.out (fun _ _ h => h)).drewN_ nq⟩

theorem results_pair {P : Program} {fn : Func} {p u v : Tmp} {ty : TypeId} (h : fn.results = #[.cell p ty, .tmp u, .tmp v]) (tmps : Array Value) (w : World) (g : Nat) (t : TypeId) (cs : Array Value) (d : TypeDesc)
    (hp : tmps.getD p undef = .pointer (some ⟨g, 0, none⟩)) (hg : Blk w g t cs)
    (hu : P.underlying ty = some d) (hd : (match d with | .struct _ | .array _ _ => true | _ => false) = true) (hi : (P.info? ty).map (·.size) = some cs.size) :
    (results fn tmps).run P w = .ok (.tuple #[.agg cs, tmps.getD u undef, tmps.getD v undef]) w := by
  have hp' : tmps[p]?.getD undef = .pointer (some ⟨g, 0, none⟩) := by simpa using hp
  simp [results, h, hp', asAddr, run_loadVar_row w g t ty cs (0, 0) d hg hu hd hi]
set_option maxHeartbeats 4000000 in
set_option maxRecDepth 20000 in
theorem pair_any {l : List UInt8} {g : Nat} {D : Nat → Prop} {A : Option Addr} {c at_ : Nat} {bad : Bool} {w : World} (hr : RdW w g D A l c at_ bad) (hD : ∀ k, D k → k < w.heap.size) :
    Calls Try.prog 12 #[.pointer (some ⟨g, 0, none⟩)] w fun e w' =>
      e = .returned (.agg #[.int .i64 (rdPair l 1000000 99 (at_, bad)).1.1, .int .i64 (rdPair l 1000000 99 (at_, bad)).1.2]) ∧ RdW w' g D A l c (rdPair l 1000000 99 (at_, bad)).2.1 (rdPair l 1000000 99 (at_, bad)).2.2 ∧ Chg (fun k => k = g) w w' := by
  have hgl := hr.blk.lt
  have HC0 : Hid (Chg (fun k => k = g) w (w.alloc (.cells #[.int .i64 0, .int .i64 0] 28))) := (Chg.refl w).alloc _
  have HR0 : Hid (RdW (w.alloc (.cells #[.int .i64 0, .int .i64 0] 28)) g D A l c at_ bad) := hr.next (hr.blk.alloc _) HC0.out hD hr.le
  have HBP := Lib.hid (Blk.new w 28 #[.int .i64 0, .int .i64 0])
  have HD := Lib.hid hD
  have C1 := rnum_any 1000000 HR0.out (fun k hk => Nat.lt_of_lt_of_le (HD.out k hk) HC0.out.size) (by omega)
  obtain ⟨⟨n1, a1, b1⟩, h1⟩ : ∃ x, rdNum l 1000000 at_ bad = x := ⟨_, rfl⟩
  obtain ⟨⟨n2, a2, b2⟩, h2⟩ : ∃ x, rdNum l 99 a1 b1 = x := ⟨_, rfl⟩
  rw [rdPair_of h1 h2]
  rw [h1] at C1
  have H2 := Lib.hid h2
  clear hr hD h1 h2
  go_enter Try.func12, Try.ntmps12
  go_wp2_with fail
  go_at_call 11
  refine C1.mono ?_
  rintro e w1 ⟨rfl, hr1, hc1⟩
  have HC1 : Hid (Chg (fun k => k = g) w w1) := HC0.out.trans hc1 (fun _ _ h => h)
  replace HBP := Lib.hid (HBP.out.keep (hc1.block _ HBP.out.lt (by omega)))
  have C2 := rnum_any 99 hr1 (fun k hk => Nat.lt_of_lt_of_le (HD.out k hk) HC1.out.size) (by omega)
  rw [H2.out] at C2
  clear C1 hr1 hc1 HC0 HR0
  go_wp2_with fail
  go_at_call 11
  refine C2.mono ?_
  rintro e w2 ⟨rfl, hr2, hc2⟩
  replace HC1 : Hid (Chg (fun k => k = g) w w2) := HC1.out.trans hc2 (fun _ _ h => h)
  replace HBP := Lib.hid (HBP.out.keep (hc2.block _ HBP.out.lt (by omega)))
  have HR2 := Lib.hid hr2
  have f0 := HBP.out.frozen 0
  have f1 := HBP.out.frozen 1
  have e0 : w2.cell? ⟨w.heap.size, 0, none⟩ = some (.int .i64 0) := HBP.out.cell 0
  have e1 : w2.cell? ⟨w.heap.size, 1, none⟩ = some (.int .i64 0) := HBP.out.cell 1
  clear C2 hr2 hc2
  go_wp2_with fail
  have HB3 : Hid (Blk ((w2.setCell ⟨w.heap.size, 0, none⟩ (.int .i64 n1)).setCell ⟨w.heap.size, 1, none⟩ (.int .i64 n2)) w.heap.size 28 #[.int .i64 n1, .int .i64 n2]) := (HBP.out.set_ 0 _).set_ 1 _
  have HC3 : Hid (Chg (fun k => k = g) w ((w2.setCell ⟨w.heap.size, 0, none⟩ (.int .i64 n1)).setCell ⟨w.heap.size, 1, none⟩ (.int .i64 n2))) := (HC1.out.setCell (p := ⟨w.heap.size, 0, none⟩) (.inr (Nat.le_refl _)) _).setCell (p := ⟨w.heap.size, 1, none⟩) (.inr (Nat.le_refl _)) _
  have HR3 : Hid (RdW ((w2.setCell ⟨w.heap.size, 0, none⟩ (.int .i64 n1)).setCell ⟨w.heap.size, 1, none⟩ (.int .i64 n2)) g D A l c a2 b2) := by
    have hne : g ≠ w.heap.size := by omega
    refine ⟨(Blk.far (Blk.far HR2.out.blk hne _) hne _), ?_, HR2.out.apart, HR2.out.le, HR2.out.cap, HR2.out.small⟩
    refine HR2.out.reads.keep fun k hk => ?_
    have hk2 := HD.out k hk
    exact (Below.heap_setCell _ _ _ k (by show k ≠ w.heap.size; omega)).trans (Below.heap_setCell _ _ _ k (by show k ≠ w.heap.size; omega))
  refine bodyPost_ret (results_cell_row rfl _ _ w.heap.size _ _ _ _ rfl HB3.out Try.underlying28 rfl (by kernel_rfl)) rfl ?_
  exact ⟨rfl, HR3.out, HC3.out⟩
end Go.Proofs.Ytoolpppbbphbjaa
