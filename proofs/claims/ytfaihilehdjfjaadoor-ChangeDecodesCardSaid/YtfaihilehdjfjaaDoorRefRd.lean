/- Contracts: the document's D: numbers and texts read, up to the first fault. -/
import Derived.Test.YtfaihilehdjfjaaDoorRefGetSC
import Derived.Test.YtfaihilehdjfjaaDoorReadT
namespace Go.Proofs.YtfaihilehdjfjaaDoor
open Go.ChangeShapes Go.WideShapes Go.ChangeAt Go.RowKit

theorem slice_from (A : Option Addr) (n c k : Nat) (hk : k ≤ n) (hc : n ≤ c) (w : World) :
    (Instr.slice 39 (.slice A n c) (some (.int .i64 k)) none none).run Tryd.prog w = .ok (.slice (if c = k then A else A.map (fun x => x.add k)) (n - k) (c - k)) w := by
  have u := Tryd.underlying39
  have h0 : (0 : Int) ≤ (k : Int) := by omega
  have h1 : (k : Int) ≤ (n : Int) := by omega
  have h2 : (n : Int) ≤ (c : Int) := by omega
  by_cases h : c = k
  · subst h
    go_simp
  · go_simp
/-- a document's reader -/
structure DW (w : World) (g : Nat) (D : Nat → Prop) (A : Option Addr) (l : List UInt8) (c at_ : Nat) (bad : Bool) : Prop where
  blk : Blk w g 115 #[.slice A l.length c, .int .i64 at_, .bool bad]
  reads : Reads D w 1 A l.length (bytesC l)
  apart : ¬ D g
  le : at_ ≤ l.length
  cap : l.length ≤ c
  small : l.length ≤ 9223372036854775807
theorem DW.next {w w' : World} {g : Nat} {D : Nat → Prop} {A : Option Addr} {l : List UInt8} {c at_ at' : Nat} {bad bad' : Bool} (h : DW w g D A l c at_ bad) (hb : Blk w' g 115 #[.slice A l.length c, .int .i64 at', .bool bad']) (hc : Chg (fun k => k = g) w w')
    (hD : ∀ k, D k → k < w.heap.size) (hle : at' ≤ l.length) : DW w' g D A l c at' bad' :=
  ⟨hb, h.reads.keep (hc.keeps fun k hk => ⟨hD k hk, fun e => h.apart (by rw [← e]; exact hk)⟩), h.apart, hle, h.cap, h.small⟩
theorem cut_reads {l : List UInt8} {D : Nat → Prop} {A : Option Addr} {c at_ : Nat} {w : World} (hr : Reads D w 1 A l.length (bytesC l)) (hat : at_ ≤ l.length) (hc : l.length ≤ c) :
    Reads D w 1 (if c = at_ then A else A.map (fun x => x.add at_)) (l.length - at_) (bytesC (l.drop at_)) := by
  have h1 := hr.cut hat hc
  simp only [Nat.mul_one] at h1
  rw [← bytesC_drop] at h1
  exact h1
theorem rdNum_none {l : List UInt8} {most at_ : Nat} (h : getN (l.drop at_) = none) : rdNum l most at_ false = (0, at_, true) := by
  unfold rdNum; rw [h]; rfl
theorem rdNum_some {l : List UInt8} {most at_ n k : Nat} (h : getN (l.drop at_) = some (n, k)) : rdNum l most at_ false = if n ≤ most then (n, at_ + k, false) else (0, at_, true) := by
  unfold rdNum; rw [h]; rfl
set_option maxHeartbeats 4000000 in
set_option maxRecDepth 20000 in
theorem refNum_any {l : List UInt8} {g : Nat} {D : Nat → Prop} {A : Option Addr} {c at_ : Nat} {bad : Bool} (most : Nat) {w : World} (hr : DW w g D A l c at_ bad) (hD : ∀ k, D k → k < w.heap.size) (hm : most ≤ 2000000) :
    Calls Tryd.prog 74 #[.pointer (some ⟨g, 0, none⟩), .int .i64 most] w fun e w' =>
      e = .returned (.int .i64 (rdNum l most at_ bad).1) ∧ DW w' g D A l c (rdNum l most at_ bad).2.1 (rdNum l most at_ bad).2.2 ∧ Chg (fun k => k = g) w w' := by
  have HR := Lib.hid hr
  have HD := Lib.hid hD
  have hc2 : w.cell? ⟨g, 2, none⟩ = some (.bool bad) := hr.blk.cell 2
  cases bad with
  | true =>
    have HV : Hid (rdNum l most at_ true = (0, at_, true)) := by show _ = _; simp [rdNum]
    clear hr hD
    go_enter Tryd.func74, Tryd.ntmps74
    go_wp2_with fail
    go_ret
    rw [HV.out]
    exact ⟨rfl, HR.out, Chg.refl w⟩
  | false =>
    have hc0 : w.cell? ⟨g, 0, none⟩ = some (.slice A l.length c) := hr.blk.cell 0
    have hc1 : w.cell? ⟨g, 1, none⟩ = some (.int .i64 at_) := hr.blk.cell 1
    have hgl := hr.blk.lt
    have hat := hr.le
    have hcap := hr.cap
    have hsl := fun w => slice_from A l.length c at_ hr.le hr.cap w
    have HCR := Lib.hid (cut_reads hr.reads hr.le hr.cap)
    have CG := getR_any (l.drop at_) D (if c = at_ then A else A.map (fun x => x.add at_)) (l.length - at_) (c - at_) (by simp) (by have := hr.small; omega) w.drew HCR.out HD.out
    generalize (if c = at_ then A else A.map (fun x => x.add at_)) = A' at *
    have e1 : IntKind.u64.wrap (most : Int) = (most : Int) := u64_keep (by omega)
    have HB := Lib.hid hr.blk
    generalize l.length - at_ = n' at *
    generalize c - at_ = c' at *
    cases hg : getN (l.drop at_) with
    | none =>
      have HN : Hid (rdNum l most at_ false = (0, at_, true)) := rdNum_none hg
      rw [hg] at CG
      unfold getRV at CG
      clear hr hD hg
      go_enter Tryd.func74, Tryd.ntmps74
      go_wp2_with fail
      go_region_held3 (fun w' => w'.cell? ⟨g, 0, none⟩ = some (.slice A l.length c) ∧ w'.cell? ⟨g, 1, none⟩ = some (.int .i64 at_))
        (first | exact ⟨hc0, hc1⟩ | exact ⟨t0, t1⟩ | go_keep)
        ((go_at_call 113; refine CG.mono ?_; rintro e w1 ⟨rfl, hb⟩; have t0 := (hb.cell (p := ⟨g, 0, none⟩) (by exact hgl)).trans hc0; have t1 := (hb.cell (p := ⟨g, 1, none⟩) (by exact hgl)).trans hc1))
      have HB1 : Hid (Blk w1 g 115 #[.slice A l.length c, .int .i64 at_, .bool false]) := HB.out.keep (hb.block g (by exact hgl))
      have hc3 : w1.cell? ⟨g, 2, none⟩ = some (.bool false) := HB1.out.cell 2
      have hf3 := HB1.out.frozen 2
      have HCh : Hid (Chg (fun k => k = g) w w1) := (Chg.refl w).drew.trans (Chg.of_below hb) (fun _ _ h => h)
      clear hb t0 t1 CG
      go_wp2_with fail
      go_ret
      rw [HN.out]
      have hch := HCh.out.put1 2 (.bool true)
      exact ⟨rfl, HR.out.next (HB1.out.set_ 2 _) hch HD.out hat, hch⟩
    | some x =>
      obtain ⟨n, k⟩ := x
      have hk := getN_at hg
      have HN := Lib.hid (rdNum_some (most := most) hg)
      rw [hg] at CG
      unfold getRV at CG
      simp only [List.length_drop] at hk
      have dk : ((k : Int) == 0) = false := by simp; omega
      by_cases hn : n ≤ most
      case' pos =>
        have hdn : decide ((most : Int) < (n : Int)) = false := by simp; omega
        have hdn2 : decide (most < n) = false := by simp; omega
        have hdn3 : ¬ most < n := by omega
        have HN1 : Hid (rdNum l most at_ false = (n, at_ + k, false)) := by show _ = _; rw [HN.out]; simp [hn]
      case' neg =>
        have hdn : decide ((most : Int) < (n : Int)) = true := by simp; omega
        have hdn2 : decide (most < n) = true := by simp; omega
        have hdn3 : most < n := by omega
        have HN1 : Hid (rdNum l most at_ false = (0, at_, true)) := by show _ = _; rw [HN.out]; simp [hn]
      all_goals
        have hsm := hr.small
        have hle : at_ + k ≤ l.length := by omega
        have x1 : IntKind.i64.wrap ((at_ : Int) + (k : Int)) = (at_ : Int) + (k : Int) := IntWalk.i64_in _ (by omega)
        have x2 : IntKind.i64.wrap (n : Int) = (n : Int) ∨ True := .inr trivial
        clear hr hD hg hn x2
        go_enter Tryd.func74, Tryd.ntmps74
        go_wp2_with fail
        go_region_held3 (fun w' => w'.cell? ⟨g, 0, none⟩ = some (.slice A l.length c) ∧ w'.cell? ⟨g, 1, none⟩ = some (.int .i64 at_))
          (first | exact ⟨hc0, hc1⟩ | exact ⟨t0, t1⟩ | go_keep)
          ((go_at_call 113; refine CG.mono ?_; rintro e w1 ⟨rfl, hb⟩; have t0 := (hb.cell (p := ⟨g, 0, none⟩) (by exact hgl)).trans hc0; have t1 := (hb.cell (p := ⟨g, 1, none⟩) (by exact hgl)).trans hc1))
        have HB1 : Hid (Blk w1 g 115 #[.slice A l.length c, .int .i64 at_, .bool false]) := HB.out.keep (hb.block g (by exact hgl))
        have hc3 : w1.cell? ⟨g, 2, none⟩ = some (.bool false) := HB1.out.cell 2
        have hf3 := HB1.out.frozen 2
        have hf4 := HB1.out.frozen 1
        have HCh : Hid (Chg (fun k => k = g) w w1) := (Chg.refl w).drew.trans (Chg.of_below hb) (fun _ _ h => h)
        clear hb CG
        go_wp2_with fail
        go_ret
        rw [HN1.out]
      · have hch := HCh.out.put1 2 (.bool true)
        exact ⟨rfl, HR.out.next (HB1.out.set_ 2 _) hch HD.out hat, hch⟩
      · have hch := HCh.out.put1 1 (.int .i64 ((at_ : Int) + (k : Int)))
        exact ⟨rfl, HR.out.next (HB1.out.set_ 1 _) hch HD.out hle, hch⟩
set_option maxHeartbeats 4000000 in
set_option maxRecDepth 20000 in
theorem refText_any {l : List UInt8} {g : Nat} {D : Nat → Prop} {A : Option Addr} {c at_ : Nat} {bad : Bool} (most : Nat) {w : World} (hr : DW w g D A l c at_ bad) (hD : ∀ k, D k → k < w.heap.size) (hm : most ≤ 2000000) :
    Calls Tryd.prog 75 #[.pointer (some ⟨g, 0, none⟩), .int .i64 most] w fun e w' =>
      e = .returned (.string ⟨(rdText l most at_ bad).1.toArray⟩) ∧ DW w' g D A l c (rdText l most at_ bad).2.1 (rdText l most at_ bad).2.2 ∧ Chg (fun k => k = g) w w' := by
  have CN := refNum_any most hr hD hm
  obtain ⟨⟨n, a, b⟩, hn⟩ : ∃ x, rdNum l most at_ bad = x := ⟨_, rfl⟩
  rw [hn] at CN
  have HD := Lib.hid hD
  have HN := Lib.hid hn
  have hcap := hr.cap
  have hsm := hr.small
  have hnm : n ≤ most := by have := rdNum_le (l := l) (most := most) (at_ := at_) (bad := bad); rw [hn] at this; exact this
  clear hr hD hn
  go_enter Tryd.func75, Tryd.ntmps75
  go_wp2_with fail
  go_at_call 74
  refine CN.mono ?_
  rintro e w1 ⟨rfl, hr1, hc1⟩
  have hat := hr1.le
  have t0 : w1.cell? ⟨g, 0, none⟩ = some (.slice A l.length c) := hr1.blk.cell 0
  have t1 : w1.cell? ⟨g, 1, none⟩ = some (.int .i64 a) := hr1.blk.cell 1
  have hf1 := hr1.blk.frozen 1
  have hf2 := hr1.blk.frozen 2
  have HB1 := Lib.hid hr1.blk
  have HR1 := Lib.hid hr1
  have HC1 := Lib.hid hc1
  have x0 : IntKind.i64.wrap ((l.length : Int) - (a : Int)) = (l.length : Int) - (a : Int) := IntWalk.i64_in _ (by omega)
  cases b with
  | true =>
    have t2 : w1.cell? ⟨g, 2, none⟩ = some (.bool true) := hr1.blk.cell 2
    have HV : Hid (rdText l most at_ bad = ([], a, true)) := rdText_no HN.out (.inl rfl)
    clear hr1 hc1 CN
    go_wp2_with fail
    go_quiet (fail)
    go_wp2_with fail
    go_ret
    rw [HV.out]
    have HC2 : Hid (Chg (fun k => k = g) w1 ((w1.drewN nq).setCell ⟨g, 2, none⟩ (.bool true))) := ((Chg.refl w1).drewN_ nq).put1 2 _
    exact ⟨rfl, ⟨(HB1.out : Blk (w1.drewN nq) g _ _).set_ 2 _, HR1.out.reads.keep (HC2.out.keeps fun k hk => ⟨Nat.lt_of_lt_of_le (HD.out k hk) HC1.out.size, fun e => HR1.out.apart (by rw [← e]; exact hk)⟩), HR1.out.apart, hat, hcap, hsm⟩, HC1.out.trans HC2.out (fun _ _ h => h)⟩
  | false =>
    have t2 : w1.cell? ⟨g, 2, none⟩ = some (.bool false) := hr1.blk.cell 2
    have HRD := Lib.hid hr1.reads
    clear hr1 hc1 CN
    by_cases hlt : l.length - a < n
    · have HV : Hid (rdText l most at_ bad = ([], a, true)) := rdText_no HN.out (.inr hlt)
      have hd : decide ((l.length : Int) - (a : Int) < (n : Int)) = true := by simp; omega
      clear hlt
      go_wp2_with fail
      go_quiet (fail)
      go_wp2_with fail
      go_ret
      rw [HV.out]
      have HC2 : Hid (Chg (fun k => k = g) w1 ((w1.drewN nq).setCell ⟨g, 2, none⟩ (.bool true))) := ((Chg.refl w1).drewN_ nq).put1 2 _
      exact ⟨rfl, ⟨(HB1.out : Blk (w1.drewN nq) g _ _).set_ 2 _, HR1.out.reads.keep (HC2.out.keeps fun k hk => ⟨Nat.lt_of_lt_of_le (HD.out k hk) HC1.out.size, fun e => HR1.out.apart (by rw [← e]; exact hk)⟩), HR1.out.apart, hat, hcap, hsm⟩, HC1.out.trans HC2.out (fun _ _ h => h)⟩
    · have HV : Hid (rdText l most at_ bad = ((l.drop a).take n, a + n, false)) := rdText_ok HN.out (by omega)
      have hd : decide ((l.length : Int) - (a : Int) < (n : Int)) = false := by simp; omega
      have hle : a + n ≤ l.length := by omega
      have x1 : IntKind.i64.wrap ((a : Int) + (n : Int)) = (a : Int) + (n : Int) := IntWalk.i64_in _ (by omega)
      have x2 : IntKind.i64.wrap ((a : Int) + (n : Int) - (n : Int)) = (a : Int) := by rw [show (a : Int) + (n : Int) - (n : Int) = (a : Int) from by omega]; exact IntWalk.i64_in _ (by omega)
      clear hlt
      go_wp2_with fail
      go_quiet (fail)
      go_wp2_with fail
      have HB2 : Hid (Blk ((w1.drewN nq).setCell ⟨g, 1, none⟩ (.int .i64 ((a : Int) + (n : Int)))) g 115 #[.slice A l.length c, .int .i64 ((a : Int) + (n : Int)), .bool false]) := (HB1.out : Blk (w1.drewN nq) g _ _).set_ 1 _
      have HC2 : Hid (Chg (fun k => k = g) w1 ((w1.drewN nq).setCell ⟨g, 1, none⟩ (.int .i64 ((a : Int) + (n : Int))))) := ((Chg.refl w1).drewN_ nq).put1 1 _
      generalize (w1.drewN nq).setCell ⟨g, 1, none⟩ (.int .i64 ((a : Int) + (n : Int))) = w2 at HB2 HC2 ⊢
      have HRD2 : Hid (Reads D w2 1 A l.length (bytesC l)) := HRD.out.keep (HC2.out.keeps fun k hk => ⟨Nat.lt_of_lt_of_le (HD.out k hk) HC1.out.size, fun e => HR1.out.apart (by rw [← e]; exact hk)⟩)
      have u0 : w2.cell? ⟨g, 0, none⟩ = some (.slice A l.length c) := HB2.out.cell 0
      have u1 : w2.cell? ⟨g, 1, none⟩ = some (.int .i64 ((a : Int) + (n : Int))) := HB2.out.cell 1
      have hsl := fun w => slice_mid A l.length c a n hle hcap w
      have x3 : IntKind.i64.wrap (a : Int) = (a : Int) := IntWalk.i64_in _ (by omega)
      have hcv : ∀ x, (convert 39 9 (.slice (if c = a then A else A.map (fun x => x.add a)) n (c - a))).run Tryd.prog (w2.drewN x) = .ok (.string ⟨((l.drop a).take n).toArray⟩) (w2.drewN x) := fun x => mid_conv (HRD2.out.keep (Keeps.refl.drewN x)) hle hcap
      generalize (if c = a then A else A.map (fun x => x.add a)) = A' at hcv hsl
      clear t0 t1 t2 hf1
      go_quiet (fail)
      go_wp2_with fail
      go_ret
      rw [HV.out]
      exact ⟨rfl, ⟨(HB2.out : Blk (w2.drewN nq) g _ _), HRD2.out.keep (Keeps.refl.drewN nq), HR1.out.apart, hle, hcap, hsm⟩, (HC1.out.trans HC2.out (fun _ _ h => h)).drewN_ nq⟩
end Go.Proofs.YtfaihilehdjfjaaDoor
