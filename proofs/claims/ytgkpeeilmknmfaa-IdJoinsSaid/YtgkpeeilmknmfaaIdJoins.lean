/- The law IdJoins: walked. -/
import Derived.Test.YtgkpeeilmknmfaaClock9
namespace Go.Proofs.Ytgkpeeilmknmfaa
open Go.ChangeShapes Go.WideShapes Go.ChangeAt Go.RowKit

/-- a value that reads as a list of refs -/
def RdS (w : World) (l : List Rf) (v : Value) : Prop :=
  ∃ A c, v = .slice A l.length c ∧ l.length ≤ 9223372036854775807 ∧ Reads (fun k => k < w.heap.size) w 2 A l.length (refC l)
theorem RdS.keep {w w' : World} {l : List Rf} {v : Value} (h : RdS w l v) (hb : Below w.heap.size w w') : RdS w' l v := by
  obtain ⟨A, c, rfl, h1, h2⟩ := h
  exact ⟨A, c, rfl, h1, (h2.keep fun k hk => hb.block k hk).more fun k hk => Nat.lt_of_lt_of_le hk hb.size⟩
theorem joinS {w : World} {a b : List Rf} {va vb : Value} (ha : RdS w a va) (hb : RdS w b vb) (va' : Vc a) (vb' : Vc b) :
    Calls Try.prog 21 #[va, vb] w fun e w' => Below w.heap.size w w' ∧ ∃ R v, e = .returned (.tuple #[v, .nilIface]) ∧ JoinV a b R ∧ RdS w' R v := by
  obtain ⟨A, ca, rfl, la, ra⟩ := ha
  obtain ⟨B, cb, rfl, lb, rb⟩ := hb
  have hz : bothE a b = 0 := (bothE_iff a b).mpr ⟨va', vb'⟩
  refine (join_any a b _ _ A B ca cb w ra rb (fun k h => h) (fun k h => h) la lb).mono ?_
  rintro e w1 ⟨h1, h2⟩
  rw [if_pos hz] at h2
  obtain ⟨v, rfl, L, A', c, hp, hd, rfl, h3, h4, h5⟩ := h2
  refine ⟨h1, _, _, rfl, JoinV.of va' vb' hp hd, A', c, rfl, by omega, h5.more fun k h => h.2⟩
theorem joinE {w : World} {a b : List Rf} {va vb : Value} (ha : RdS w a va) (hb : RdS w b vb) (hn : ¬ (Vc a ∧ Vc b)) :
    Calls Try.prog 21 #[va, vb] w fun e w' => ∃ k : Nat, e = .returned (.tuple #[.slice none 0 0, .iface 71 (.int .i64 k)]) ∧ Below w.heap.size w w' := by
  obtain ⟨A, ca, rfl, la, ra⟩ := ha
  obtain ⟨B, cb, rfl, lb, rb⟩ := hb
  have hz : bothE a b ≠ 0 := fun h => hn ((bothE_iff a b).mp h)
  refine (join_any a b _ _ A B ca cb w ra rb (fun k h => h) (fun k h => h) la lb).mono ?_
  rintro e w1 ⟨h1, h2⟩
  rw [if_neg hz, errN_pos hz] at h2
  exact ⟨_, h2, h1⟩
theorem coversS {w : World} {a b : List Rf} {va vb : Value} (ha : RdS w a va) (hb : RdS w b vb) (va' : Vc a) (vb' : Vc b) :
    Calls Try.prog 22 #[va, vb] w fun e w' => e = .returned (.tuple #[.bool (!(aheadB a b)), .nilIface]) ∧ Below w.heap.size w w' := by
  obtain ⟨A, ca, rfl, la, ra⟩ := ha
  obtain ⟨B, cb, rfl, lb, rb⟩ := hb
  have hz : bothE a b = 0 := (bothE_iff a b).mpr ⟨va', vb'⟩
  refine (covers_any a b _ _ A B ca cb w ra rb (fun k h => h) (fun k h => h) la lb).mono ?_
  rintro e w1 ⟨h1, h2⟩
  rw [if_pos hz] at h2
  exact ⟨h2, h1⟩
theorem sameS {w : World} {a b : List Rf} {va vb : Value} (ha : RdS w a va) (hb : RdS w b vb) (h : a = b) :
    Calls Try.prog 23 #[va, vb] w fun e w' => e = .returned (.bool true) ∧ Below w.heap.size w w' := by
  obtain ⟨A, ca, rfl, la, ra⟩ := ha
  obtain ⟨B, cb, rfl, lb, rb⟩ := hb
  refine (sameRefs_any a b _ _ A B ca cb w ra rb la).mono ?_
  rintro e w1 ⟨h1, n, rfl⟩
  rw [decide_eq_true h] at h1
  exact ⟨h1, below_drewN (Below.refl _ _) n⟩
theorem coversT {w : World} {a b : List Rf} {va vb : Value} (ha : RdS w a va) (hb : RdS w b vb) (va' : Vc a) (vb' : Vc b) (h : ∀ x, mx b x ≤ mx a x) :
    Calls Try.prog 22 #[va, vb] w fun e w' => e = .returned (.tuple #[.bool true, .nilIface]) ∧ Below w.heap.size w w' := by
  have := coversS ha hb va' vb'
  rwa [(aheadB_iff va').mpr h] at this
theorem JoinV.comm {a b X Y : List Rf} (h1 : JoinV a b X) (h2 : JoinV b a Y) : X = Y := h1.1.ext h2.1 fun x => by rw [h1.2, h2.2]; omega
theorem JoinV.self {a X : List Rf} (ha : Vc a) (h : JoinV a a X) : X = a := h.1.ext ha fun x => by rw [h.2]; omega
theorem JoinV.left {a b X : List Rf} (h : JoinV a b X) (x : Int) : mx a x ≤ mx X x := by rw [h.2]; omega
theorem JoinV.right {a b X : List Rf} (h : JoinV a b X) (x : Int) : mx b x ≤ mx X x := by rw [h.2]; omega
theorem JoinV.assoc {a b c X Z W V : List Rf} (h1 : JoinV a b X) (h2 : JoinV X c Z) (h3 : JoinV b c W) (h4 : JoinV a W V) : Z = V :=
  h2.1.ext h4.1 fun x => by rw [h2.2, h1.2, h4.2, h3.2]; omega
theorem JoinV.both {a b c X : List Rf} (hc : Vc c) (h : JoinV a b X) : (!(aheadB c X)) = ((!(aheadB c a)) && (!(aheadB c b))) := by
  have e1 := aheadB_iff (b := X) hc
  have e2 := aheadB_iff (b := a) hc
  have e3 := aheadB_iff (b := b) hc
  have e : aheadB c X = false ↔ aheadB c a = false ∧ aheadB c b = false := by
    rw [e1, e2, e3]
    constructor
    · intro h'
      exact ⟨fun x => Int.le_trans (h.left x) (h' x), fun x => Int.le_trans (h.right x) (h' x)⟩
    · rintro ⟨i1, i2⟩ x
      have := i1 x
      have := i2 x
      rw [h.2]
      omega
  revert e
  cases aheadB c X <;> cases aheadB c a <;> cases aheadB c b <;> simp
theorem lit1 : Vc [(1, 4)] := ⟨by intro r hr; simp only [List.mem_singleton] at hr; subst hr; decide, List.pairwise_singleton ..⟩
theorem lit2 : Vc [(2, 3)] := ⟨by intro r hr; simp only [List.mem_singleton] at hr; subst hr; decide, List.pairwise_singleton ..⟩
theorem lit_join {R : List Rf} (h : JoinV [(1, 4)] [(2, 3)] R) : R.length = 2 := by
  have hv : Vc [(1, 4), (2, 3)] := ⟨by intro r hr; simp only [List.mem_cons, List.not_mem_nil, or_false] at hr; rcases hr with rfl | rfl <;> decide, by simp⟩
  have : R = [(1, 4), (2, 3)] := h.1.ext hv fun x => by
    rw [h.2 x]
    simp only [mx]
    split <;> split <;> omega
  rw [this]; rfl
theorem RdS.lit (w : World) (r : Rf) : RdS (w.alloc (.cells #[.int .i64 r.1, .int .i64 r.2] 59)) [r] (.slice (some ⟨w.heap.size, 0, none⟩) 1 1) := by
  refine ⟨_, _, rfl, by simp, rfl, fun _ => ⟨_, rfl, by simp, fun j u hu => ?_⟩⟩
  have hbk := Blk.new w 59 #[.int .i64 r.1, .int .i64 r.2]
  match j, hu with
  | 0, hu => simp [refC] at hu; rw [← hu]; exact hbk.cell 0
  | 1, hu => simp [refC] at hu; rw [← hu]; exact hbk.cell 1
  | j + 2, hu => simp [refC] at hu
set_option maxHeartbeats 2000000 in
set_option maxRecDepth 20000 in
theorem idJoins_walk (a b c : List Rf) (va vb vc : Value) (w : World) (ha : RdS w a va) (hb : RdS w b vb) (hc : RdS w c vc) :
    Calls Try.prog 6 #[va, vb, vc] w fun e w' => e = .returned (.bool true) ∧ Below w.heap.size w w' := by
  have HA := Lib.hid ha
  have HB := Lib.hid hb
  have HC := Lib.hid hc
  clear ha hb hc
  go_enter Try.func6, Try.ntmps6
  go_wp2_with fail
  have HW : Hid (Below w.heap.size w ((w.alloc (.cells #[.int .i64 1, .int .i64 4] 59)).alloc (.cells #[.int .i64 2, .int .i64 3] 59))) := ((Below.refl _ w).alloc (Nat.le_refl _) _).alloc (by simp) _
  have hal : Below (w.alloc (.cells #[.int .i64 1, .int .i64 4] 59)).heap.size (w.alloc (.cells #[.int .i64 1, .int .i64 4] 59)) ((w.alloc (.cells #[.int .i64 1, .int .i64 4] 59)).alloc (.cells #[.int .i64 2, .int .i64 3] 59)) := (Below.refl _ _).alloc (Nat.le_refl _) _
  have hl1 := (RdS.lit w (1, 4)).keep hal
  have hl2 := RdS.lit (w.alloc (.cells #[.int .i64 1, .int .i64 4] 59)) (2, 3)
  rw [show (w.alloc (.cells #[.int .i64 1, .int .i64 4] 59)).heap.size = w.heap.size + 1 from by simp] at hl2
  have hall := HW.out.mono (Nat.le_refl _)
  replace HA := Lib.hid (HA.out.keep HW.out)
  replace HB := Lib.hid (HB.out.keep HW.out)
  replace HC := Lib.hid (HC.out.keep HW.out)
  clear hal hall
  generalize ((w.alloc (.cells #[.int .i64 1, .int .i64 4] 59)).alloc (.cells #[.int .i64 2, .int .i64 3] 59)) = w0 at HW hl1 hl2 HA HB HC ⊢
  go_at_call 21
  refine (joinS hl1 hl2 lit1 lit2).mono ?_
  clear hl1 hl2
  rintro e w1 ⟨hb1, R0, v0, rfl, hj, ⟨A0, c0, rfl, -, -⟩⟩
  replace HW := Lib.hid (HW.out.trans (hb1.mono HW.out.size))
  replace HA := Lib.hid (HA.out.keep hb1)
  replace HB := Lib.hid (HB.out.keep hb1)
  replace HC := Lib.hid (HC.out.keep hb1)
  rw [lit_join hj]
  clear hj hb1 R0 w0
  by_cases hab : Vc a ∧ Vc b
  · have hba : Vc b ∧ Vc a := ⟨hab.2, hab.1⟩
    have HN := Lib.hid hab
    have HN' := Lib.hid hba
    clear hab hba
    go_wp2_with fail
    go_at_call 21
    refine (joinS HA.out HB.out HN.out.1 HN.out.2).mono ?_
    rintro e w2 ⟨hb1, X, x, rfl, hj, hr⟩
    replace HW := Lib.hid (HW.out.trans (hb1.mono HW.out.size))
    replace HA := Lib.hid (HA.out.keep hb1)
    replace HB := Lib.hid (HB.out.keep hb1)
    replace HC := Lib.hid (HC.out.keep hb1)
    have HX := Lib.hid hr
    have HJX := Lib.hid hj
    clear hb1 hr hj w1
    go_wp2_with fail
    go_at_call 21
    refine (joinS HB.out HA.out HN.out.2 HN.out.1).mono ?_
    rintro e w3 ⟨hb1, Y, y, rfl, hj, hr⟩
    replace HW := Lib.hid (HW.out.trans (hb1.mono HW.out.size))
    replace HA := Lib.hid (HA.out.keep hb1)
    replace HB := Lib.hid (HB.out.keep hb1)
    replace HC := Lib.hid (HC.out.keep hb1)
    replace HX := Lib.hid (HX.out.keep hb1)
    have HY := Lib.hid hr
    have HXY := Lib.hid (HJX.out.comm hj)
    clear hb1 hr hj w2
    go_wp2_with fail
    go_at_call 21
    refine (joinS HA.out HA.out HN.out.1 HN.out.1).mono ?_
    rintro e w4 ⟨hb1, S, s, rfl, hj, hr⟩
    replace HW := Lib.hid (HW.out.trans (hb1.mono HW.out.size))
    replace HA := Lib.hid (HA.out.keep hb1)
    replace HB := Lib.hid (HB.out.keep hb1)
    replace HC := Lib.hid (HC.out.keep hb1)
    replace HX := Lib.hid (HX.out.keep hb1)
    replace HY := Lib.hid (HY.out.keep hb1)
    have HS := Lib.hid hr
    have HSA := Lib.hid (JoinV.self HN.out.1 hj)
    clear hb1 hr hj w3
    go_wp2_with fail
    go_at_call 22
    refine (coversT HX.out HA.out HJX.out.1 HN.out.1 HJX.out.left).mono ?_
    rintro e w5 ⟨rfl, hb1⟩
    replace HW := Lib.hid (HW.out.trans (hb1.mono HW.out.size))
    replace HA := Lib.hid (HA.out.keep hb1)
    replace HB := Lib.hid (HB.out.keep hb1)
    replace HC := Lib.hid (HC.out.keep hb1)
    replace HX := Lib.hid (HX.out.keep hb1)
    replace HY := Lib.hid (HY.out.keep hb1)
    replace HS := Lib.hid (HS.out.keep hb1)
    clear hb1 w4
    go_wp2_with fail
    go_at_call 22
    refine (coversT HX.out HB.out HJX.out.1 HN.out.2 HJX.out.right).mono ?_
    rintro e w6 ⟨rfl, hb1⟩
    replace HW := Lib.hid (HW.out.trans (hb1.mono HW.out.size))
    replace HA := Lib.hid (HA.out.keep hb1)
    replace HB := Lib.hid (HB.out.keep hb1)
    replace HC := Lib.hid (HC.out.keep hb1)
    replace HX := Lib.hid (HX.out.keep hb1)
    replace HY := Lib.hid (HY.out.keep hb1)
    replace HS := Lib.hid (HS.out.keep hb1)
    clear hb1 w5
    go_wp2_with fail
    go_at_call 23
    refine (sameS HX.out HY.out HXY.out).mono ?_
    rintro e w7 ⟨rfl, hb1⟩
    replace HW := Lib.hid (HW.out.trans (hb1.mono HW.out.size))
    replace HA := Lib.hid (HA.out.keep hb1)
    replace HB := Lib.hid (HB.out.keep hb1)
    replace HC := Lib.hid (HC.out.keep hb1)
    replace HX := Lib.hid (HX.out.keep hb1)
    replace HS := Lib.hid (HS.out.keep hb1)
    clear hb1 HY w6
    go_wp2_with fail
    go_at_call 23
    refine (sameS HS.out HA.out HSA.out).mono ?_
    rintro e w8 ⟨rfl, hb1⟩
    replace HW := Lib.hid (HW.out.trans (hb1.mono HW.out.size))
    replace HA := Lib.hid (HA.out.keep hb1)
    replace HB := Lib.hid (HB.out.keep hb1)
    replace HC := Lib.hid (HC.out.keep hb1)
    replace HX := Lib.hid (HX.out.keep hb1)
    clear hb1 HS w7
    go_wp2_with fail
    by_cases hc : Vc c
    case neg =>
      have HN2 : Hid (¬ (Vc X ∧ Vc c)) := fun h => hc h.2
      clear hc HB
      go_at_call 21
      refine (joinE HX.out HC.out HN2.out).mono ?_
      rintro e w9 ⟨k1, rfl, hb1⟩
      replace HW := Lib.hid (HW.out.trans (hb1.mono HW.out.size))
      clear hb1 HA HC HX w8
      go_wp2_with fail
      go_ret
      exact ⟨rfl, HW.out⟩
    have HVC := Lib.hid hc
    clear hc
    go_at_call 21
    refine (joinS HX.out HC.out HJX.out.1 HVC.out).mono ?_
    rintro e w9 ⟨hb1, Z, z, rfl, hj, hr⟩
    replace HW := Lib.hid (HW.out.trans (hb1.mono HW.out.size))
    replace HA := Lib.hid (HA.out.keep hb1)
    replace HB := Lib.hid (HB.out.keep hb1)
    replace HC := Lib.hid (HC.out.keep hb1)
    replace HX := Lib.hid (HX.out.keep hb1)
    have HZ := Lib.hid hr
    have HJZ := Lib.hid hj
    clear hb1 hr hj w8
    go_wp2_with fail
    go_at_call 21
    refine (joinS HB.out HC.out HN.out.2 HVC.out).mono ?_
    rintro e w10 ⟨hb1, W, u, rfl, hj, hr⟩
    replace HW := Lib.hid (HW.out.trans (hb1.mono HW.out.size))
    replace HA := Lib.hid (HA.out.keep hb1)
    replace HB := Lib.hid (HB.out.keep hb1)
    replace HC := Lib.hid (HC.out.keep hb1)
    replace HX := Lib.hid (HX.out.keep hb1)
    replace HZ := Lib.hid (HZ.out.keep hb1)
    have HU := Lib.hid hr
    have HJW := Lib.hid hj
    clear hb1 hr hj w9
    go_wp2_with fail
    go_at_call 21
    refine (joinS HA.out HU.out HN.out.1 HJW.out.1).mono ?_
    rintro e w11 ⟨hb1, V, q, rfl, hj, hr⟩
    replace HW := Lib.hid (HW.out.trans (hb1.mono HW.out.size))
    replace HA := Lib.hid (HA.out.keep hb1)
    replace HB := Lib.hid (HB.out.keep hb1)
    replace HC := Lib.hid (HC.out.keep hb1)
    replace HX := Lib.hid (HX.out.keep hb1)
    replace HZ := Lib.hid (HZ.out.keep hb1)
    have HQ := Lib.hid hr
    have HZV := Lib.hid (HJX.out.assoc HJZ.out HJW.out hj)
    clear hb1 hr hj HU w10
    go_wp2_with fail
    go_at_call 23
    refine (sameS HZ.out HQ.out HZV.out).mono ?_
    rintro e w12 ⟨rfl, hb1⟩
    replace HW := Lib.hid (HW.out.trans (hb1.mono HW.out.size))
    replace HA := Lib.hid (HA.out.keep hb1)
    replace HB := Lib.hid (HB.out.keep hb1)
    replace HC := Lib.hid (HC.out.keep hb1)
    replace HX := Lib.hid (HX.out.keep hb1)
    clear hb1 HZ HQ w11
    go_wp2_with fail
    go_at_call 22
    refine (coversS HC.out HA.out HVC.out HN.out.1).mono ?_
    rintro e w13 ⟨rfl, hb1⟩
    replace HW := Lib.hid (HW.out.trans (hb1.mono HW.out.size))
    replace HB := Lib.hid (HB.out.keep hb1)
    replace HC := Lib.hid (HC.out.keep hb1)
    replace HX := Lib.hid (HX.out.keep hb1)
    clear hb1 HA w12
    go_wp2_with fail
    go_at_call 22
    refine (coversS HC.out HB.out HVC.out HN.out.2).mono ?_
    rintro e w14 ⟨rfl, hb1⟩
    replace HW := Lib.hid (HW.out.trans (hb1.mono HW.out.size))
    replace HC := Lib.hid (HC.out.keep hb1)
    replace HX := Lib.hid (HX.out.keep hb1)
    clear hb1 HB w13
    go_wp2_with fail
    have CX := coversS HC.out HX.out HVC.out HJX.out.1
    rw [HJX.out.both HVC.out] at CX
    go_at_call 22
    refine CX.mono ?_
    rintro e w15 ⟨rfl, hb1⟩
    replace HW := Lib.hid (HW.out.trans (hb1.mono HW.out.size))
    clear hb1 HC HX CX w14
    generalize (!(aheadB c a)) = p1
    generalize (!(aheadB c b)) = p2
    cases p1 <;> cases p2
    all_goals
      go_wp2_with fail
      go_ret
      exact ⟨rfl, HW.out⟩
  · have hba : ¬ (Vc b ∧ Vc a) := fun h => hab ⟨h.2, h.1⟩
    have HN := Lib.hid hab
    have HN' := Lib.hid hba
    clear hab hba HC
    go_wp2_with fail
    go_at_call 21
    refine (joinE HA.out HB.out HN.out).mono ?_
    rintro e w2 ⟨k1, rfl, hb1⟩
    replace HW := Lib.hid (HW.out.trans (hb1.mono HW.out.size))
    replace HA := Lib.hid (HA.out.keep hb1)
    replace HB := Lib.hid (HB.out.keep hb1)
    clear hb1 w1
    go_wp2_with fail
    go_at_call 21
    refine (joinE HB.out HA.out HN'.out).mono ?_
    rintro e w3 ⟨k2, rfl, hb1⟩
    replace HW := Lib.hid (HW.out.trans (hb1.mono HW.out.size))
    replace HA := Lib.hid (HA.out.keep hb1)
    replace HB := Lib.hid (HB.out.keep hb1)
    clear hb1 w2
    go_wp2_with fail
    go_ret
    exact ⟨rfl, HW.out⟩
end Go.Proofs.Ytgkpeeilmknmfaa
