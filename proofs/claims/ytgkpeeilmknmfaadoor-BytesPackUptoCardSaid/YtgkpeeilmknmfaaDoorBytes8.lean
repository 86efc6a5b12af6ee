/- Contracts: package bytes, numbers packed. -/
import Derived.Test.YtgkpeeilmknmfaaDoorBytes7
namespace Go.Proofs.YtgkpeeilmknmfaaDoor
open Go.ChangeShapes Go.WideShapes Go.ChangeAt Go.RowKit

theorem put_sl (n : Nat) (hn : Hid (n < 2 ^ 64)) (w : World) :
    Calls Tryd.prog 8 #[.int .u64 n] w fun e w' => ∃ A c, e = .returned (.slice A (putN n).length c) ∧ w'.ownsRow w.heap.size 5 1 (.slice A (putN n).length c) (putN n).length (bytesC (putN n)) ∧ Below w.heap.size w w' :=
  (put_any n hn w).mono fun e w' ⟨v, he, ho, hb⟩ => by
    obtain ⟨A, c, rfl, _⟩ := Reads.of_own ho
    exact ⟨A, c, he, ho, hb⟩
theorem putS_sl (n : Int) (hn : (Lit.int .i64 n).wf = true) (w : World) :
    Calls Tryd.prog 10 #[.int .i64 n] w fun e w' => ∃ A c, e = .returned (.slice A (putS n).length c) ∧ w'.ownsRow w.heap.size 5 1 (.slice A (putS n).length c) (putS n).length (bytesC (putS n)) ∧ Below w.heap.size w w' :=
  (putSigned_any n hn w).mono fun e w' ⟨v, he, ho, hb⟩ => by
    obtain ⟨A, c, rfl, _⟩ := Reads.of_own ho
    exact ⟨A, c, he, ho, hb⟩
theorem own_reads {w : World} {base : Nat} {e : TypeId} {size n c : Nat} {A : Option Addr} {xs : List Value} (h : w.ownsRow base e size (.slice A n c) n xs) : Reads (fun k => base ≤ k ∧ k < w.heap.size) w size A n xs := by
  obtain ⟨A', c', hv, _, _, hr⟩ := Reads.of_own h
  injection hv with h1 h2 h3
  subst h1
  exact hr.more fun k hk => own_lt h hk

/-- pieces as bytes -/
def pieceB (p : Int × Int) : List UInt8 := putN p.1.toNat ++ putS p.2
def piecesB (l : List (Int × Int)) : List UInt8 := l.flatMap pieceB
theorem pieceB_length (p : Int × Int) : (pieceB p).length ≤ 20 := by
  have h1 := putN_length p.1.toNat
  have h2 := putN_length (zz p.2)
  simp only [pieceB, putS, List.length_append]; omega
theorem piecesB_length : ∀ (l : List (Int × Int)), (piecesB l).length ≤ 20 * l.length
  | [] => by simp [piecesB]
  | p :: l => by
    have h1 := pieceB_length p
    have h2 := piecesB_length l
    simp only [piecesB, List.flatMap_cons, List.length_append, List.length_cons] at h2 ⊢; omega
def packL (l : List Int) : List UInt8 := putN l.length ++ piecesB (runsL (deltasF 0 l))

theorem runsG_mem : ∀ (l : List Int) (m x : Int) (p : Int × Int), 1 ≤ m → p ∈ runsG m x l → 1 ≤ p.1 ∧ p.1 ≤ m + l.length ∧ (p.2 = x ∨ p.2 ∈ l)
  | [], m, x, p, hm, h => by
    simp [runsG] at h; subst h; simp; omega
  | y :: l, m, x, p, hm, h => by
    simp only [runsG] at h
    split at h
    · rename_i hy
      have := runsG_mem l (m + 1) x p (by omega) h
      simp only [List.length_cons, List.mem_cons]
      refine ⟨this.1, by omega, ?_⟩
      rcases this.2.2 with h1 | h1
      · exact .inl h1
      · exact .inr (.inr h1)
    · rcases List.mem_cons.1 h with h | h
      · subst h; simp; omega
      · have := runsG_mem l 1 y p (by omega) h
        simp only [List.length_cons, List.mem_cons]
        refine ⟨this.1, by omega, ?_⟩
        rcases this.2.2 with h1 | h1
        · exact .inr (.inl h1)
        · exact .inr (.inr h1)
theorem runsL_mem {l : List Int} {p : Int × Int} (h : p ∈ runsL l) : 1 ≤ p.1 ∧ p.1 ≤ l.length ∧ p.2 ∈ l := by
  cases l with
  | nil => simp [runsL] at h
  | cons x l =>
    have := runsG_mem l 1 x p (by omega) h
    simp only [List.length_cons, List.mem_cons]
    exact ⟨this.1, by omega, this.2.2⟩
theorem piecesB_step {l : List (Int × Int)} {k : Nat} {p : Int × Int} (hx : l[k]? = some p) : piecesB (l.take (k + 1)) = piecesB (l.take k) ++ (putN p.1.toNat ++ putS p.2) := by
  obtain ⟨hlt, hx'⟩ := List.getElem?_eq_some_iff.1 hx
  rw [List.take_succ_eq_append_getElem hlt, piecesB, List.flatMap_append, hx']
  simp [piecesB, pieceB]

theorem evo_base {wo w' : World} {T : TypeId} {cs : Array Value} {o o' : Option Nat} {B : Nat} (h : Evo (wo.alloc (.cells cs T)).drew o w' o') (hB : B ≤ wo.heap.size) : B ≤ w'.heap.size := by
  have h1 := h.size
  simp at h1
  omega
theorem keepS {wo w' : World} {o o' : Option Nat} {m n : Value} {T : TypeId} (h : Evo (wo.alloc (.cells #[m, n] T)).drew o w' o') (hne : o ≠ some wo.heap.size) : w'.cell? ⟨wo.heap.size, 0, none⟩ = some m ∧ w'.cell? ⟨wo.heap.size, 1, none⟩ = some n := by
  have hlt : wo.heap.size < (wo.alloc (.cells #[m, n] T)).drew.heap.size := by simp
  exact ⟨(h.cell (p := ⟨wo.heap.size, 0, none⟩) hlt hne).trans ((Blk.new wo T #[m, n]).cell 0), (h.cell (p := ⟨wo.heap.size, 1, none⟩) hlt hne).trans ((Blk.new wo T #[m, n]).cell 1)⟩

set_option maxRecDepth 100000 in
set_option maxHeartbeats 8000000 in
theorem pack_any (l : List Int) (hwf : ∀ x ∈ deltasF 0 l, (Lit.int .i64 x).wf = true) (D : Nat → Prop) (A : Option Addr) (c : Nat) (w : World) (hr : Reads D w 1 A l.length (intsC l)) (hD : ∀ k, D k → k < w.heap.size) (hl : l.length ≤ 400) :
    Calls Tryd.prog 29 #[.slice A l.length c] w fun e w' => OkOr 5 1 bytesC List.length (.ok (packL l)) w.heap.size e w' ∧ Below w.heap.size w w' := by
  obtain ⟨i0, hi, hz0, hz1, hz2⟩ := info_parts infoByte
  have HR := Lib.hid hr
  have HD := Lib.hid hD
  have HW := Lib.hid hwf
  clear hr hD hwf
  have hd4 : decide ((400 : Int) < (l.length : Int)) = false := by simp; omega
  have eL : IntKind.u64.wrap (l.length : Int) = (l.length : Int) := u64_keep (by omega)
  go_enter Tryd.func29, Tryd.ntmps29
  go_wp2_with fail
  refine (put_sl l.length (by show _ < 2 ^ 64; omega) _).mono ?_
  rintro e w1 ⟨A1, c1, rfl, ho1, hb1⟩
  have HO1 := Lib.hid ho1
  clear ho1
  go_wp2_with fail
  refine (deltas_any l D A c _ (HR.out.keep ((Below.keeps hb1).mono HD.out)) (fun k hk => Nat.lt_of_lt_of_le (HD.out k hk) hb1.size) (by omega)).mono ?_
  rintro e w2 ⟨v2, rfl, ho2, hb2⟩
  obtain ⟨A2, c2, hv2, _, _, hr2⟩ := Reads.of_own ho2
  subst hv2
  have hdl : (deltasF 0 l).length ≤ 400 := by rw [deltasF_length]; exact hl
  have HD2 : Hid (∀ k, (Value.slice A2 (deltasF 0 l).length c2).ownBlock = some k → k < w2.heap.size) := fun k hk => (own_lt ho2 hk).2
  have HR2 := Lib.hid hr2
  clear ho2 hr2
  go_wp2_with fail
  refine (runs_any (deltasF 0 l) _ A2 c2 _ HR2.out HD2.out (by omega)).mono ?_
  rintro e w3 ⟨v3, rfl, ho3, hb3⟩
  obtain ⟨A3, c3, hv3, _, _, hr3⟩ := Reads.of_own ho3
  subst hv3
  have hrl : (runsL (deltasF 0 l)).length ≤ 400 := by have := runsL_length (deltasF 0 l); omega
  have HD3 : Hid (∀ k, (Value.slice A3 (runsL (deltasF 0 l)).length c3).ownBlock = some k → w2.heap.size ≤ k ∧ k < w3.heap.size) := fun k hk => own_lt ho3 hk
  have HR3 := Lib.hid hr3
  clear ho3 hr3
  have HK0 : Hid (w1.heap.size ≤ w2.heap.size ∧ w2.heap.size ≤ w3.heap.size) := ⟨hb2.size, hb3.size⟩
  have HO3 : Hid (w3.ownsRow w.heap.size 5 1 (.slice A1 (putN l.length).length c1) (putN l.length).length (bytesC (putN l.length)) ∧ ∀ g, (Value.slice A1 (putN l.length).length c1).ownBlock = some g → g < w1.heap.size) :=
    ⟨own_keep HO1.out (fun g hg => by
      have h1 := (own_lt HO1.out hg).2
      have h2 := hb2.size
      rw [hb3.block g (by omega), hb2.block g h1]), fun g hg => (own_lt HO1.out hg).2⟩
  have hb13 : Below w.heap.size w w3 := (hb1.trans (hb2.mono hb1.size)).trans (hb3.mono (Nat.le_trans hb1.size hb2.size))
  have hs0 := hb1.size
  have hs1 := hb2.size
  have hs2 := hb3.size
  clear hb1 hb2 hb3
  generalize hq : runsL (deltasF 0 l) = q at HD3 HR3 hrl ⊢
  have HQ := Lib.hid hq
  clear hq
  go_wp2_with fail
  go_loopw [4, 6, 19] (fun v _ i wr => ∃ (k : Nat) (pre : List UInt8), k ≤ q.length ∧ i = .int .i64 k ∧ Hid (pre = putN l.length ++ piecesB (q.take k)) ∧ wr.ownsRow w.heap.size 5 1 v pre.length (bytesC pre) ∧
      Hid (∀ g, v.ownBlock = some g → g < w1.heap.size ∨ w3.heap.size ≤ g) ∧ Hid (Keeps (fun k => w2.heap.size ≤ k ∧ k < w3.heap.size) w3 wr) ∧ Below w.heap.size w wr ∧ w3.heap.size ≤ wr.heap.size) (fun _ _ i _ => q.length - (intOf i).toNat)
  case atStart => exact ⟨0, putN l.length, by omega, rfl, Lib.hid (by simp [piecesB]), HO3.out.1, Lib.hid fun g hg => .inl (HO3.out.2 g hg), Lib.hid Keeps.refl, hb13, Nat.le_refl _⟩
  case round =>
    obtain ⟨k, pre, hk, rfl, hpre, hown, hob_, hkp, hb, hsz⟩ := hrel
    have hpl : pre.length ≤ 8010 := by
      rw [hpre.out]
      have h1 := putN_length l.length
      have h2 := piecesB_length (q.take k)
      have h3 : (q.take k).length ≤ k := List.length_take_le _ _
      simp only [List.length_append]; omega
    by_cases hlt : k < q.length
    · obtain ⟨⟨m, nn⟩, hx⟩ := get_lt hlt
      have hmem := runsL_mem (l := deltasF 0 l) (p := (m, nn)) (by rw [HQ.out]; exact List.mem_of_getElem? hx)
      obtain ⟨hm1, hm2, hm3⟩ := hmem
      simp only at hm1 hm2 hm3
      have hwn := HW.out nn hm3
      obtain ⟨M, rfl⟩ : ∃ M : Nat, m = (M : Int) := ⟨m.toNat, by omega⟩
      have HP := Lib.hid (piecesB_step hx)
      have hrr := HR3.out.keep ((hkp.out).mono (fun k hk => HD3.out k hk))
      obtain ⟨b, off, hA, _, hcell⟩ := hrr.at_ (by omega) (by omega)
      have hc0 := hcell _ _ (pairsC_fst _ _ _ hx)
      have hc1 := hcell _ _ (pairsC_snd _ _ _ hx)
      rw [← Nat.add_assoc] at hc1
      have HWN := Lib.hid hwn
      clear hcell hx hm3 hwn hrr
      subst hA
      have eM : IntKind.u64.wrap (M : Int) = (M : Int) := u64_keep (by omega)
      obtain ⟨wo, rfl⟩ : ∃ wo : World, wo = wr := ⟨_, rfl⟩
      have HM : Hid (M < 2 ^ 64) := by show M < 2 ^ 64; omega
      have hne : u4.ownBlock ≠ some wo.heap.size := fun e => by have := (own_lt hown e).2; omega
      go_wp2_with fail
      have l1 := putN_length M
      have l2 : (putS nn).length ≤ 10 := (putN_length (zz nn)).2
      have hx1 : Hid (pre.length + (putN M).length ≤ maxLen) := by show pre.length + (putN M).length ≤ maxLen; simp only [maxLen]; omega
      have hx2 : Hid ((pre.length + (putN M).length) * 1 ≤ 140737488355328) := by show (pre.length + (putN M).length) * 1 ≤ 140737488355328; omega
      have hx3 : Hid (pre.length + (putN M).length + (putS nn).length ≤ maxLen) := by show pre.length + (putN M).length + (putS nn).length ≤ maxLen; simp only [maxLen]; omega
      have hx4 : Hid ((pre.length + (putN M).length + (putS nn).length) * 1 ≤ 140737488355328) := by show (pre.length + (putN M).length + (putS nn).length) * 1 ≤ 140737488355328; omega
      go_region_held3 (fun w' => w'.cell? ⟨wo.heap.size, 0, none⟩ = some (.int .i64 (M : Int)) ∧ w'.cell? ⟨wo.heap.size, 1, none⟩ = some (.int .i64 nn)) (first | exact keepS Ef hne | exact keepS E2 hne | exact keepS E1 hne | exact keepS Ea hne | go_keep) (first | (go_at_call 8; refine (put_sl M HM _).mono ?_; rintro e wa ⟨Aa, ca, rfl, hoa, hba⟩; have Ea := Evo.of_below (o := u4.ownBlock) hba; have oa := own_below (hown.alloc _).drew hba; have ra := own_reads hoa) | (go_at_call 10; refine (putS_sl nn HWN.out _).mono ?_; rintro e wp ⟨Ap, cp, rfl, hop, hbp⟩; have E2 := E1.trans (Evo.of_below hbp); have o2 := own_below hob hbp; have r2 := own_reads hop) | ((refine step_append_any _ (by rfl) (.tmp 23) (.tmp 27) _ (by rfl) w.heap.size 5 i0 _ 1 1 Tryd.underlying23 hi hz0 hz1 hz2 rfl (by omega) u4 pre.length (bytesC pre) (by rfl) oa _ Aa (putN M).length ca (bytesC (putN M)) (by rfl) ra (bytesC_one _) hx1.out hx2.out (evo_base Ea hb.size) ?_; intro vb wb hob hgb hatb; have E1 := Ea.trans (Evo.of_append hgb hatb))) | ((refine step_append_any _ (by rfl) (.tmp 28) (.tmp 31) _ (by rfl) w.heap.size 5 i0 _ 1 1 Tryd.underlying23 hi hz0 hz1 hz2 rfl (by omega) vb (pre.length + (putN M).length) (bytesC pre ++ bytesC (putN M)) (by rfl) o2 _ Ap (putS nn).length cp (bytesC (putS nn)) (by rfl) r2 (bytesC_one _) hx3.out hx4.out (evo_base E2 hb.size) ?_; intro vc wc hoc hgc hatc; have Ef := E2.trans (Evo.of_append hgc hatc))))
      have hW0 : (wo.alloc (.cells #[.int .i64 (M : Int), .int .i64 nn] 48)).drew.heap.size = wo.heap.size + 1 := by simp
      have f1 : Hid (∀ g, vc.ownBlock = some g → g < w1.heap.size ∨ w3.heap.size ≤ g) := by
        intro g hg
        rcases Ef.lies with e | ⟨g', e, hg'⟩
        · exact hob_.out g (by rw [← e]; exact hg)
        · rw [e] at hg; injection hg with hg; rw [hW0] at hg'; omega
      have f2 : Hid (Keeps (fun k => w2.heap.size ≤ k ∧ k < w3.heap.size) w3 wc) := by
        refine hkp.out.trans (Keeps.trans (Keeps.alloc Keeps.refl (fun k hk => by omega) _) (Keeps.trans (Keeps.refl (w := (wo.alloc (.cells #[.int .i64 (M : Int), .int .i64 nn] 48)))) (Ef.keeps fun k hk => ⟨by rw [hW0]; omega, fun e => ?_⟩)))
        have := hob_.out k e
        have := HK0.out
        omega
      have f3 : Below w.heap.size w wc := ((hb.alloc hb.size _).drew).trans (Ef.below (by rw [hW0]; have := hb.size; omega) (fun g hg => (own_lt hown hg).1))
      have f4 : w3.heap.size ≤ wc.heap.size := by have := Ef.size; rw [hW0] at this; omega
      have f5 : Hid (wc.ownsRow w.heap.size 5 1 vc (pre ++ (putN M ++ putS nn)).length (bytesC (pre ++ (putN M ++ putS nn)))) := by
        show wc.ownsRow _ _ _ _ _ _
        have := hoc
        simpa [bytesC_append, Nat.add_assoc] using this
      have f6 : Hid (pre ++ (putN M ++ putS nn) = putN l.length ++ piecesB (q.take (k + 1))) := by
        show _ = _
        rw [HP.out, hpre.out]
        simp
      clear hoc hgc hatc Ef E2 E1 Ea o2 r2 hop hbp hob hgb hatb oa ra hoa hba
      go_wp2_with fail
      exact ⟨⟨k + 1, pre ++ (putN M ++ putS nn), by omega, by go_num, f6, f5.out, f1, f2, f3, f4⟩, by simp [intOf]; omega⟩
    · have HF : Hid (pre = packL l) := by
        show pre = packL l
        rw [hpre.out, packL, HQ.out, List.take_of_length_le (by omega)]
      go_wp2_with fail
      go_ret2
      exact ⟨⟨_, rfl, by rw [← HF.out]; exact hown⟩, hb⟩
end Go.Proofs.YtgkpeeilmknmfaaDoor
