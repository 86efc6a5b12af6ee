/- BytesPack: the law's walk. -/
import Derived.Test.YtgkpeeilmknmfaaDoorRefPack
import Derived.Test.YtgkpeeilmknmfaaDoorRefUnpack
import Derived.Test.YtgkpeeilmknmfaaDoorUnpack2
import Derived.Test.YtgkpeeilmknmfaaDoorAs
namespace Go.Proofs.YtgkpeeilmknmfaaDoor
open Go.ChangeShapes Go.WideShapes Go.ChangeAt Go.RowKit

/-- too many numbers are not packed -/
theorem pack_over (A : Option Addr) (n c : Nat) (w : World) (hn : 400 < n) (hl : n ≤ 2000000) :
    Calls Tryd.prog 29 #[.slice A n c] w fun e w' => e = .returned (.tuple #[.slice none 0 0, errV 4]) ∧ w = w' := by
  have hd4 : decide ((400 : Int) < (n : Int)) = true := by simp; omega
  go_enter Tryd.func29, Tryd.ntmps29
  go_wp2_with fail
  go_ret2
  exact ⟨rfl, rfl⟩
theorem conv_nil (w : World) : (convert 23 9 (.slice none 0 0)).run Tryd.prog w = .ok (.string ⟨#[]⟩) w := conv_reads (l := []) (D := fun _ => False) (A := none) (c := 0) (w := w) Reads.none_
theorem reads_nil (w : World) : Reads (fun _ => False) w 1 none 0 (intsC []) := Reads.none_

set_option maxRecDepth 20000 in
set_option maxHeartbeats 8000000 in
theorem bytesPack_walk (l : List Int) (hI : Hid (∀ x ∈ l, I64 x)) (b : List UInt8) (Al Ab : Option Addr) (cl cb : Nat) (w : World) (hE : Hid (ErrT w)) (hl : l.length ≤ 1048576) (hb : b.length ≤ 1048576) (hcb : b.length ≤ cb)
    (HRl : Hid (Reads (· < w.heap.size) w 1 Al l.length (intsC l))) (HRb : Hid (Reads (· < w.heap.size) w 1 Ab b.length (bytesC b))) :
    Calls Tryd.prog 7 #[.slice Al l.length cl, .slice Ab b.length cb] w fun e w' => e = .returned (.bool true) ∧ Below w.heap.size w w' := by
  go_enter Tryd.func7, Tryd.ntmps7
  by_cases h400 : 400 < l.length
  · have d4 : decide ((400 : Int) < (l.length : Int)) = true := by simp; omega
    have HC := Lib.hid (pack_over Al l.length cl w h400 (by omega))
    clear h400
    go_wp2_with fail
    refine HC.out.mono ?_
    rintro e w1 ⟨rfl, rfl⟩
    go_wp2_with fail
    refine (same_error 4 4 w hE.out).mono ?_
    rintro e w2 ⟨rfl, hb2⟩
    have HB2 : Hid (Below w.heap.size w w2) := hb2
    clear hb2
    have cv := conv_nil w2
    go_wp2_with fail
    clear cv
    refine (unpackR_any b (· < w.heap.size) Ab cb w2 (HRb.out.keep (Below.keeps HB2.out)) (fun k hk => Nat.lt_of_lt_of_le hk HB2.out.size) (by omega) hcb).mono ?_
    rintro e w4 ⟨hr4, hb4⟩
    have HB4 : Hid (Below w.heap.size w w4) := HB2.out.trans (hb4.mono HB2.out.size)
    have HUB : Hid (∀ w', Below w.heap.size w w' → Calls Tryd.prog 31 #[.slice Ab b.length cb] w' fun e w'' => UnOr (unpackL b) w'.heap.size e w'' ∧ Below w'.heap.size w' w'') := fun w' hb' => unpack_any b (· < w.heap.size) Ab cb w' (HRb.out.keep (Below.keeps hb')) (fun k hk => Nat.lt_of_lt_of_le hk hb'.size) (by omega) hcb
    have hs24 : w.heap.size ≤ w2.heap.size := HB2.out.size
    clear hb4
    cases hu : unpackL b with
    | none =>
      rw [hu] at hr4 HUB
      obtain rfl := hr4
      clear hu
      go_wp2_with fail
      refine (HUB.out w4 HB4.out).mono ?_
      rintro e w5 ⟨rfl, hb5⟩
      have HB5 : Hid (Below w.heap.size w w5) := HB4.out.trans (hb5.mono HB4.out.size)
      clear hb5
      go_wp2_with fail
      refine (same_error 9 9 w5 (hE.out.keep HB5.out)).mono ?_
      rintro e w6 ⟨rfl, hb6⟩
      have HB6 : Hid (Below w.heap.size w w6) := HB5.out.trans (hb6.mono HB5.out.size)
      clear hb6
      go_wp2_with fail
      refine (ints_yes [] (fun _ => False) (fun _ => False) none none 0 0 w6 Reads.none_ Reads.none_ (fun _ h => h.elim) (fun _ h => h.elim) (by simp)).mono ?_
      rintro e w7 ⟨rfl, hb7⟩
      have HB7 : Hid (Below w.heap.size w w7) := HB6.out.trans (hb7.mono HB6.out.size)
      clear hb7
      go_wp2_with fail
      go_ret
      exact ⟨rfl, HB7.out⟩
    | some x =>
      obtain ⟨got, at_⟩ := x
      have hgl := (unpackL_ok hu).1
      rw [hu] at hr4 HUB
      obtain ⟨v4, rfl, ho4⟩ := hr4
      obtain ⟨A4, c4, hv4, _, _, hr4'⟩ := Reads.of_own ho4
      subst hv4
      have HR4 := Lib.hid (hr4'.more (D' := (· < w4.heap.size)) fun k hk => (own_lt ho4 hk).2)
      clear hu ho4 hr4'
      go_wp2_with fail
      refine (HUB.out w4 HB4.out).mono ?_
      rintro e w5 ⟨⟨v5, rfl, ho5⟩, hb5⟩
      obtain ⟨A5, c5, hv5, _, _, hr5⟩ := Reads.of_own ho5
      subst hv5
      have HB5 : Hid (Below w.heap.size w w5) := HB4.out.trans (hb5.mono HB4.out.size)
      have HR45 := Lib.hid ((HR4.out.keep (Below.keeps hb5)).more (D' := (· < w5.heap.size)) fun k hk => Nat.lt_of_lt_of_le hk hb5.size)
      have HR5 := Lib.hid (hr5.more (D' := (· < w5.heap.size)) fun k hk => (own_lt ho5 hk).2)
      clear hb5 ho5 hr5 HR4
      go_wp2_with fail
      refine (same_error 0 0 w5 (hE.out.keep HB5.out)).mono ?_
      rintro e w6 ⟨rfl, hb6⟩
      have HB6 : Hid (Below w.heap.size w w6) := HB5.out.trans (hb6.mono HB5.out.size)
      have HR46 := Lib.hid ((HR45.out.keep (Below.keeps hb6)).more (D' := (· < w6.heap.size)) fun k hk => Nat.lt_of_lt_of_le hk hb6.size)
      have HR56 := Lib.hid ((HR5.out.keep (Below.keeps hb6)).more (D' := (· < w6.heap.size)) fun k hk => Nat.lt_of_lt_of_le hk hb6.size)
      clear hb6 HR45 HR5
      go_wp2_with fail
      refine (ints_yes got _ _ _ _ _ _ w6 HR56.out HR46.out (fun k hk => hk) (fun k hk => hk) (by omega)).mono ?_
      rintro e w7 ⟨rfl, hb7⟩
      have HB7 : Hid (Below w.heap.size w w7) := HB6.out.trans (hb7.mono HB6.out.size)
      clear hb7
      go_wp2_with fail
      go_ret
      exact ⟨rfl, HB7.out⟩
  · have d4 : decide ((400 : Int) < (l.length : Int)) = false := by simp; omega
    have hl4 : l.length ≤ 400 := by omega
    have HWF : Hid (∀ x ∈ deltasF 0 l, (Lit.int .i64 x).wf = true) := fun x hx => by
      have := deltasF_bd l 0 x hx
      simpa [Lit.wf, IntKind.min, IntKind.max, IntKind.signed, IntKind.bits, I64] using this
    clear h400
    go_wp2_with fail
    refine (packR_any l (· < w.heap.size) Al cl w HRl.out (fun k hk => hk) hl4).mono ?_
    rintro e w1 ⟨v1, rfl, ho1, hb1⟩
    obtain ⟨A1, c1, hv1, _, _, hr1⟩ := Reads.of_own ho1
    subst hv1
    have HB1 := Lib.hid hb1
    have HR1 := Lib.hid (hr1.more (D' := (· < w1.heap.size)) fun k hk => (own_lt ho1 hk).2)
    clear ho1 hr1 hb1
    go_wp2_with fail
    refine (pack_any l HWF.out (· < w.heap.size) Al cl w1 (HRl.out.keep (Below.keeps HB1.out)) (fun k hk => Nat.lt_of_lt_of_le hk HB1.out.size) hl4).mono ?_
    rintro e w2 ⟨⟨v2, rfl, ho2⟩, hb2⟩
    obtain ⟨A2, c2, hv2, _, _, hr2⟩ := Reads.of_own ho2
    subst hv2
    have HB2 : Hid (Below w.heap.size w w2) := HB1.out.trans (hb2.mono HB1.out.size)
    have HR12 := Lib.hid ((HR1.out.keep (Below.keeps hb2)).more (D' := (· < w2.heap.size)) fun k hk => Nat.lt_of_lt_of_le hk hb2.size)
    have HR2 := Lib.hid (hr2.more (D' := (· < w2.heap.size)) fun k hk => (own_lt ho2 hk).2)
    clear ho2 hr2 hb2 HR1
    go_wp2_with fail
    refine (same_error 0 0 w2 (hE.out.keep HB2.out)).mono ?_
    rintro e w3 ⟨rfl, hb3⟩
    have cv1 : (convert 23 9 (.slice A1 (packL l).length c1)).run Tryd.prog w3 = _ := conv_reads (c := c1) (HR12.out.keep (Below.keeps hb3))
    have cv2 : (convert 23 9 (.slice A2 (packL l).length c2)).run Tryd.prog w3 = _ := conv_reads (c := c2) (HR2.out.keep (Below.keeps hb3))
    have HB2 : Hid (Below w.heap.size w w3) := HB2.out.trans (hb3.mono HB2.out.size)
    obtain ⟨w2, hw2⟩ : ∃ w2, w2 = w3 := ⟨_, rfl⟩
    rw [← hw2] at cv1 cv2 HB2 ⊢
    clear hb3 HR12 HR2 hw2
    go_wp2_with fail
    clear cv1 cv2
    refine (unpackR_any b (· < w.heap.size) Ab cb w2 (HRb.out.keep (Below.keeps HB2.out)) (fun k hk => Nat.lt_of_lt_of_le hk HB2.out.size) (by omega) hcb).mono ?_
    rintro e w4 ⟨hr4, hb4⟩
    have HB4 : Hid (Below w.heap.size w w4) := HB2.out.trans (hb4.mono HB2.out.size)
    have HUB : Hid (∀ w', Below w.heap.size w w' → Calls Tryd.prog 31 #[.slice Ab b.length cb] w' fun e w'' => UnOr (unpackL b) w'.heap.size e w'' ∧ Below w'.heap.size w' w'') := fun w' hb' => unpack_any b (· < w.heap.size) Ab cb w' (HRb.out.keep (Below.keeps hb')) (fun k hk => Nat.lt_of_lt_of_le hk hb'.size) (by omega) hcb
    have hs24 : w.heap.size ≤ w2.heap.size := HB2.out.size
    clear hb4
    cases hu : unpackL b with
    | none =>
      rw [hu] at hr4 HUB
      obtain rfl := hr4
      clear hu
      go_wp2_with fail
      refine (HUB.out w4 HB4.out).mono ?_
      rintro e w5 ⟨rfl, hb5⟩
      have HB5 : Hid (Below w.heap.size w w5) := HB4.out.trans (hb5.mono HB4.out.size)
      clear hb5
      go_wp2_with fail
      refine (same_error 9 9 w5 (hE.out.keep HB5.out)).mono ?_
      rintro e w6 ⟨rfl, hb6⟩
      have HB6 : Hid (Below w.heap.size w w6) := HB5.out.trans (hb6.mono HB5.out.size)
      clear hb6
      go_wp2_with fail
      refine (ints_yes [] (fun _ => False) (fun _ => False) none none 0 0 w6 Reads.none_ Reads.none_ (fun _ h => h.elim) (fun _ h => h.elim) (by simp)).mono ?_
      rintro e w7 ⟨rfl, hb7⟩
      have HB7 : Hid (Below w.heap.size w w7) := HB6.out.trans (hb7.mono HB6.out.size)
      clear hb7
      go_wp2_with fail
      go_ret
      exact ⟨rfl, HB7.out⟩
    | some x =>
      obtain ⟨got, at_⟩ := x
      have hgl := (unpackL_ok hu).1
      rw [hu] at hr4 HUB
      obtain ⟨v4, rfl, ho4⟩ := hr4
      obtain ⟨A4, c4, hv4, _, _, hr4'⟩ := Reads.of_own ho4
      subst hv4
      have HR4 := Lib.hid (hr4'.more (D' := (· < w4.heap.size)) fun k hk => (own_lt ho4 hk).2)
      clear hu ho4 hr4'
      go_wp2_with fail
      refine (HUB.out w4 HB4.out).mono ?_
      rintro e w5 ⟨⟨v5, rfl, ho5⟩, hb5⟩
      obtain ⟨A5, c5, hv5, _, _, hr5⟩ := Reads.of_own ho5
      subst hv5
      have HB5 : Hid (Below w.heap.size w w5) := HB4.out.trans (hb5.mono HB4.out.size)
      have HR45 := Lib.hid ((HR4.out.keep (Below.keeps hb5)).more (D' := (· < w5.heap.size)) fun k hk => Nat.lt_of_lt_of_le hk hb5.size)
      have HR5 := Lib.hid (hr5.more (D' := (· < w5.heap.size)) fun k hk => (own_lt ho5 hk).2)
      clear hb5 ho5 hr5 HR4
      go_wp2_with fail
      refine (same_error 0 0 w5 (hE.out.keep HB5.out)).mono ?_
      rintro e w6 ⟨rfl, hb6⟩
      have HB6 : Hid (Below w.heap.size w w6) := HB5.out.trans (hb6.mono HB5.out.size)
      have HR46 := Lib.hid ((HR45.out.keep (Below.keeps hb6)).more (D' := (· < w6.heap.size)) fun k hk => Nat.lt_of_lt_of_le hk hb6.size)
      have HR56 := Lib.hid ((HR5.out.keep (Below.keeps hb6)).more (D' := (· < w6.heap.size)) fun k hk => Nat.lt_of_lt_of_le hk hb6.size)
      clear hb6 HR45 HR5
      go_wp2_with fail
      refine (ints_yes got _ _ _ _ _ _ w6 HR56.out HR46.out (fun k hk => hk) (fun k hk => hk) (by omega)).mono ?_
      rintro e w7 ⟨rfl, hb7⟩
      have HB7 : Hid (Below w.heap.size w w7) := HB6.out.trans (hb7.mono HB6.out.size)
      clear hb7
      go_wp2_with fail
      go_ret
      exact ⟨rfl, HB7.out⟩
end Go.Proofs.YtgkpeeilmknmfaaDoor
