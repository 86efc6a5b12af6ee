/- BytesPut: the law's walk. -/
import Derived.Test.YtgkpeeilmknmfaaDoorRefGetS
import Derived.Test.YtgkpeeilmknmfaaDoorRefPut
import Derived.Test.YtgkpeeilmknmfaaDoorReader
import Derived.Test.YtgkpeeilmknmfaaDoorAs
namespace Go.Proofs.YtgkpeeilmknmfaaDoor
open Go.ChangeShapes Go.WideShapes Go.ChangeAt Go.RowKit

set_option maxRecDepth 20000 in
set_option maxHeartbeats 8000000 in
theorem bytesPut_walk (n : Nat) (hn : Hid (n < 2 ^ 64)) (k : Int) (hk : (Lit.int .i64 k).wf = true) (b : List UInt8) (Ab : Option Addr) (cb : Nat) (w : World) (hE : Hid (ErrT w)) (hb : b.length ≤ 1048576)
    (HRb : Hid (Reads (· < w.heap.size) w 1 Ab b.length (bytesC b))) :
    Calls Tryd.prog 3 #[.int .u64 n, .int .i64 k, .slice Ab b.length cb] w fun e w' => e = .returned (.bool true) ∧ Below w.heap.size w w' := by
  have HK := Lib.hid hk
  clear hk
  go_enter Tryd.func3, Tryd.ntmps3
  go_wp2_with fail
  refine (put_sl n hn w).mono ?_
  rintro e w1 ⟨A1, c1, rfl, ho1, hb1⟩
  have HB1 := Lib.hid hb1
  have HR1 := Lib.hid ((own_reads ho1).more (D' := (· < w1.heap.size)) fun k hk => hk.2)
  clear ho1 hb1
  go_wp2_with fail
  refine (putR_any n hn w1).mono ?_
  rintro e w2 ⟨v2, rfl, ho2, hb2⟩
  obtain ⟨A2, c2, hv2, _, _, hr2⟩ := Reads.of_own ho2
  subst hv2
  have HB2 : Hid (Below w.heap.size w w2) := HB1.out.trans (hb2.mono HB1.out.size)
  have HR12 := Lib.hid ((HR1.out.keep (Below.keeps hb2)).more (D' := (· < w2.heap.size)) fun k hk => Nat.lt_of_lt_of_le hk hb2.size)
  have HR2 := Lib.hid (hr2.more (D' := (· < w2.heap.size)) fun k hk => (own_lt ho2 hk).2)
  clear ho2 hb2 hr2 HR1
  go_wp2_with fail
  refine (putS_sl k HK.out w2).mono ?_
  rintro e w3 ⟨A3, c3, rfl, ho3, hb3⟩
  have HB3 : Hid (Below w.heap.size w w3) := HB2.out.trans (hb3.mono HB2.out.size)
  have HR13 := Lib.hid ((HR12.out.keep (Below.keeps hb3)).more (D' := (· < w3.heap.size)) fun k hk => Nat.lt_of_lt_of_le hk hb3.size)
  have HR23 := Lib.hid ((HR2.out.keep (Below.keeps hb3)).more (D' := (· < w3.heap.size)) fun k hk => Nat.lt_of_lt_of_le hk hb3.size)
  have HR3 := Lib.hid ((own_reads ho3).more (D' := (· < w3.heap.size)) fun k hk => hk.2)
  clear ho3 hb3 HR12 HR2
  go_wp2_with fail
  refine (putSR_any k HK.out w3).mono ?_
  rintro e w4 ⟨v4, rfl, ho4, hb4⟩
  obtain ⟨A4, c4, hv4, _, _, hr4⟩ := Reads.of_own ho4
  subst hv4
  have HB4 : Hid (Below w.heap.size w w4) := HB3.out.trans (hb4.mono HB3.out.size)
  have cv1 : (convert 23 9 (.slice A1 (putN n).length c1)).run Tryd.prog w4 = _ := conv_reads (c := c1) (HR13.out.keep (Below.keeps hb4))
  have cv2 : (convert 23 9 (.slice A2 (putN n).length c2)).run Tryd.prog w4 = _ := conv_reads (c := c2) (HR23.out.keep (Below.keeps hb4))
  have cv3 : (convert 23 9 (.slice A3 (putS k).length c3)).run Tryd.prog w4 = _ := conv_reads (c := c3) (HR3.out.keep (Below.keeps hb4))
  have cv4 : (convert 23 9 (.slice A4 (putS k).length c4)).run Tryd.prog w4 = _ := conv_reads (c := c4) hr4
  clear ho4 hb4 hr4 HR13 HR23 HR3
  go_wp2_with fail
  clear cv1 cv2 cv3 cv4
  refine (getR_any b (· < w.heap.size) Ab b.length cb rfl (by omega) w4 (HRb.out.keep (Below.keeps HB4.out)) (fun k hk => Nat.lt_of_lt_of_le hk HB4.out.size)).mono ?_
  rintro e w5 ⟨rfl, hb5⟩
  have HB5 : Hid (Below w.heap.size w w5) := HB4.out.trans (hb5.mono HB4.out.size)
  clear hb5
  have hml : b.length ≤ maxLen := by simp only [maxLen]; omega
  have HML := Lib.hid hml
  clear hml
  cases hg : getN b with
  | none =>
    have HGN := Lib.hid hg
    have HGS : Hid (getS b = none) := by show _ = _; simp [getS, hg]
    clear hg
    simp only [getRV]
    go_wp2_with fail
    refine (get_len b b.length rfl (· < w.heap.size) Ab cb w5 (HRb.out.keep (Below.keeps HB5.out)) HML.out).mono ?_
    rw [HGN.out]
    rintro e w5 ⟨rfl, rfl⟩
    simp only [getV]
    go_wp2_with fail
    refine (same_error 9 9 w5 (hE.out.keep HB5.out)).mono ?_
    rintro e w6 ⟨rfl, hb6⟩
    have HB6 : Hid (Below w.heap.size w w6) := HB5.out.trans (hb6.mono HB5.out.size)
    clear hb6
    go_wp2_with fail
    refine (getSR_any b (· < w.heap.size) Ab b.length cb rfl (by omega) w6 (HRb.out.keep (Below.keeps HB6.out)) (fun k hk => Nat.lt_of_lt_of_le hk HB6.out.size)).mono ?_
    rw [HGS.out]
    rintro e w7 ⟨rfl, hb7⟩
    have HB7 : Hid (Below w.heap.size w w7) := HB6.out.trans (hb7.mono HB6.out.size)
    clear hb7
    simp only [getSRV]
    go_wp2_with fail
    refine (getS_len b b.length rfl (· < w.heap.size) Ab cb w7 (HRb.out.keep (Below.keeps HB7.out)) HML.out).mono ?_
    rw [HGS.out]
    rintro e w7 ⟨rfl, rfl⟩
    simp only [getSV]
    go_wp2_with fail
    refine (same_error 9 9 w7 (hE.out.keep HB7.out)).mono ?_
    rintro e w8 ⟨rfl, hb8⟩
    have HB8 : Hid (Below w.heap.size w w8) := HB7.out.trans (hb8.mono HB7.out.size)
    clear hb8
    go_wp2_with fail
    go_ret
    exact ⟨rfl, HB8.out⟩
  | some x =>
    obtain ⟨m, j⟩ := x
    have HGN := Lib.hid hg
    have HGS : Hid (getS b = some (unzz m, j)) := by show _ = _; simp [getS, hg]
    have hj1 := (getN_at hg).1
    have hj0 : ((j : Int) == 0) = false := by rw [beq_eq_false_iff_ne]; omega
    clear hg
    simp only [getRV]
    go_wp2_with fail
    refine (get_len b b.length rfl (· < w.heap.size) Ab cb w5 (HRb.out.keep (Below.keeps HB5.out)) HML.out).mono ?_
    rw [HGN.out]
    rintro e w5 ⟨rfl, rfl⟩
    simp only [getV]
    go_wp2_with fail
    refine (same_error 0 0 w5 (hE.out.keep HB5.out)).mono ?_
    rintro e w6 ⟨rfl, hb6⟩
    have HB6 : Hid (Below w.heap.size w w6) := HB5.out.trans (hb6.mono HB5.out.size)
    clear hb6
    go_wp2_with fail
    refine (getSR_any b (· < w.heap.size) Ab b.length cb rfl (by omega) w6 (HRb.out.keep (Below.keeps HB6.out)) (fun k hk => Nat.lt_of_lt_of_le hk HB6.out.size)).mono ?_
    rw [HGS.out]
    rintro e w7 ⟨rfl, hb7⟩
    have HB7 : Hid (Below w.heap.size w w7) := HB6.out.trans (hb7.mono HB6.out.size)
    clear hb7
    simp only [getSRV]
    go_wp2_with fail
    refine (getS_len b b.length rfl (· < w.heap.size) Ab cb w7 (HRb.out.keep (Below.keeps HB7.out)) HML.out).mono ?_
    rw [HGS.out]
    rintro e w7 ⟨rfl, rfl⟩
    simp only [getSV]
    go_wp2_with fail
    refine (same_error 0 0 w7 (hE.out.keep HB7.out)).mono ?_
    rintro e w8 ⟨rfl, hb8⟩
    have HB8 : Hid (Below w.heap.size w w8) := HB7.out.trans (hb8.mono HB7.out.size)
    clear hb8
    go_wp2_with fail
    go_ret
    exact ⟨rfl, HB8.out⟩
end Go.Proofs.YtgkpeeilmknmfaaDoor
