/- Contracts: package bytes, numbers that may be below 0. -/
import Derived.Test.YtoolpppbbphbjaaBytes
namespace Go.Proofs.Ytoolpppbbphbjaa
open Go.ChangeShapes Go.WideShapes Go.ChangeAt Go.RowKit

theorem xor_ones (x : BitVec 64) : (x ^^^ BitVec.allOnes 64).toNat = 18446744073709551615 - x.toNat := by
  rw [BitVec.xor_allOnes, BitVec.toNat_not]
theorem ofInt_neg_one : BitVec.ofInt 64 (-1) = BitVec.allOnes 64 := by decide
theorem ofInt_u64max : BitVec.ofInt 64 18446744073709551615 = BitVec.allOnes 64 := by decide
theorem bits_xor_u64_ones (a : Nat) (h : a < 18446744073709551616) : bits .xor .u64 (a : Int) 18446744073709551615 = ((18446744073709551615 - a : Nat) : Int) := by
  show IntKind.u64.wrap ((BitVec.ofInt 64 (a : Int) ^^^ BitVec.ofInt 64 18446744073709551615).toNat : Int) = _
  rw [ofInt_u64max, xor_ones, ofInt_u64 a h]
  exact u64_keep (by omega)
theorem bits_xor_u64_zero (a : Nat) (h : a < 18446744073709551616) : bits .xor .u64 (a : Int) 0 = (a : Int) := by
  have := u64_xor_nat a 0 h (by omega)
  simpa using this
theorem wrap_u64 (n : Int) : IntKind.u64.wrap n = n % 18446744073709551616 := by simp [IntKind.wrap, IntKind.bits, IntKind.signed]

theorem zz_bits (n : Int) (h1 : -9223372036854775808 ≤ n) (h2 : n ≤ 9223372036854775807) :
    bits .xor .u64 (IntKind.u64.wrap (IntKind.u64.wrap n * 2)) (IntKind.u64.wrap (n / 9223372036854775808)) = (zz n : Int) := by
  simp only [wrap_u64]
  by_cases h : 0 ≤ n
  · have e1 : n / 9223372036854775808 % 18446744073709551616 = 0 := by omega
    have e2 : n % 18446744073709551616 * 2 % 18446744073709551616 = ((2 * n).toNat : Int) := by omega
    rw [e1, e2, bits_xor_u64_zero _ (by omega)]
    simp [zz, h]
  · have e1 : n / 9223372036854775808 % 18446744073709551616 = 18446744073709551615 := by omega
    have e2 : n % 18446744073709551616 * 2 % 18446744073709551616 = ((2 * n + 18446744073709551616).toNat : Int) := by omega
    rw [e1, e2, bits_xor_u64_ones _ (by omega)]
    simp only [zz, h, if_false]
    omega

theorem wrap_i64 (n : Int) : wrap64 n = (n + 9223372036854775808) % 18446744073709551616 - 9223372036854775808 := by
  unfold wrap64; omega

theorem bits_xor_i64_zero (a : Nat) (h : a < 9223372036854775808) : bits .xor .i64 (a : Int) 0 = (a : Int) := by
  show IntKind.i64.wrap ((BitVec.ofInt 64 (a : Int) ^^^ BitVec.ofInt 64 0).toNat : Int) = _
  have : BitVec.ofInt 64 0 = 0#64 := by decide
  rw [this, BitVec.xor_zero, ofInt_u64 a (by omega), IntKind.wrap_i64]
  omega
theorem bits_xor_i64_ones (a : Nat) (h : a < 9223372036854775808) : bits .xor .i64 (a : Int) (-1) = -(a : Int) - 1 := by
  show IntKind.i64.wrap ((BitVec.ofInt 64 (a : Int) ^^^ BitVec.ofInt 64 (-1)).toNat : Int) = _
  rw [ofInt_neg_one, xor_ones, ofInt_u64 a (by omega), IntKind.wrap_i64]
  omega
theorem bits_and_u64_one (m : Nat) (h : m < 18446744073709551616) : bits .and .u64 (m : Int) 1 = ((m % 2 : Nat) : Int) := by
  have := u64_and_nat m 1 h (by omega)
  rw [nat_mask1] at this
  simpa using this

theorem unzz_bits (m : Nat) (h : m < 18446744073709551616) :
    bits .xor .i64 (wrap64 ((m : Int) / 2)) (wrap64 (-wrap64 (bits .and .u64 (m : Int) 1))) = unzz m := by
  rw [bits_and_u64_one m h]
  have e0 : wrap64 ((m : Int) / 2) = ((m / 2 : Nat) : Int) := by rw [wrap_i64]; omega
  rw [e0]
  unfold unzz
  by_cases h2 : m % 2 = 0
  · have e1 : wrap64 (-wrap64 ((m % 2 : Nat) : Int)) = 0 := by rw [wrap_i64, wrap_i64]; omega
    rw [e1, bits_xor_i64_zero _ (by omega), if_pos h2]
  · have e1 : wrap64 (-wrap64 ((m % 2 : Nat) : Int)) = -1 := by rw [wrap_i64, wrap_i64]; omega
    rw [e1, bits_xor_i64_ones _ (by omega), if_neg h2]
theorem unzz_bits0 : bits .xor .i64 (wrap64 ((0 : Int) / 2)) (wrap64 (-wrap64 (bits .and .u64 (0 : Int) 1))) = 0 := unzz_bits 0 (by omega)

set_option maxHeartbeats 400000 in
theorem putSigned_any (n : Int) (hn : (Lit.int .i64 n).wf = true) (w : World) :
    Calls Try.prog 10 #[.int .i64 n] w fun e w' => ∃ v, e = .returned v ∧ w'.ownsRow w.heap.size 5 1 v (putS n).length (bytesC (putS n)) ∧ Below w.heap.size w w' := by
  have hb := bounds_i64 hn
  have HZ := Lib.hid (zz_bits n hb.1 hb.2)
  have HL : Hid (zz n < 2 ^ 64) := zz_lt hb
  clear hn hb
  go_enter Try.func10, Try.ntmps10
  go_wp2_with fail
  rw [HZ.out]
  refine (put_any (zz n) HL _).mono ?_
  rintro e w1 ⟨v, rfl, hown, hb⟩
  have HO := Lib.hid hown
  clear hown
  go_wp2_with fail
  go_ret
  exact ⟨_, rfl, HO.out, hb⟩

def getSV : Option (Int × Nat) → Value
  | some (m, k) => .tuple #[.int .i64 m, .int .i64 k, .nilIface]
  | none => .tuple #[.int .i64 0, .int .i64 0, .iface 56 (.int .i64 9)]

set_option maxHeartbeats 400000 in
theorem getSigned_any (l : List UInt8) (D : Nat → Prop) (A : Option Addr) (c : Nat) (w : World) (hr : Reads D w 1 A l.length (bytesC l)) (hl : l.length ≤ maxLen) :
    Calls Try.prog 22 #[.slice A l.length c] w fun e w' => e = .returned (getSV (getS l)) ∧ w = w' := by
  have C := get_any l D A c w hr hl
  cases h : getN l with
  | none =>
    rw [h] at C
    have HS : Hid (getS l = none) := by show getS l = none; simp [getS, h]
    have HC := Lib.hid C
    clear C h hr hl
    go_enter Try.func22, Try.ntmps22
    go_wp2_with fail
    refine HC.out.mono ?_
    rintro e w' ⟨rfl, rfl⟩
    simp only [getV]
    have e0 : bits .and .u64 0 1 = 0 := bits_and_u64_one 0 (by omega)
    have e1 : bits .xor .i64 0 0 = 0 := bits_xor_i64_zero 0 (by omega)
    go_wp2_with fail
    go_ret3
    exact ⟨by rw [HS.out]; simp [getSV], rfl⟩
  | some x =>
    obtain ⟨m, k⟩ := x
    rw [h] at C
    have HS : Hid (getS l = some (unzz m, k)) := by show getS l = _; simp [getS, h]
    have HB := Lib.hid (unzz_bits m (by have := getN_lt h; omega))
    have HC := Lib.hid C
    clear C h hr hl
    go_enter Try.func22, Try.ntmps22
    go_wp2_with fail
    refine HC.out.mono ?_
    rintro e w' ⟨rfl, rfl⟩
    simp only [getV]
    go_wp2_with fail
    go_ret3
    exact ⟨by rw [HS.out]; simp [getSV, HB.out], rfl⟩
end Go.Proofs.Ytoolpppbbphbjaa
