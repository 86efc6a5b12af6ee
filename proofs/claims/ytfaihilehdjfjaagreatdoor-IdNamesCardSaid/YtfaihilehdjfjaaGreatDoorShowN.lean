/- Contracts: a number's digits, an id's name, as the program and the document write them. -/
import Derived.Test.YtfaihilehdjfjaaGreatDoorBigTN
import Derived.Test.YtfaihilehdjfjaaGreatDoorLessN
import Derived.Test.YtfaihilehdjfjaaGreatDoorShelfI
import Derived.Deep.RegionHeld3
import Derived.Lib.ItoaLen
namespace Go.Proofs.YtfaihilehdjfjaaGreatDoor
open Go.ChangeShapes Go.WideShapes Go.ChangeAt Go.RowKit

/-- a number of the machine -/
def I64 (x : Int) : Prop := -9223372036854775808 ≤ x ∧ x ≤ 9223372036854775807
def itoaS (x : Int) : ByteArray := ⟨(Lib.itoa x).toArray⟩
theorem itoaS_size {x : Int} (hx : I64 x) : (itoaS x).size ≤ 21 := Lib.itoa_length_le x hx.1 hx.2
theorem digits_any (x : Int) (hx : I64 x) (w : World) :
    Calls Tryz.prog 16 #[.int .i64 x] w fun e w' => e = .returned (.string (itoaS x)) ∧ Below w.heap.size w w' := by
  have NI := newIntS_any x hx.1 hx.2 w
  have hn : x.natAbs < 18446744073709551616 := by have := hx.1; have := hx.2; omega
  have hs : decide (x < 0) = true → 0 < x.natAbs := fun h => by have := of_decide_eq_true h; omega
  have HE : Hid (itoaS x = ⟨(if decide (x < 0) = true then 45 :: Lib.decDigits x.natAbs else Lib.decDigits x.natAbs).toArray⟩) := by
    show itoaS x = _
    unfold itoaS Lib.itoa
    by_cases h : x < 0
    · rw [if_pos h, if_pos (decide_eq_true h)]
    · rw [if_neg h, if_neg (by simpa using h), show x.toNat = x.natAbs from by omega]
  generalize itoaS x = S at HE ⊢
  generalize decide (x < 0) = s at *
  generalize x.natAbs = n at *
  clear hx
  go_enter Tryz.func16, Tryz.ntmps16
  go_wp2_with fail
  go_at_call 24
  refine NI.mono ?_
  rintro e w1 ⟨rfl, hi, hb1⟩
  have TX := text_any w.heap.size s n _ w1 hi (fun k hk => hk.2) hn hs
  clear hi NI hn hs
  go_wp2_with fail
  go_at_call 25
  refine Calls.mono (R := fun e w' => e = .returned (.string S) ∧ Below w1.heap.size w1 w') ?_ ?_
  · rw [HE.out]
    generalize (⟨(if s = true then 45 :: Lib.decDigits n else Lib.decDigits n).toArray⟩ : ByteArray) = Z at TX ⊢
    go_enter Tryz.func25, Tryz.ntmps25
    go_wp2_with fail
    go_at_call 36
    refine TX.mono ?_
    rintro e w2 ⟨rfl, hb2⟩
    go_wp2_with fail
    go_ret
    exact ⟨rfl, hb2⟩
  · rintro e w2 ⟨rfl, hb2⟩
    go_wp2_with fail
    go_ret
    exact ⟨rfl, hb1.trans (hb2.mono hb1.size)⟩
/-- the library's table of powers, as laid -/
def PowT (w : World) : Prop := Lib.TabIs Tryz.prog w "internal/strconv.uint64pow10" .u64 Lib.pow10Tab
theorem itoa_any (x : Int) (hx : I64 x) (w : World) (ht : PowT w) :
    Calls Tryz.prog 15 #[.int .i64 x] w fun e w' => e = .returned (.string (itoaS x)) ∧ Below w.heap.size w w' := by
  have IT : Calls Tryz.prog 23 #[.int .i64 x] w fun e w' => e = .returned (.string (itoaS x)) ∧ Below w.heap.size w w' := by
    refine (Any.internal_strconv_Itoa Tryz.itoaRef x hx.1 hx.2 w ht).mono ?_
    rintro e w' ⟨rfl, q, os, rfl⟩
    refine ⟨rfl, rfl, rfl, rfl, ?_, fun k hk => ?_⟩
    · simp only [Sort.grow, World.drewN, Array.size_append]; omega
    · simp only [Sort.grow, World.drewN]
      rw [Array.getElem?_append_left hk]
  generalize itoaS x = S at IT ⊢
  go_enter Tryz.func15, Tryz.ntmps15
  go_wp2_with fail
  go_at_call 23
  refine IT.mono ?_
  rintro e w1 ⟨rfl, hb1⟩
  go_wp2_with fail
  go_ret
  exact ⟨rfl, hb1⟩
end Go.Proofs.YtfaihilehdjfjaaGreatDoor
