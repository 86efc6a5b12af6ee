/- Contracts: a number's digits, an id's name, as the program and the document write them. -/
import Derived.Test.YtfaihilehdjfjaaDoorBigT
import Derived.Test.YtfaihilehdjfjaaDoorRefCmp
import Derived.Test.YtfaihilehdjfjaaDoorShelfI
import Derived.Deep.RegionHeld3
import Derived.Lib.ItoaLen
namespace Go.Proofs.YtfaihilehdjfjaaDoor
open Go.ChangeShapes Go.WideShapes Go.ChangeAt Go.RowKit

/-- a number of the machine -/
def I64 (x : Int) : Prop := -9223372036854775808 ≤ x ∧ x ≤ 9223372036854775807
def itoaS (x : Int) : ByteArray := ⟨(Lib.itoa x).toArray⟩
theorem itoaS_size {x : Int} (hx : I64 x) : (itoaS x).size ≤ 21 := Lib.itoa_length_le x hx.1 hx.2
theorem digits_any (x : Int) (hx : I64 x) (w : World) :
    Calls Tryd.prog 88 #[.int .i64 x] w fun e w' => e = .returned (.string (itoaS x)) ∧ Below w.heap.size w w' := by
  have NI := newIntS_any x hx.1 hx.2 w
  have hn : x.natAbs < 18446744073709551616 := by have := hx.1; have := hx.2; omega
  have hs : decide (x < 0) = true → 0 < x.natAbs := fun h => by have := of_decide_eq_true h; omega
  have HE : Hid (itoaS x = ⟨(if decide (x < 0) = true then 45 :: Lib.decDigits x.natAbs else Lib.decDigits x.natAbs).toArray⟩) := by
    show itoaS x = _
    unfold itoaS Lib.itoa
    by_cases h : x < 0
    · rw [if_pos h, if_pos (decide_eq_true h)]
    · rw [if_neg h, if_neg (by simpa using h), show x.toNat = x.natAbs from by omega]
  generalize itoaS x = S at HE ⊢
  generalize decide (x < 0) = s at *
  generalize x.natAbs = n at *
  clear hx
  go_enter Tryd.func88, Tryd.ntmps88
  go_wp2_with fail
  go_at_call 122
  refine NI.mono ?_
  rintro e w1 ⟨rfl, hi, hb1⟩
  have TX := text_any w.heap.size s n _ w1 hi (fun k hk => hk.2) hn hs
  clear hi NI hn hs
  go_wp2_with fail
  go_at_call 123
  refine Calls.mono (R := fun e w' => e = .returned (.string S) ∧ Below w1.heap.size w1 w') ?_ ?_
  · rw [HE.out]
    generalize (⟨(if s = true then 45 :: Lib.decDigits n else Lib.decDigits n).toArray⟩ : ByteArray) = Z at TX ⊢
    go_enter Tryd.func123, Tryd.ntmps123
    go_wp2_with fail
    go_at_call 151
    refine TX.mono ?_
    rintro e w2 ⟨rfl, hb2⟩
    go_wp2_with fail
    go_ret
    exact ⟨rfl, hb2⟩
  · rintro e w2 ⟨rfl, hb2⟩
    go_wp2_with fail
    go_ret
    exact ⟨rfl, hb1.trans (hb2.mono hb1.size)⟩
/-- the library's table of powers, as laid -/
def PowT (w : World) : Prop := Lib.TabIs Tryd.prog w "internal/strconv.uint64pow10" .u64 Lib.pow10Tab
theorem itoa_any (x : Int) (hx : I64 x) (w : World) (ht : PowT w) :
    Calls Tryd.prog 85 #[.int .i64 x] w fun e w' => e = .returned (.string (itoaS x)) ∧ Below w.heap.size w w' := by
  have IT : Calls Tryd.prog 118 #[.int .i64 x] w fun e w' => e = .returned (.string (itoaS x)) ∧ Below w.heap.size w w' := by
    refine (Any.internal_strconv_Itoa Tryd.itoaRef x hx.1 hx.2 w ht).mono ?_
    rintro e w' ⟨rfl, q, os, rfl⟩
    refine ⟨rfl, rfl, rfl, rfl, ?_, fun k hk => ?_⟩
    · simp only [Sort.grow, World.drewN, Array.size_append]; omega
    · simp only [Sort.grow, World.drewN]
      rw [Array.getElem?_append_left hk]
  generalize itoaS x = S at IT ⊢
  go_enter Tryd.func85, Tryd.ntmps85
  go_wp2_with fail
  go_at_call 118
  refine IT.mono ?_
  rintro e w1 ⟨rfl, hb1⟩
  go_wp2_with fail
  go_ret
  exact ⟨rfl, hb1⟩
theorem formatBool_any (x : Bool) (w : World) :
    Calls Tryd.prog 84 #[.bool x] w fun e w' => e = .returned (.string ⟨(if x then [116, 114, 117, 101] else [102, 97, 108, 115, 101]).toArray⟩) ∧ w' = w := by
  have FB : Calls Tryd.prog 117 #[.bool x] w fun e w' => e = .returned (.string ⟨(if x then [116, 114, 117, 101] else [102, 97, 108, 115, 101]).toArray⟩) ∧ w' = w := by
    cases x
    all_goals
      go_enter Tryd.func117, Tryd.ntmps117
      go_wp2_with fail
      go_ret
      exact ⟨rfl, rfl⟩
  generalize (⟨(if x then [116, 114, 117, 101] else [102, 97, 108, 115, 101]).toArray⟩ : ByteArray) = S at FB ⊢
  go_enter Tryd.func84, Tryd.ntmps84
  go_wp2_with fail
  go_at_call 117
  refine FB.mono ?_
  rintro e w1 ⟨rfl, rfl⟩
  go_wp2_with fail
  go_ret
  exact ⟨rfl, rfl⟩

end Go.Proofs.YtfaihilehdjfjaaDoor
