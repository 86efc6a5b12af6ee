/- Contracts: strings.Cut at "@", whatever the text's length. -/
import Derived.Test.YtfaihilehdjfjaaGreatDoorParsP
import Derived.Test.YtfaihilehdjfjaaGreatDoorStrN
import Derived.Test.YtfaihilehdjfjaaGreatDoorFrame
import Derived.Shelf.RegionOpenPlain
import Derived.Lib.Strings
import Derived.Lib.Slices
import Derived.Lib.Walk
import Derived.Lib.Bytealg
import Derived.Lib.IndexLaws
import Derived.Laws.Externs
import Derived.OwnWalk
namespace Go.Proofs.YtfaihilehdjfjaaGreatDoor
open Go.ChangeShapes Go.WideShapes Go.ChangeAt Go.RowKit

set_option maxRecDepth 100000 in
set_option maxHeartbeats 1000000 in
theorem liteByte_any (s : ByteArray) (c : Int) (w : World) :
    Calls Tryz.prog 63 #[.string s, .int .u8 c] w fun e w' => e = .returned (.int .i64 (Lib.indexByte s.data.toList c.toNat.toUInt8)) ∧ w' = w := by
  go_enter Tryz.func63, Tryz.ntmps63
  go_wp2
  rw [run_callFunc_extern Tryz.func82 (by kernel_rfl) (by kernel_rfl) (by kernel_rfl) (e := Extern.BytealgIndexByte.indexByte) (by kernel_rfl), Lib.run_indexByteString]
  simp only [Result.andThen]
  rw [Oper.upon_value]
  go_wp2
  go_ret
  exact ⟨rfl, rfl⟩
/-- where the first '@' stands; -1: nowhere -/
def ixA (l : List UInt8) : Int := if posA l < l.length then (posA l : Int) else -1
theorem ixA_eq (l : List UInt8) : Lib.indexByte l 64 = ixA l := by
  unfold ixA
  rcases Int.lt_or_le (Lib.indexByte l 64) 0 with h | h
  · have h1 : Lib.indexByte l 64 = -1 := by have := Lib.indexByte_ge l 64; omega
    rw [h1, posA_none (Lib.indexByte_none h1), if_neg (by omega)]
  · obtain ⟨o, ho⟩ : ∃ o : Nat, Lib.indexByte l 64 = o := ⟨(Lib.indexByte l 64).toNat, by omega⟩
    obtain ⟨h1, h2⟩ := Lib.indexByte_some ho
    have hlt : o < l.length := (List.getElem?_eq_some_iff.1 h1).1
    rw [ho, posA_at h1 h2, if_pos hlt]

set_option maxRecDepth 100000 in
set_option maxHeartbeats 4000000 in
theorem indexA_any (l : List UInt8) (w : World) :
    Calls Tryz.prog 42 #[.string ⟨l.toArray⟩, .string ⟨#[64]⟩] w fun e w' => e = .returned (.int .i64 (ixA l)) ∧ w' = w := by
  by_cases hs : l = [64]
  · subst hs
    go_enter Tryz.func42, Tryz.ntmps42
    go_wp2_with fail
    go_ret
    exact ⟨ret_int (by rw [← ixA_eq]; rfl), rfl⟩
  · have ds : ([64] == l) = false := by simpa using fun h => hs h.symm
    clear hs
    have LB : ∀ w, Calls Tryz.prog 63 #[.string ⟨l.toArray⟩, .int .u8 64] w fun e w' => e = .returned (.int .i64 (ixA l)) ∧ w' = w := fun w => by
      have := liteByte_any ⟨l.toArray⟩ 64 w
      rwa [show Lib.indexByte (⟨l.toArray⟩ : ByteArray).data.toList (64 : Int).toNat.toUInt8 = ixA l from by rw [← ixA_eq]; simp] at this
    have h64 : ∀ h, (⟨#[64]⟩ : ByteArray)[0]'h = 64 := fun _ => rfl
    have h65 : (((64 : UInt8).toNat : Nat) : Int) = 64 := rfl
    generalize ixA l = x at *
    go_enter Tryz.func42, Tryz.ntmps42
    go_wp2_with fail
    go_at_call 63
    refine Calls.mono (LB w) ?_
    rintro e w1 ⟨rfl, rfl⟩
    go_wp2_with fail
    go_ret
    exact ⟨rfl, rfl⟩

/-- what strings.Cut gives at "@" -/
def cutV (l : List UInt8) : Value := .tuple #[.string ⟨(l.take (posA l)).toArray⟩, .string ⟨(l.drop (posA l + 1)).toArray⟩, .bool (decide (posA l < l.length))]
theorem exA_take (l : List UInt8) (k : Nat) : (⟨l.toArray⟩ : ByteArray).extract 0 k = ⟨(l.take k).toArray⟩ := by
  apply ByteArray.ext
  simp [ByteArray.data_extract]
theorem exA_drop (l : List UInt8) (k : Nat) : (⟨l.toArray⟩ : ByteArray).extract k l.length = ⟨(l.drop k).toArray⟩ := by
  apply ByteArray.ext
  simp [ByteArray.data_extract]
  rw [List.take_of_length_le (by simp)]
set_option maxRecDepth 100000 in
set_option maxHeartbeats 4000000 in
theorem cutA_any (l : List UInt8) (hl : l.length ≤ 9223372036854775807) (w : World) :
    Calls Tryz.prog 21 #[.string ⟨l.toArray⟩, .string ⟨#[64]⟩] w fun e w' => e = .returned (cutV l) ∧ Below w.heap.size w w' := by
  have LC : Calls Tryz.prog 31 #[.string ⟨l.toArray⟩, .string ⟨#[64]⟩] w fun e w' => e = .returned (cutV l) ∧ Below w.heap.size w w' := by
    have IX := indexA_any l
    by_cases h : posA l < l.length
    · rw [show ixA l = (posA l : Int) from if_pos h] at IX
      have HV : Hid (cutV l = .tuple #[.string ⟨(l.take (posA l)).toArray⟩, .string ⟨(l.drop (posA l + 1)).toArray⟩, .bool true]) := by show _ = _; rw [cutV, decide_eq_true h]
      have hs1 := exA_take l (posA l)
      have hs2 := exA_drop l (posA l + 1)
      generalize l.take (posA l) = N at *
      generalize l.drop (posA l + 1) = M at *
      generalize posA l = k at *
      have hk1 : (0 : Int) ≤ (k : Int) := by omega
      have hk2 : (k : Int) ≤ (l.length : Int) := by omega
      have hk3 : (0 : Int) ≤ (k : Int) + 1 := by omega
      have hk4 : (k : Int) + 1 ≤ (l.length : Int) := by omega
      have x5 : IntKind.i64.wrap ((k : Int) + 1) = (k : Int) + 1 := IntWalk.i64_in _ (by omega)
      clear h
      go_enter Tryz.func31, Tryz.ntmps31
      go_wp2_with fail
      go_at_call 42
      refine (IX w).mono ?_
      rintro e w1 ⟨rfl, rfl⟩
      go_wp2_with fail
      go_region_held3 (fun _ => True) (exact True.intro) (fail)
      all_goals
        go_wp2_with fail
        go_ret3
        exact ⟨by rw [HV.out]; rfl, Below.drew (Below.refl _ _)⟩
    · rw [show ixA l = -1 from if_neg h] at IX
      have he : posA l = l.length := by have := posA_le l; omega
      have HV : Hid (cutV l = .tuple #[.string ⟨l.toArray⟩, .string ⟨#[]⟩, .bool false]) := by
        show _ = _
        rw [cutV, he, List.take_length, List.drop_eq_nil_of_le (by omega), decide_eq_false (by omega)]
      clear h he
      go_enter Tryz.func31, Tryz.ntmps31
      go_wp2_with fail
      go_at_call 42
      refine (IX w).mono ?_
      rintro e w1 ⟨rfl, rfl⟩
      go_wp2_with fail
      go_ret3
      exact ⟨by rw [HV.out]; rfl, Below.refl _ _⟩
  unfold cutV at LC ⊢
  generalize (⟨(l.take (posA l)).toArray⟩ : ByteArray) = N at *
  generalize (⟨(l.drop (posA l + 1)).toArray⟩ : ByteArray) = M at *
  generalize decide (posA l < l.length) = d at *
  go_enter Tryz.func21, Tryz.ntmps21
  go_wp2_with fail
  go_at_call 31
  refine LC.mono ?_
  rintro e w1 ⟨rfl, hb⟩
  go_wp2_with fail
  go_ret3
  exact ⟨rfl, hb⟩
end Go.Proofs.YtfaihilehdjfjaaGreatDoor
