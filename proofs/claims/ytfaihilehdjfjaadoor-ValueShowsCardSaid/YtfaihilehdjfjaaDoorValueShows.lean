/- The law ValueShows: walked. -/
import Derived.Test.YtfaihilehdjfjaaDoorShow2
import Derived.Test.YtfaihilehdjfjaaDoorAs
import Derived.Test.YtfaihilehdjfjaaDoorVal
namespace Go.Proofs.YtfaihilehdjfjaaDoor
open Go.ChangeShapes Go.WideShapes Go.ChangeAt Go.RowKit

theorem told0 (w : World) (hE : ErrT w) : Calls Tryd.prog 10 #[.nilIface, .int .i64 0] w fun e w' => e = .returned (.bool true) ∧ Below w.heap.size w w' := same_error 0 0 w hE
theorem told1 (w : World) (hE : ErrT w) : Calls Tryd.prog 10 #[.iface 80 (.int .i64 1), .int .i64 1] w fun e w' => e = .returned (.bool true) ∧ Below w.heap.size w w' := same_error 1 1 w hE
theorem valueB_text {k n : Int} {t : ByteArray} {a b : Int} (h : valueB k n t a b = true) : k = 3 → t.size ≤ 60 := by
  rintro rfl
  simp [valueB] at h
  exact h.2
set_option maxHeartbeats 4000000 in
set_option maxRecDepth 20000 in
theorem valueShows_walk (k n a b k' n' a' b' : Int) (t t' : ByteArray) (hn : I64 n) (ha : I64 a) (hb : I64 b) (w : World) (hE : ErrT w) (hT : PowT w) :
    Calls Tryd.prog 7 #[.agg #[.int .i64 k, .int .i64 n, .string t, .int .i64 a, .int .i64 b], .agg #[.int .i64 k', .int .i64 n', .string t', .int .i64 a', .int .i64 b']] w fun e w' => e = .returned (.bool true) ∧ Below w.heap.size w w' := by
  have HET := Lib.hid hE
  have HPT := Lib.hid hT
  have RA := refValue_any k n a b t
  have RB := refValue_any k' n' a' b' t'
  have CA := valCheck_any k n a b t
  have MC := valCompare_any k n a b k' n' a' b' t t'
  have MR := refCompare_any k n a b k' n' a' b' t t'
  have HW := Lib.hid (((Below.refl _ w).alloc (Nat.le_refl _) (.cells #[.int .i64 k, .int .i64 n, .string t, .int .i64 a, .int .i64 b] 71)).alloc (by simp) (.cells #[.int .i64 k', .int .i64 n', .string t', .int .i64 a', .int .i64 b'] 71))
  have HBA := Lib.hid ((Blk.new w 71 #[.int .i64 k, .int .i64 n, .string t, .int .i64 a, .int .i64 b]).alloc (.cells #[.int .i64 k', .int .i64 n', .string t', .int .i64 a', .int .i64 b'] 71))
  have HBB : Hid (Blk ((w.alloc (.cells #[.int .i64 k, .int .i64 n, .string t, .int .i64 a, .int .i64 b] 71)).alloc (.cells #[.int .i64 k', .int .i64 n', .string t', .int .i64 a', .int .i64 b'] 71)) (w.heap.size + 1) 71 #[.int .i64 k', .int .i64 n', .string t', .int .i64 a', .int .i64 b']) := by
    have h := Blk.new (w.alloc (.cells #[.int .i64 k, .int .i64 n, .string t, .int .i64 a, .int .i64 b] 71)) 71 #[.int .i64 k', .int .i64 n', .string t', .int .i64 a', .int .i64 b']
    rw [show (w.alloc (.cells #[.int .i64 k, .int .i64 n, .string t, .int .i64 a, .int .i64 b] 71)).heap.size = w.heap.size + 1 from by simp] at h
    exact h
  generalize cmpV k n t.toList a b k' n' t'.toList a' b' = C at MC MR
  cases hx : valueB k n t a b with
  | false =>
    rw [hx] at RA CA
    rw [rangeUnless_false rfl] at CA
    clear hx MC MR hn ha hb hE hT
    go_enter Tryd.func7, Tryd.ntmps7
    go_wp2_with fail
    go_at_call 36
    refine (RA _).mono ?_
    rintro e w1 ⟨rfl, hb⟩
    have HBA' := Lib.hid (HBA.out.keep (hb.block _ HBA.out.lt))
    have HBB' := Lib.hid (HBB.out.keep (hb.block _ HBB.out.lt))
    have HW' := Lib.hid (HW.out.trans (hb.mono HW.out.size))
    clear hb HBA HBB HW
    try clear c0 c1 c2 c3 c4 d0 d1 d2 d3 d4
    have HBA := HBA'
    have HBB := HBB'
    have HW := HW'
    clear HBA' HBB' HW'
    have c0 : w1.cell? ⟨w.heap.size, 0, none⟩ = some (.int .i64 k) := HBA.out.cell 0
    have c1 : w1.cell? ⟨w.heap.size, 1, none⟩ = some (.int .i64 n) := HBA.out.cell 1
    have c2 : w1.cell? ⟨w.heap.size, 2, none⟩ = some (.string t) := HBA.out.cell 2
    have c3 : w1.cell? ⟨w.heap.size, 3, none⟩ = some (.int .i64 a) := HBA.out.cell 3
    have c4 : w1.cell? ⟨w.heap.size, 4, none⟩ = some (.int .i64 b) := HBA.out.cell 4
    have d0 : w1.cell? ⟨w.heap.size + 1, 0, none⟩ = some (.int .i64 k') := HBB.out.cell 0
    have d1 : w1.cell? ⟨w.heap.size + 1, 1, none⟩ = some (.int .i64 n') := HBB.out.cell 1
    have d2 : w1.cell? ⟨w.heap.size + 1, 2, none⟩ = some (.string t') := HBB.out.cell 2
    have d3 : w1.cell? ⟨w.heap.size + 1, 3, none⟩ = some (.int .i64 a') := HBB.out.cell 3
    have d4 : w1.cell? ⟨w.heap.size + 1, 4, none⟩ = some (.int .i64 b') := HBB.out.cell 4
    go_wp2_with fail
    go_at_call 36
    refine (RB _).mono ?_
    rintro e w2 ⟨rfl, hb⟩
    have HBA' := Lib.hid (HBA.out.keep (hb.block _ HBA.out.lt))
    have HBB' := Lib.hid (HBB.out.keep (hb.block _ HBB.out.lt))
    have HW' := Lib.hid (HW.out.trans (hb.mono HW.out.size))
    clear hb HBA HBB HW
    try clear c0 c1 c2 c3 c4 d0 d1 d2 d3 d4
    have HBA := HBA'
    have HBB := HBB'
    have HW := HW'
    clear HBA' HBB' HW'
    have c0 : w2.cell? ⟨w.heap.size, 0, none⟩ = some (.int .i64 k) := HBA.out.cell 0
    have c1 : w2.cell? ⟨w.heap.size, 1, none⟩ = some (.int .i64 n) := HBA.out.cell 1
    have c2 : w2.cell? ⟨w.heap.size, 2, none⟩ = some (.string t) := HBA.out.cell 2
    have c3 : w2.cell? ⟨w.heap.size, 3, none⟩ = some (.int .i64 a) := HBA.out.cell 3
    have c4 : w2.cell? ⟨w.heap.size, 4, none⟩ = some (.int .i64 b) := HBA.out.cell 4
    have d0 : w2.cell? ⟨w.heap.size + 1, 0, none⟩ = some (.int .i64 k') := HBB.out.cell 0
    have d1 : w2.cell? ⟨w.heap.size + 1, 1, none⟩ = some (.int .i64 n') := HBB.out.cell 1
    have d2 : w2.cell? ⟨w.heap.size + 1, 2, none⟩ = some (.string t') := HBB.out.cell 2
    have d3 : w2.cell? ⟨w.heap.size + 1, 3, none⟩ = some (.int .i64 a') := HBB.out.cell 3
    have d4 : w2.cell? ⟨w.heap.size + 1, 4, none⟩ = some (.int .i64 b') := HBB.out.cell 4
    go_wp2_with fail
    go_at_call 37
    refine (CA _).mono ?_
    rintro e w3 ⟨rfl, hb⟩
    have HBA' := Lib.hid (HBA.out.keep (hb.block _ HBA.out.lt))
    have HBB' := Lib.hid (HBB.out.keep (hb.block _ HBB.out.lt))
    have HW' := Lib.hid (HW.out.trans (hb.mono HW.out.size))
    clear hb HBA HBB HW
    try clear c0 c1 c2 c3 c4 d0 d1 d2 d3 d4
    have HBA := HBA'
    have HBB := HBB'
    have HW := HW'
    clear HBA' HBB' HW'
    have c0 : w3.cell? ⟨w.heap.size, 0, none⟩ = some (.int .i64 k) := HBA.out.cell 0
    have c1 : w3.cell? ⟨w.heap.size, 1, none⟩ = some (.int .i64 n) := HBA.out.cell 1
    have c2 : w3.cell? ⟨w.heap.size, 2, none⟩ = some (.string t) := HBA.out.cell 2
    have c3 : w3.cell? ⟨w.heap.size, 3, none⟩ = some (.int .i64 a) := HBA.out.cell 3
    have c4 : w3.cell? ⟨w.heap.size, 4, none⟩ = some (.int .i64 b) := HBA.out.cell 4
    have d0 : w3.cell? ⟨w.heap.size + 1, 0, none⟩ = some (.int .i64 k') := HBB.out.cell 0
    have d1 : w3.cell? ⟨w.heap.size + 1, 1, none⟩ = some (.int .i64 n') := HBB.out.cell 1
    have d2 : w3.cell? ⟨w.heap.size + 1, 2, none⟩ = some (.string t') := HBB.out.cell 2
    have d3 : w3.cell? ⟨w.heap.size + 1, 3, none⟩ = some (.int .i64 a') := HBB.out.cell 3
    have d4 : w3.cell? ⟨w.heap.size + 1, 4, none⟩ = some (.int .i64 b') := HBB.out.cell 4
    go_wp2_with fail
    go_at_call 10
    refine (told1 _ (HET.out.keep HW.out)).mono ?_
    rintro e w4 ⟨rfl, hb⟩
    have HBA' := Lib.hid (HBA.out.keep (hb.block _ HBA.out.lt))
    have HBB' := Lib.hid (HBB.out.keep (hb.block _ HBB.out.lt))
    have HW' := Lib.hid (HW.out.trans (hb.mono HW.out.size))
    clear hb HBA HBB HW
    try clear c0 c1 c2 c3 c4 d0 d1 d2 d3 d4
    have HBA := HBA'
    have HBB := HBB'
    have HW := HW'
    clear HBA' HBB' HW'
    have c0 : w4.cell? ⟨w.heap.size, 0, none⟩ = some (.int .i64 k) := HBA.out.cell 0
    have c1 : w4.cell? ⟨w.heap.size, 1, none⟩ = some (.int .i64 n) := HBA.out.cell 1
    have c2 : w4.cell? ⟨w.heap.size, 2, none⟩ = some (.string t) := HBA.out.cell 2
    have c3 : w4.cell? ⟨w.heap.size, 3, none⟩ = some (.int .i64 a) := HBA.out.cell 3
    have c4 : w4.cell? ⟨w.heap.size, 4, none⟩ = some (.int .i64 b) := HBA.out.cell 4
    have d0 : w4.cell? ⟨w.heap.size + 1, 0, none⟩ = some (.int .i64 k') := HBB.out.cell 0
    have d1 : w4.cell? ⟨w.heap.size + 1, 1, none⟩ = some (.int .i64 n') := HBB.out.cell 1
    have d2 : w4.cell? ⟨w.heap.size + 1, 2, none⟩ = some (.string t') := HBB.out.cell 2
    have d3 : w4.cell? ⟨w.heap.size + 1, 3, none⟩ = some (.int .i64 a') := HBB.out.cell 3
    have d4 : w4.cell? ⟨w.heap.size + 1, 4, none⟩ = some (.int .i64 b') := HBB.out.cell 4
    go_wp2_with fail
    go_ret
    exact ⟨rfl, HW.out⟩
  | true =>
    have hS := valueB_text hx
    rw [hx] at RA CA
    rw [rangeUnless_true rfl] at CA
    have SA := fun w' hT' => show_any k n a b t hn ha hb hS w' hT'
    have SR := refShow_any k n a b t hn ha hb hS
    generalize showS k n t a b = S at SA SR
    cases hy : valueB k' n' t' a' b' with
    | false =>
      rw [hy] at RB
      clear hx hy MC MR hn ha hb hE hT hS SA SR
      go_enter Tryd.func7, Tryd.ntmps7
      go_wp2_with fail
      go_at_call 36
      refine (RA _).mono ?_
      rintro e w1 ⟨rfl, hb⟩
      have HBA' := Lib.hid (HBA.out.keep (hb.block _ HBA.out.lt))
      have HBB' := Lib.hid (HBB.out.keep (hb.block _ HBB.out.lt))
      have HW' := Lib.hid (HW.out.trans (hb.mono HW.out.size))
      clear hb HBA HBB HW
      try clear c0 c1 c2 c3 c4 d0 d1 d2 d3 d4
      have HBA := HBA'
      have HBB := HBB'
      have HW := HW'
      clear HBA' HBB' HW'
      have c0 : w1.cell? ⟨w.heap.size, 0, none⟩ = some (.int .i64 k) := HBA.out.cell 0
      have c1 : w1.cell? ⟨w.heap.size, 1, none⟩ = some (.int .i64 n) := HBA.out.cell 1
      have c2 : w1.cell? ⟨w.heap.size, 2, none⟩ = some (.string t) := HBA.out.cell 2
      have c3 : w1.cell? ⟨w.heap.size, 3, none⟩ = some (.int .i64 a) := HBA.out.cell 3
      have c4 : w1.cell? ⟨w.heap.size, 4, none⟩ = some (.int .i64 b) := HBA.out.cell 4
      have d0 : w1.cell? ⟨w.heap.size + 1, 0, none⟩ = some (.int .i64 k') := HBB.out.cell 0
      have d1 : w1.cell? ⟨w.heap.size + 1, 1, none⟩ = some (.int .i64 n') := HBB.out.cell 1
      have d2 : w1.cell? ⟨w.heap.size + 1, 2, none⟩ = some (.string t') := HBB.out.cell 2
      have d3 : w1.cell? ⟨w.heap.size + 1, 3, none⟩ = some (.int .i64 a') := HBB.out.cell 3
      have d4 : w1.cell? ⟨w.heap.size + 1, 4, none⟩ = some (.int .i64 b') := HBB.out.cell 4
      go_wp2_with fail
      go_at_call 36
      refine (RB _).mono ?_
      rintro e w2 ⟨rfl, hb⟩
      have HBA' := Lib.hid (HBA.out.keep (hb.block _ HBA.out.lt))
      have HBB' := Lib.hid (HBB.out.keep (hb.block _ HBB.out.lt))
      have HW' := Lib.hid (HW.out.trans (hb.mono HW.out.size))
      clear hb HBA HBB HW
      try clear c0 c1 c2 c3 c4 d0 d1 d2 d3 d4
      have HBA := HBA'
      have HBB := HBB'
      have HW := HW'
      clear HBA' HBB' HW'
      have c0 : w2.cell? ⟨w.heap.size, 0, none⟩ = some (.int .i64 k) := HBA.out.cell 0
      have c1 : w2.cell? ⟨w.heap.size, 1, none⟩ = some (.int .i64 n) := HBA.out.cell 1
      have c2 : w2.cell? ⟨w.heap.size, 2, none⟩ = some (.string t) := HBA.out.cell 2
      have c3 : w2.cell? ⟨w.heap.size, 3, none⟩ = some (.int .i64 a) := HBA.out.cell 3
      have c4 : w2.cell? ⟨w.heap.size, 4, none⟩ = some (.int .i64 b) := HBA.out.cell 4
      have d0 : w2.cell? ⟨w.heap.size + 1, 0, none⟩ = some (.int .i64 k') := HBB.out.cell 0
      have d1 : w2.cell? ⟨w.heap.size + 1, 1, none⟩ = some (.int .i64 n') := HBB.out.cell 1
      have d2 : w2.cell? ⟨w.heap.size + 1, 2, none⟩ = some (.string t') := HBB.out.cell 2
      have d3 : w2.cell? ⟨w.heap.size + 1, 3, none⟩ = some (.int .i64 a') := HBB.out.cell 3
      have d4 : w2.cell? ⟨w.heap.size + 1, 4, none⟩ = some (.int .i64 b') := HBB.out.cell 4
      go_wp2_with fail
      go_at_call 37
      refine (CA _).mono ?_
      rintro e w3 ⟨rfl, hb⟩
      have HBA' := Lib.hid (HBA.out.keep (hb.block _ HBA.out.lt))
      have HBB' := Lib.hid (HBB.out.keep (hb.block _ HBB.out.lt))
      have HW' := Lib.hid (HW.out.trans (hb.mono HW.out.size))
      clear hb HBA HBB HW
      try clear c0 c1 c2 c3 c4 d0 d1 d2 d3 d4
      have HBA := HBA'
      have HBB := HBB'
      have HW := HW'
      clear HBA' HBB' HW'
      have c0 : w3.cell? ⟨w.heap.size, 0, none⟩ = some (.int .i64 k) := HBA.out.cell 0
      have c1 : w3.cell? ⟨w.heap.size, 1, none⟩ = some (.int .i64 n) := HBA.out.cell 1
      have c2 : w3.cell? ⟨w.heap.size, 2, none⟩ = some (.string t) := HBA.out.cell 2
      have c3 : w3.cell? ⟨w.heap.size, 3, none⟩ = some (.int .i64 a) := HBA.out.cell 3
      have c4 : w3.cell? ⟨w.heap.size, 4, none⟩ = some (.int .i64 b) := HBA.out.cell 4
      have d0 : w3.cell? ⟨w.heap.size + 1, 0, none⟩ = some (.int .i64 k') := HBB.out.cell 0
      have d1 : w3.cell? ⟨w.heap.size + 1, 1, none⟩ = some (.int .i64 n') := HBB.out.cell 1
      have d2 : w3.cell? ⟨w.heap.size + 1, 2, none⟩ = some (.string t') := HBB.out.cell 2
      have d3 : w3.cell? ⟨w.heap.size + 1, 3, none⟩ = some (.int .i64 a') := HBB.out.cell 3
      have d4 : w3.cell? ⟨w.heap.size + 1, 4, none⟩ = some (.int .i64 b') := HBB.out.cell 4
      go_wp2_with fail
      go_at_call 10
      refine (told0 _ (HET.out.keep HW.out)).mono ?_
      rintro e w4 ⟨rfl, hb⟩
      have HBA' := Lib.hid (HBA.out.keep (hb.block _ HBA.out.lt))
      have HBB' := Lib.hid (HBB.out.keep (hb.block _ HBB.out.lt))
      have HW' := Lib.hid (HW.out.trans (hb.mono HW.out.size))
      clear hb HBA HBB HW
      try clear c0 c1 c2 c3 c4 d0 d1 d2 d3 d4
      have HBA := HBA'
      have HBB := HBB'
      have HW := HW'
      clear HBA' HBB' HW'
      have c0 : w4.cell? ⟨w.heap.size, 0, none⟩ = some (.int .i64 k) := HBA.out.cell 0
      have c1 : w4.cell? ⟨w.heap.size, 1, none⟩ = some (.int .i64 n) := HBA.out.cell 1
      have c2 : w4.cell? ⟨w.heap.size, 2, none⟩ = some (.string t) := HBA.out.cell 2
      have c3 : w4.cell? ⟨w.heap.size, 3, none⟩ = some (.int .i64 a) := HBA.out.cell 3
      have c4 : w4.cell? ⟨w.heap.size, 4, none⟩ = some (.int .i64 b) := HBA.out.cell 4
      have d0 : w4.cell? ⟨w.heap.size + 1, 0, none⟩ = some (.int .i64 k') := HBB.out.cell 0
      have d1 : w4.cell? ⟨w.heap.size + 1, 1, none⟩ = some (.int .i64 n') := HBB.out.cell 1
      have d2 : w4.cell? ⟨w.heap.size + 1, 2, none⟩ = some (.string t') := HBB.out.cell 2
      have d3 : w4.cell? ⟨w.heap.size + 1, 3, none⟩ = some (.int .i64 a') := HBB.out.cell 3
      have d4 : w4.cell? ⟨w.heap.size + 1, 4, none⟩ = some (.int .i64 b') := HBB.out.cell 4
      go_wp2_with fail
      go_ret
      exact ⟨rfl, HW.out⟩
    | true =>
      rw [hy] at RB
      clear hx hy hn ha hb hE hT hS
      go_enter Tryd.func7, Tryd.ntmps7
      go_wp2_with fail
      go_at_call 36
      refine (RA _).mono ?_
      rintro e w1 ⟨rfl, hb⟩
      have HBA' := Lib.hid (HBA.out.keep (hb.block _ HBA.out.lt))
      have HBB' := Lib.hid (HBB.out.keep (hb.block _ HBB.out.lt))
      have HW' := Lib.hid (HW.out.trans (hb.mono HW.out.size))
      clear hb HBA HBB HW
      try clear c0 c1 c2 c3 c4 d0 d1 d2 d3 d4
      have HBA := HBA'
      have HBB := HBB'
      have HW := HW'
      clear HBA' HBB' HW'
      have c0 : w1.cell? ⟨w.heap.size, 0, none⟩ = some (.int .i64 k) := HBA.out.cell 0
      have c1 : w1.cell? ⟨w.heap.size, 1, none⟩ = some (.int .i64 n) := HBA.out.cell 1
      have c2 : w1.cell? ⟨w.heap.size, 2, none⟩ = some (.string t) := HBA.out.cell 2
      have c3 : w1.cell? ⟨w.heap.size, 3, none⟩ = some (.int .i64 a) := HBA.out.cell 3
      have c4 : w1.cell? ⟨w.heap.size, 4, none⟩ = some (.int .i64 b) := HBA.out.cell 4
      have d0 : w1.cell? ⟨w.heap.size + 1, 0, none⟩ = some (.int .i64 k') := HBB.out.cell 0
      have d1 : w1.cell? ⟨w.heap.size + 1, 1, none⟩ = some (.int .i64 n') := HBB.out.cell 1
      have d2 : w1.cell? ⟨w.heap.size + 1, 2, none⟩ = some (.string t') := HBB.out.cell 2
      have d3 : w1.cell? ⟨w.heap.size + 1, 3, none⟩ = some (.int .i64 a') := HBB.out.cell 3
      have d4 : w1.cell? ⟨w.heap.size + 1, 4, none⟩ = some (.int .i64 b') := HBB.out.cell 4
      go_wp2_with fail
      go_at_call 36
      refine (RB _).mono ?_
      rintro e w2 ⟨rfl, hb⟩
      have HBA' := Lib.hid (HBA.out.keep (hb.block _ HBA.out.lt))
      have HBB' := Lib.hid (HBB.out.keep (hb.block _ HBB.out.lt))
      have HW' := Lib.hid (HW.out.trans (hb.mono HW.out.size))
      clear hb HBA HBB HW
      try clear c0 c1 c2 c3 c4 d0 d1 d2 d3 d4
      have HBA := HBA'
      have HBB := HBB'
      have HW := HW'
      clear HBA' HBB' HW'
      have c0 : w2.cell? ⟨w.heap.size, 0, none⟩ = some (.int .i64 k) := HBA.out.cell 0
      have c1 : w2.cell? ⟨w.heap.size, 1, none⟩ = some (.int .i64 n) := HBA.out.cell 1
      have c2 : w2.cell? ⟨w.heap.size, 2, none⟩ = some (.string t) := HBA.out.cell 2
      have c3 : w2.cell? ⟨w.heap.size, 3, none⟩ = some (.int .i64 a) := HBA.out.cell 3
      have c4 : w2.cell? ⟨w.heap.size, 4, none⟩ = some (.int .i64 b) := HBA.out.cell 4
      have d0 : w2.cell? ⟨w.heap.size + 1, 0, none⟩ = some (.int .i64 k') := HBB.out.cell 0
      have d1 : w2.cell? ⟨w.heap.size + 1, 1, none⟩ = some (.int .i64 n') := HBB.out.cell 1
      have d2 : w2.cell? ⟨w.heap.size + 1, 2, none⟩ = some (.string t') := HBB.out.cell 2
      have d3 : w2.cell? ⟨w.heap.size + 1, 3, none⟩ = some (.int .i64 a') := HBB.out.cell 3
      have d4 : w2.cell? ⟨w.heap.size + 1, 4, none⟩ = some (.int .i64 b') := HBB.out.cell 4
      go_wp2_with fail
      go_at_call 37
      refine (CA _).mono ?_
      rintro e w3 ⟨rfl, hb⟩
      have HBA' := Lib.hid (HBA.out.keep (hb.block _ HBA.out.lt))
      have HBB' := Lib.hid (HBB.out.keep (hb.block _ HBB.out.lt))
      have HW' := Lib.hid (HW.out.trans (hb.mono HW.out.size))
      clear hb HBA HBB HW
      try clear c0 c1 c2 c3 c4 d0 d1 d2 d3 d4
      have HBA := HBA'
      have HBB := HBB'
      have HW := HW'
      clear HBA' HBB' HW'
      have c0 : w3.cell? ⟨w.heap.size, 0, none⟩ = some (.int .i64 k) := HBA.out.cell 0
      have c1 : w3.cell? ⟨w.heap.size, 1, none⟩ = some (.int .i64 n) := HBA.out.cell 1
      have c2 : w3.cell? ⟨w.heap.size, 2, none⟩ = some (.string t) := HBA.out.cell 2
      have c3 : w3.cell? ⟨w.heap.size, 3, none⟩ = some (.int .i64 a) := HBA.out.cell 3
      have c4 : w3.cell? ⟨w.heap.size, 4, none⟩ = some (.int .i64 b) := HBA.out.cell 4
      have d0 : w3.cell? ⟨w.heap.size + 1, 0, none⟩ = some (.int .i64 k') := HBB.out.cell 0
      have d1 : w3.cell? ⟨w.heap.size + 1, 1, none⟩ = some (.int .i64 n') := HBB.out.cell 1
      have d2 : w3.cell? ⟨w.heap.size + 1, 2, none⟩ = some (.string t') := HBB.out.cell 2
      have d3 : w3.cell? ⟨w.heap.size + 1, 3, none⟩ = some (.int .i64 a') := HBB.out.cell 3
      have d4 : w3.cell? ⟨w.heap.size + 1, 4, none⟩ = some (.int .i64 b') := HBB.out.cell 4
      go_wp2_with fail
      go_at_call 10
      refine (told0 _ (HET.out.keep HW.out)).mono ?_
      rintro e w4 ⟨rfl, hb⟩
      have HBA' := Lib.hid (HBA.out.keep (hb.block _ HBA.out.lt))
      have HBB' := Lib.hid (HBB.out.keep (hb.block _ HBB.out.lt))
      have HW' := Lib.hid (HW.out.trans (hb.mono HW.out.size))
      clear hb HBA HBB HW
      try clear c0 c1 c2 c3 c4 d0 d1 d2 d3 d4
      have HBA := HBA'
      have HBB := HBB'
      have HW := HW'
      clear HBA' HBB' HW'
      have c0 : w4.cell? ⟨w.heap.size, 0, none⟩ = some (.int .i64 k) := HBA.out.cell 0
      have c1 : w4.cell? ⟨w.heap.size, 1, none⟩ = some (.int .i64 n) := HBA.out.cell 1
      have c2 : w4.cell? ⟨w.heap.size, 2, none⟩ = some (.string t) := HBA.out.cell 2
      have c3 : w4.cell? ⟨w.heap.size, 3, none⟩ = some (.int .i64 a) := HBA.out.cell 3
      have c4 : w4.cell? ⟨w.heap.size, 4, none⟩ = some (.int .i64 b) := HBA.out.cell 4
      have d0 : w4.cell? ⟨w.heap.size + 1, 0, none⟩ = some (.int .i64 k') := HBB.out.cell 0
      have d1 : w4.cell? ⟨w.heap.size + 1, 1, none⟩ = some (.int .i64 n') := HBB.out.cell 1
      have d2 : w4.cell? ⟨w.heap.size + 1, 2, none⟩ = some (.string t') := HBB.out.cell 2
      have d3 : w4.cell? ⟨w.heap.size + 1, 3, none⟩ = some (.int .i64 a') := HBB.out.cell 3
      have d4 : w4.cell? ⟨w.heap.size + 1, 4, none⟩ = some (.int .i64 b') := HBB.out.cell 4
      go_wp2_with fail
      go_at_call 38
      refine (SA _ (HPT.out.keep HW.out)).mono ?_
      rintro e w5 ⟨rfl, hb⟩
      have HBA' := Lib.hid (HBA.out.keep (hb.block _ HBA.out.lt))
      have HBB' := Lib.hid (HBB.out.keep (hb.block _ HBB.out.lt))
      have HW' := Lib.hid (HW.out.trans (hb.mono HW.out.size))
      clear hb HBA HBB HW
      try clear c0 c1 c2 c3 c4 d0 d1 d2 d3 d4
      have HBA := HBA'
      have HBB := HBB'
      have HW := HW'
      clear HBA' HBB' HW'
      have c0 : w5.cell? ⟨w.heap.size, 0, none⟩ = some (.int .i64 k) := HBA.out.cell 0
      have c1 : w5.cell? ⟨w.heap.size, 1, none⟩ = some (.int .i64 n) := HBA.out.cell 1
      have c2 : w5.cell? ⟨w.heap.size, 2, none⟩ = some (.string t) := HBA.out.cell 2
      have c3 : w5.cell? ⟨w.heap.size, 3, none⟩ = some (.int .i64 a) := HBA.out.cell 3
      have c4 : w5.cell? ⟨w.heap.size, 4, none⟩ = some (.int .i64 b) := HBA.out.cell 4
      have d0 : w5.cell? ⟨w.heap.size + 1, 0, none⟩ = some (.int .i64 k') := HBB.out.cell 0
      have d1 : w5.cell? ⟨w.heap.size + 1, 1, none⟩ = some (.int .i64 n') := HBB.out.cell 1
      have d2 : w5.cell? ⟨w.heap.size + 1, 2, none⟩ = some (.string t') := HBB.out.cell 2
      have d3 : w5.cell? ⟨w.heap.size + 1, 3, none⟩ = some (.int .i64 a') := HBB.out.cell 3
      have d4 : w5.cell? ⟨w.heap.size + 1, 4, none⟩ = some (.int .i64 b') := HBB.out.cell 4
      go_wp2_with fail
      go_at_call 39
      refine (SR _).mono ?_
      rintro e w6 ⟨rfl, hb⟩
      have HBA' := Lib.hid (HBA.out.keep (hb.block _ HBA.out.lt))
      have HBB' := Lib.hid (HBB.out.keep (hb.block _ HBB.out.lt))
      have HW' := Lib.hid (HW.out.trans (hb.mono HW.out.size))
      clear hb HBA HBB HW
      try clear c0 c1 c2 c3 c4 d0 d1 d2 d3 d4
      have HBA := HBA'
      have HBB := HBB'
      have HW := HW'
      clear HBA' HBB' HW'
      have c0 : w6.cell? ⟨w.heap.size, 0, none⟩ = some (.int .i64 k) := HBA.out.cell 0
      have c1 : w6.cell? ⟨w.heap.size, 1, none⟩ = some (.int .i64 n) := HBA.out.cell 1
      have c2 : w6.cell? ⟨w.heap.size, 2, none⟩ = some (.string t) := HBA.out.cell 2
      have c3 : w6.cell? ⟨w.heap.size, 3, none⟩ = some (.int .i64 a) := HBA.out.cell 3
      have c4 : w6.cell? ⟨w.heap.size, 4, none⟩ = some (.int .i64 b) := HBA.out.cell 4
      have d0 : w6.cell? ⟨w.heap.size + 1, 0, none⟩ = some (.int .i64 k') := HBB.out.cell 0
      have d1 : w6.cell? ⟨w.heap.size + 1, 1, none⟩ = some (.int .i64 n') := HBB.out.cell 1
      have d2 : w6.cell? ⟨w.heap.size + 1, 2, none⟩ = some (.string t') := HBB.out.cell 2
      have d3 : w6.cell? ⟨w.heap.size + 1, 3, none⟩ = some (.int .i64 a') := HBB.out.cell 3
      have d4 : w6.cell? ⟨w.heap.size + 1, 4, none⟩ = some (.int .i64 b') := HBB.out.cell 4
      go_wp2_with fail
      go_at_call 40
      refine (MC _).mono ?_
      rintro e w7 ⟨rfl, hb⟩
      have HBA' := Lib.hid (HBA.out.keep (hb.block _ HBA.out.lt))
      have HBB' := Lib.hid (HBB.out.keep (hb.block _ HBB.out.lt))
      have HW' := Lib.hid (HW.out.trans (hb.mono HW.out.size))
      clear hb HBA HBB HW
      try clear c0 c1 c2 c3 c4 d0 d1 d2 d3 d4
      have HBA := HBA'
      have HBB := HBB'
      have HW := HW'
      clear HBA' HBB' HW'
      have c0 : w7.cell? ⟨w.heap.size, 0, none⟩ = some (.int .i64 k) := HBA.out.cell 0
      have c1 : w7.cell? ⟨w.heap.size, 1, none⟩ = some (.int .i64 n) := HBA.out.cell 1
      have c2 : w7.cell? ⟨w.heap.size, 2, none⟩ = some (.string t) := HBA.out.cell 2
      have c3 : w7.cell? ⟨w.heap.size, 3, none⟩ = some (.int .i64 a) := HBA.out.cell 3
      have c4 : w7.cell? ⟨w.heap.size, 4, none⟩ = some (.int .i64 b) := HBA.out.cell 4
      have d0 : w7.cell? ⟨w.heap.size + 1, 0, none⟩ = some (.int .i64 k') := HBB.out.cell 0
      have d1 : w7.cell? ⟨w.heap.size + 1, 1, none⟩ = some (.int .i64 n') := HBB.out.cell 1
      have d2 : w7.cell? ⟨w.heap.size + 1, 2, none⟩ = some (.string t') := HBB.out.cell 2
      have d3 : w7.cell? ⟨w.heap.size + 1, 3, none⟩ = some (.int .i64 a') := HBB.out.cell 3
      have d4 : w7.cell? ⟨w.heap.size + 1, 4, none⟩ = some (.int .i64 b') := HBB.out.cell 4
      go_wp2_with fail
      go_at_call 41
      refine (MR _).mono ?_
      rintro e w8 ⟨rfl, hb⟩
      have HBA' := Lib.hid (HBA.out.keep (hb.block _ HBA.out.lt))
      have HBB' := Lib.hid (HBB.out.keep (hb.block _ HBB.out.lt))
      have HW' := Lib.hid (HW.out.trans (hb.mono HW.out.size))
      clear hb HBA HBB HW
      try clear c0 c1 c2 c3 c4 d0 d1 d2 d3 d4
      have HBA := HBA'
      have HBB := HBB'
      have HW := HW'
      clear HBA' HBB' HW'
      have c0 : w8.cell? ⟨w.heap.size, 0, none⟩ = some (.int .i64 k) := HBA.out.cell 0
      have c1 : w8.cell? ⟨w.heap.size, 1, none⟩ = some (.int .i64 n) := HBA.out.cell 1
      have c2 : w8.cell? ⟨w.heap.size, 2, none⟩ = some (.string t) := HBA.out.cell 2
      have c3 : w8.cell? ⟨w.heap.size, 3, none⟩ = some (.int .i64 a) := HBA.out.cell 3
      have c4 : w8.cell? ⟨w.heap.size, 4, none⟩ = some (.int .i64 b) := HBA.out.cell 4
      have d0 : w8.cell? ⟨w.heap.size + 1, 0, none⟩ = some (.int .i64 k') := HBB.out.cell 0
      have d1 : w8.cell? ⟨w.heap.size + 1, 1, none⟩ = some (.int .i64 n') := HBB.out.cell 1
      have d2 : w8.cell? ⟨w.heap.size + 1, 2, none⟩ = some (.string t') := HBB.out.cell 2
      have d3 : w8.cell? ⟨w.heap.size + 1, 3, none⟩ = some (.int .i64 a') := HBB.out.cell 3
      have d4 : w8.cell? ⟨w.heap.size + 1, 4, none⟩ = some (.int .i64 b') := HBB.out.cell 4
      go_wp2_with fail
      go_ret
      exact ⟨rfl, HW.out⟩
end Go.Proofs.YtfaihilehdjfjaaDoor
