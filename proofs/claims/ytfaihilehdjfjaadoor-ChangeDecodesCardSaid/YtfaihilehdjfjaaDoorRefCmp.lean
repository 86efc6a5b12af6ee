/- Contracts: the document's own Less and Compare (package bookref1). -/
import Derived.Test.YtfaihilehdjfjaaDoorRefVal
namespace Go.Proofs.YtfaihilehdjfjaaDoor
open Go.ChangeShapes Go.WideShapes Go.ChangeAt Go.RowKit

/-- is an id ahead of another one? -/
def lessB (a b c d : Int) : Bool := decide (a < c ∨ a = c ∧ b < d)
theorem refLess_any (a b c d : Int) (w : World) : Calls Tryd.prog 95 #[.agg #[.int .i64 a, .int .i64 b], .agg #[.int .i64 c, .int .i64 d]] w fun e w' => e = .returned (.bool (lessB a b c d)) ∧ Below w.heap.size w w' := by
  have hB : Below w.heap.size w ((w.alloc (.cells #[.int .i64 a, .int .i64 b] 44)).alloc (.cells #[.int .i64 c, .int .i64 d] 44)) := ((Below.refl _ w).alloc (Nat.le_refl _) _).alloc (by simp) _
  by_cases h : a = c
  · subst h
    have HV : Hid (lessB a b a d = decide (b < d)) := by show lessB a b a d = _; simp [lessB]
    go_enter Tryd.func95, Tryd.ntmps95
    go_wp2_with fail
    go_ret
    exact ⟨ret_bool HV.out.symm, hB⟩
  · have hd : (a == c) = false := by simpa using h
    have HV : Hid (lessB a b c d = decide (a < c)) := by show lessB a b c d = _; simp [lessB, h]
    go_enter Tryd.func95, Tryd.ntmps95
    go_wp2_with fail
    go_ret
    exact ⟨ret_bool HV.out.symm, hB⟩
theorem cmp2_less (a b c d : Int) : cmp2 a b c d = if lessB a b c d then -1 else if lessB c d a b then 1 else 0 := by
  simp only [cmp2, firstNZ_cons, firstNZ, cmpI, lessB, decide_eq_true_eq]
  split <;> split <;> (try split) <;> (try split) <;> (try split) <;> (try split) <;> omega
set_option maxHeartbeats 3200000 in
theorem refCompare_any (k n a b k' n' a' b' : Int) (t t' : ByteArray) (w : World) :
    Calls Tryd.prog 41 #[.agg #[.int .i64 k, .int .i64 n, .string t, .int .i64 a, .int .i64 b], .agg #[.int .i64 k', .int .i64 n', .string t', .int .i64 a', .int .i64 b']] w
      fun e w' => e = .returned (.int .i64 (cmpV k n t.toList a b k' n' t'.toList a' b')) ∧ Below w.heap.size w w' := by
  have hB : Below w.heap.size w ((w.alloc (.cells #[.int .i64 k, .int .i64 n, .string t, .int .i64 a, .int .i64 b] 71)).alloc (.cells #[.int .i64 k', .int .i64 n', .string t', .int .i64 a', .int .i64 b'] 71)) := ((Below.refl _ w).alloc (Nat.le_refl _) _).alloc (by simp) _
  by_cases hk : k = k'
  case neg =>
    have dk : (k == k') = false := by simpa using hk
    rcases Int.lt_or_gt_of_ne hk with hl | hl
    · have HV : Hid (cmpV k n t.toList a b k' n' t'.toList a' b' = -1) := by show cmpV k n t.toList a b k' n' t'.toList a' b' = -1; simp [cmpV, firstNZ_cons, cmpI, hl]
      have dl : decide (k < k') = true := decide_eq_true hl
      clear hk hl
      go_enter Tryd.func41, Tryd.ntmps41
      go_wp2_with fail
      go_ret
      exact ⟨ret_int HV.out.symm, hB⟩
    · have HV : Hid (cmpV k n t.toList a b k' n' t'.toList a' b' = 1) := by show cmpV k n t.toList a b k' n' t'.toList a' b' = 1; simp [cmpV, firstNZ_cons, cmpI, hl, show ¬ k < k' from by omega]
      have dl : decide (k < k') = false := decide_eq_false (by omega)
      clear hk hl
      go_enter Tryd.func41, Tryd.ntmps41
      go_wp2_with fail
      go_ret
      exact ⟨ret_int HV.out.symm, hB⟩
  subst hk
  by_cases hn : n = n'
  case neg =>
    have dk : (n == n') = false := by simpa using hn
    rcases Int.lt_or_gt_of_ne hn with hl | hl
    · have HV : Hid (cmpV k n t.toList a b k n' t'.toList a' b' = -1) := by show cmpV k n t.toList a b k n' t'.toList a' b' = -1; simp [cmpV, firstNZ_cons, cmpI, hl]
      have dl : decide (n < n') = true := decide_eq_true hl
      clear hn hl
      go_enter Tryd.func41, Tryd.ntmps41
      go_wp2_with fail
      go_ret
      exact ⟨ret_int HV.out.symm, hB⟩
    · have HV : Hid (cmpV k n t.toList a b k n' t'.toList a' b' = 1) := by show cmpV k n t.toList a b k n' t'.toList a' b' = 1; simp [cmpV, firstNZ_cons, cmpI, hl, show ¬ n < n' from by omega]
      have dl : decide (n < n') = false := decide_eq_false (by omega)
      clear hn hl
      go_enter Tryd.func41, Tryd.ntmps41
      go_wp2_with fail
      go_ret
      exact ⟨ret_int HV.out.symm, hB⟩
  subst hn
  by_cases ht : t.toList = t'.toList
  case neg =>
    have dt : (t.toList == t'.toList) = false := by simpa using ht
    rcases cmpS_cases t.toList t'.toList with ⟨h1, h2⟩ | ⟨h1, h2⟩ | ⟨h1, h2⟩
    · have HV : Hid (cmpV k n t.toList a b k n t'.toList a' b' = -1) := by show cmpV k n t.toList a b k n t'.toList a' b' = -1; simp [cmpV, firstNZ_cons, cmpI, h2]
      clear ht h2
      go_enter Tryd.func41, Tryd.ntmps41
      go_wp2_with fail
      go_ret
      exact ⟨ret_int HV.out.symm, hB⟩
    · exact absurd h1 ht
    · have HV : Hid (cmpV k n t.toList a b k n t'.toList a' b' = 1) := by show cmpV k n t.toList a b k n t'.toList a' b' = 1; simp [cmpV, firstNZ_cons, cmpI, h2]
      have h3 := bl_asym _ _ h1
      clear ht h2 h1
      go_enter Tryd.func41, Tryd.ntmps41
      go_wp2_with fail
      go_ret
      exact ⟨ret_int HV.out.symm, hB⟩
  have dt : (t.toList == t'.toList) = true := by simpa using ht
  have HV : Hid (cmpV k n t.toList a b k n t'.toList a' b' = if lessB a b a' b' then -1 else if lessB a' b' a b then 1 else 0) := by
    show cmpV k n t.toList a b k n t'.toList a' b' = _
    rw [← cmp2_less]
    simp [cmpV, firstNZ_cons, firstNZ, cmpI, cmpS_zero.mpr ht]
    exact fun e => e.symm
  have L1 := refLess_any a b a' b'
  have L2 := refLess_any a' b' a b
  generalize lessB a b a' b' = x at *
  generalize lessB a' b' a b = y at *
  have hlt : w.heap.size + 1 < ((w.alloc (.cells #[.int .i64 k, .int .i64 n, .string t, .int .i64 a, .int .i64 b] 71)).alloc (.cells #[.int .i64 k, .int .i64 n, .string t', .int .i64 a', .int .i64 b'] 71)).heap.size := by simp
  have y0 : Blk ((w.alloc (.cells #[.int .i64 k, .int .i64 n, .string t, .int .i64 a, .int .i64 b] 71)).alloc (.cells #[.int .i64 k, .int .i64 n, .string t', .int .i64 a', .int .i64 b'] 71)) w.heap.size 71 #[.int .i64 k, .int .i64 n, .string t, .int .i64 a, .int .i64 b] := (Blk.new w _ _).alloc _
  have y1 : Blk ((w.alloc (.cells #[.int .i64 k, .int .i64 n, .string t, .int .i64 a, .int .i64 b] 71)).alloc (.cells #[.int .i64 k, .int .i64 n, .string t', .int .i64 a', .int .i64 b'] 71)) (w.heap.size + 1) 71 #[.int .i64 k, .int .i64 n, .string t', .int .i64 a', .int .i64 b'] := by
    have := Blk.new (w.alloc (.cells #[.int .i64 k, .int .i64 n, .string t, .int .i64 a, .int .i64 b] 71)) 71 #[.int .i64 k, .int .i64 n, .string t', .int .i64 a', .int .i64 b']
    simpa using this
  have Y := Lib.hid (And.intro y0 y1)
  clear ht y0 y1
  go_enter Tryd.func41, Tryd.ntmps41
  go_wp2_with fail
  go_at_call 95
  refine (L1 _).mono ?_
  rintro e w1 ⟨rfl, hb⟩
  have k0 := Y.out.1.keep (hb.block w.heap.size (by omega))
  have k1 := Y.out.2.keep (hb.block (w.heap.size + 1) hlt)
  have c0 : w1.cell? ⟨w.heap.size, 3, none⟩ = some (.int .i64 a) := k0.cell 3
  have c1 : w1.cell? ⟨w.heap.size, 4, none⟩ = some (.int .i64 b) := k0.cell 4
  have c2 : w1.cell? ⟨w.heap.size + 1, 3, none⟩ = some (.int .i64 a') := k1.cell 3
  have c3 : w1.cell? ⟨w.heap.size + 1, 4, none⟩ = some (.int .i64 b') := k1.cell 4
  have HB1 : Hid (Below w.heap.size w w1) := hB.trans (hb.mono hB.size)
  clear k0 k1 hb hB
  go_wp2_with fail
  go_at_call 95
  refine (L2 _).mono ?_
  rintro e w2 ⟨rfl, hb⟩
  have HB2 : Hid (Below w.heap.size w w2) := HB1.out.trans (hb.mono HB1.out.size)
  clear hb c0 c1 c2 c3 L1 L2
  cases x <;> cases y
  all_goals
    go_wp2_with fail
    go_ret
    exact ⟨ret_int (by rw [HV.out]; rfl), HB2.out⟩
end Go.Proofs.YtfaihilehdjfjaaDoor
