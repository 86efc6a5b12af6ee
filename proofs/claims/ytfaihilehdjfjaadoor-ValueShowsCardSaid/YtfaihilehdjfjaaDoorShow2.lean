/- Contracts: value.Show and the document's Show. -/
import Derived.Test.YtfaihilehdjfjaaDoorName
import Derived.Test.YtfaihilehdjfjaaDoorQuoteV
import Derived.Test.YtfaihilehdjfjaaDoorQuotR
namespace Go.Proofs.YtfaihilehdjfjaaDoor
open Go.ChangeShapes Go.WideShapes Go.ChangeAt Go.RowKit

/-- how a value is shown -/
def showS (k n : Int) (t : ByteArray) (a b : Int) : ByteArray :=
  if k = 1 then (if n = 1 then ⟨#[116, 114, 117, 101]⟩ else ⟨#[102, 97, 108, 115, 101]⟩)
  else if k = 2 ∨ k = 4 then itoaS n
  else if k = 3 then ⟨(quoteL t.data.toList).toArray⟩
  else if k = 5 then ⟨#[123]⟩ ++ nameS a b ++ ⟨#[125]⟩
  else if k = 6 then ⟨#[91]⟩ ++ nameS a b ++ ⟨#[93]⟩
  else ⟨#[110, 117, 108, 108]⟩

theorem show_no (k n a b : Int) (t : ByteArray) (hk : k ≠ 1 ∧ k ≠ 2 ∧ k ≠ 3 ∧ k ≠ 4 ∧ k ≠ 5 ∧ k ≠ 6) (w : World) :
    Calls Tryd.prog 38 #[.agg #[.int .i64 k, .int .i64 n, .string t, .int .i64 a, .int .i64 b]] w fun e w' => e = .returned (.string (showS k n t a b)) ∧ Below w.heap.size w w' := by
  obtain ⟨h1, h2, h3, h4, h5, h6⟩ := hk
  have HV : Hid (showS k n t a b = ⟨#[110, 117, 108, 108]⟩) := by show showS k n t a b = _; simp [showS, *]
  have e1 : (k == 1) = false := by simpa using h1
  have e2 : (k == 2) = false := by simpa using h2
  have e3 : (k == 3) = false := by simpa using h3
  have e4 : (k == 4) = false := by simpa using h4
  have e5 : (k == 5) = false := by simpa using h5
  have e6 : (k == 6) = false := by simpa using h6
  clear h1 h2 h3 h4 h5 h6
  go_enter Tryd.func38, Tryd.ntmps38
  go_wp2_with fail
  go_ret
  exact ⟨ret_str HV.out.symm, (Below.refl _ w).alloc (Nat.le_refl _) _⟩
theorem show_1 (n a b : Int) (t : ByteArray) (w : World) :
    Calls Tryd.prog 38 #[.agg #[.int .i64 1, .int .i64 n, .string t, .int .i64 a, .int .i64 b]] w fun e w' => e = .returned (.string (showS 1 n t a b)) ∧ Below w.heap.size w w' := by
  by_cases hn : n = 1
  · subst hn
    have HV : Hid (showS 1 1 t a b = ⟨#[116, 114, 117, 101]⟩) := by show showS 1 1 t a b = _; simp [showS]
    go_enter Tryd.func38, Tryd.ntmps38
    go_wp2_with fail
    go_at_call 84
    refine (formatBool_any true _).mono ?_
    rintro e w1 ⟨rfl, rfl⟩
    go_wp2_with fail
    go_ret
    exact ⟨ret_str HV.out.symm, (Below.refl _ w).alloc (Nat.le_refl _) _⟩
  · have HV : Hid (showS 1 n t a b = ⟨#[102, 97, 108, 115, 101]⟩) := by show showS 1 n t a b = _; simp [showS, hn]
    have dn : (n == 1) = false := by simpa using hn
    clear hn
    go_enter Tryd.func38, Tryd.ntmps38
    go_wp2_with fail
    go_at_call 84
    refine (formatBool_any false _).mono ?_
    rintro e w1 ⟨rfl, rfl⟩
    go_wp2_with fail
    go_ret
    exact ⟨ret_str HV.out.symm, (Below.refl _ w).alloc (Nat.le_refl _) _⟩
theorem show_2 (n a b : Int) (t : ByteArray) (hn : I64 n) (w : World) (hT : PowT w) :
    Calls Tryd.prog 38 #[.agg #[.int .i64 2, .int .i64 n, .string t, .int .i64 a, .int .i64 b]] w fun e w' => e = .returned (.string (showS 2 n t a b)) ∧ Below w.heap.size w w' := by
  have HV : Hid (showS 2 n t a b = itoaS n) := by show showS 2 n t a b = _; simp [showS]
  have DN := itoa_any n hn _ (hT.keep ((Below.refl _ w).alloc (Nat.le_refl _) _ : Below w.heap.size w (w.alloc (.cells #[.int .i64 2, .int .i64 n, .string t, .int .i64 a, .int .i64 b] 71))))
  generalize itoaS n = S at *
  clear hn hT
  go_enter Tryd.func38, Tryd.ntmps38
  go_wp2_with fail
  go_at_call 85
  refine DN.mono ?_
  rintro e w1 ⟨rfl, hb⟩
  go_wp2_with fail
  go_ret
  exact ⟨ret_str HV.out.symm, ((Below.refl _ w).alloc (Nat.le_refl _) _).trans (hb.mono (by simp))⟩
theorem show_4 (n a b : Int) (t : ByteArray) (hn : I64 n) (w : World) (hT : PowT w) :
    Calls Tryd.prog 38 #[.agg #[.int .i64 4, .int .i64 n, .string t, .int .i64 a, .int .i64 b]] w fun e w' => e = .returned (.string (showS 4 n t a b)) ∧ Below w.heap.size w w' := by
  have HV : Hid (showS 4 n t a b = itoaS n) := by show showS 4 n t a b = _; simp [showS]
  have DN := itoa_any n hn _ (hT.keep ((Below.refl _ w).alloc (Nat.le_refl _) _ : Below w.heap.size w (w.alloc (.cells #[.int .i64 4, .int .i64 n, .string t, .int .i64 a, .int .i64 b] 71))))
  generalize itoaS n = S at *
  clear hn hT
  go_enter Tryd.func38, Tryd.ntmps38
  go_wp2_with fail
  go_at_call 85
  refine DN.mono ?_
  rintro e w1 ⟨rfl, hb⟩
  go_wp2_with fail
  go_ret
  exact ⟨ret_str HV.out.symm, ((Below.refl _ w).alloc (Nat.le_refl _) _).trans (hb.mono (by simp))⟩
theorem show_3 (n a b : Int) (t : ByteArray) (ht : t.size ≤ 60) (w : World) :
    Calls Tryd.prog 38 #[.agg #[.int .i64 3, .int .i64 n, .string t, .int .i64 a, .int .i64 b]] w fun e w' => e = .returned (.string (showS 3 n t a b)) ∧ Below w.heap.size w w' := by
  have HV : Hid (showS 3 n t a b = ⟨(quoteL t.data.toList).toArray⟩) := by show showS 3 n t a b = _; simp [showS]
  have QA := fun w' => quote_any t.data.toList w' (by rw [← Lib.size_eq]; omega)
  rw [show (⟨t.data.toList.toArray⟩ : ByteArray) = t from by cases t; simp] at QA
  generalize (⟨(quoteL t.data.toList).toArray⟩ : ByteArray) = S at *
  clear ht
  go_enter Tryd.func38, Tryd.ntmps38
  go_wp2_with fail
  go_at_call 86
  refine (QA _).mono ?_
  rintro e w1 ⟨rfl, hb⟩
  go_wp2_with fail
  go_ret
  exact ⟨ret_str HV.out.symm, ((Below.refl _ w).alloc (Nat.le_refl _) _).trans (hb.mono (by simp))⟩
theorem show_5 (n a b : Int) (t : ByteArray) (ha : I64 a) (hb : I64 b) (w : World) (hT : PowT w) :
    Calls Tryd.prog 38 #[.agg #[.int .i64 5, .int .i64 n, .string t, .int .i64 a, .int .i64 b]] w fun e w' => e = .returned (.string (showS 5 n t a b)) ∧ Below w.heap.size w w' := by
  have HV : Hid (showS 5 n t a b = ⟨#[123]⟩ ++ nameS a b ++ ⟨#[125]⟩) := by show showS 5 n t a b = _; simp [showS]
  have hSz := nameS_size ha hb
  have NA := name_any a b ha hb _ (hT.keep ((Below.refl _ w).alloc (Nat.le_refl _) _ : Below w.heap.size w (w.alloc (.cells #[.int .i64 5, .int .i64 n, .string t, .int .i64 a, .int .i64 b] 71))))
  generalize nameS a b = S at *
  have q1 : (9223372036854775807 < 1 + S.size) = False := eq_false (by omega)
  have q2 : (9223372036854775807 < 1 + S.size + 1) = False := eq_false (by omega)
  have q3 : (9223372036854775807 ≤ 1 + S.size) = False := eq_false (by omega)
  clear hSz ha hb hT
  go_enter Tryd.func38, Tryd.ntmps38
  go_wp2_with fail
  go_at_call 87
  refine NA.mono ?_
  rintro e w1 ⟨rfl, hb⟩
  go_wp2_with fail
  go_ret
  exact ⟨ret_str HV.out.symm, ((Below.refl _ w).alloc (Nat.le_refl _) _).trans (hb.mono (by simp))⟩
theorem show_6 (n a b : Int) (t : ByteArray) (ha : I64 a) (hb : I64 b) (w : World) (hT : PowT w) :
    Calls Tryd.prog 38 #[.agg #[.int .i64 6, .int .i64 n, .string t, .int .i64 a, .int .i64 b]] w fun e w' => e = .returned (.string (showS 6 n t a b)) ∧ Below w.heap.size w w' := by
  have HV : Hid (showS 6 n t a b = ⟨#[91]⟩ ++ nameS a b ++ ⟨#[93]⟩) := by show showS 6 n t a b = _; simp [showS]
  have hSz := nameS_size ha hb
  have NA := name_any a b ha hb _ (hT.keep ((Below.refl _ w).alloc (Nat.le_refl _) _ : Below w.heap.size w (w.alloc (.cells #[.int .i64 6, .int .i64 n, .string t, .int .i64 a, .int .i64 b] 71))))
  generalize nameS a b = S at *
  have q1 : (9223372036854775807 < 1 + S.size) = False := eq_false (by omega)
  have q2 : (9223372036854775807 < 1 + S.size + 1) = False := eq_false (by omega)
  have q3 : (9223372036854775807 ≤ 1 + S.size) = False := eq_false (by omega)
  clear hSz ha hb hT
  go_enter Tryd.func38, Tryd.ntmps38
  go_wp2_with fail
  go_at_call 87
  refine NA.mono ?_
  rintro e w1 ⟨rfl, hb⟩
  go_wp2_with fail
  go_ret
  exact ⟨ret_str HV.out.symm, ((Below.refl _ w).alloc (Nat.le_refl _) _).trans (hb.mono (by simp))⟩
theorem show_any (k n a b : Int) (t : ByteArray) (hn : I64 n) (ha : I64 a) (hb : I64 b) (ht : k = 3 → t.size ≤ 60) (w : World) (hT : PowT w) :
    Calls Tryd.prog 38 #[.agg #[.int .i64 k, .int .i64 n, .string t, .int .i64 a, .int .i64 b]] w fun e w' => e = .returned (.string (showS k n t a b)) ∧ Below w.heap.size w w' := by
  by_cases h1 : k = 1
  · subst h1; exact show_1 n a b t w
  by_cases h2 : k = 2
  · subst h2; exact show_2 n a b t hn w hT
  by_cases h3 : k = 3
  · subst h3; exact show_3 n a b t (ht rfl) w
  by_cases h4 : k = 4
  · subst h4; exact show_4 n a b t hn w hT
  by_cases h5 : k = 5
  · subst h5; exact show_5 n a b t ha hb w hT
  by_cases h6 : k = 6
  · subst h6; exact show_6 n a b t ha hb w hT
  exact show_no k n a b t ⟨h1, h2, h3, h4, h5, h6⟩ w
theorem refShow_no (k n a b : Int) (t : ByteArray) (hk : k ≠ 1 ∧ k ≠ 2 ∧ k ≠ 3 ∧ k ≠ 4 ∧ k ≠ 5 ∧ k ≠ 6) (w : World) :
    Calls Tryd.prog 39 #[.agg #[.int .i64 k, .int .i64 n, .string t, .int .i64 a, .int .i64 b]] w fun e w' => e = .returned (.string (showS k n t a b)) ∧ Below w.heap.size w w' := by
  obtain ⟨h1, h2, h3, h4, h5, h6⟩ := hk
  have HV : Hid (showS k n t a b = ⟨#[110, 117, 108, 108]⟩) := by show showS k n t a b = _; simp [showS, *]
  have e1 : (k == 1) = false := by simpa using h1
  have e2 : (k == 2) = false := by simpa using h2
  have e3 : (k == 3) = false := by simpa using h3
  have e4 : (k == 4) = false := by simpa using h4
  have e5 : (k == 5) = false := by simpa using h5
  have e6 : (k == 6) = false := by simpa using h6
  clear h1 h2 h3 h4 h5 h6
  go_enter Tryd.func39, Tryd.ntmps39
  go_wp2_with fail
  go_ret
  exact ⟨ret_str HV.out.symm, (Below.refl _ w).alloc (Nat.le_refl _) _⟩
theorem refShow_1 (n a b : Int) (t : ByteArray) (w : World) :
    Calls Tryd.prog 39 #[.agg #[.int .i64 1, .int .i64 n, .string t, .int .i64 a, .int .i64 b]] w fun e w' => e = .returned (.string (showS 1 n t a b)) ∧ Below w.heap.size w w' := by
  by_cases hn : n = 1
  · subst hn
    have HV : Hid (showS 1 1 t a b = ⟨#[116, 114, 117, 101]⟩) := by show showS 1 1 t a b = _; simp [showS]
    go_enter Tryd.func39, Tryd.ntmps39
    go_wp2_with fail
    go_ret
    exact ⟨ret_str HV.out.symm, (Below.refl _ w).alloc (Nat.le_refl _) _⟩
  · have HV : Hid (showS 1 n t a b = ⟨#[102, 97, 108, 115, 101]⟩) := by show showS 1 n t a b = _; simp [showS, hn]
    have dn : (n == 1) = false := by simpa using hn
    clear hn
    go_enter Tryd.func39, Tryd.ntmps39
    go_wp2_with fail
    go_ret
    exact ⟨ret_str HV.out.symm, (Below.refl _ w).alloc (Nat.le_refl _) _⟩
theorem refShow_2 (n a b : Int) (t : ByteArray) (hn : I64 n) (w : World) :
    Calls Tryd.prog 39 #[.agg #[.int .i64 2, .int .i64 n, .string t, .int .i64 a, .int .i64 b]] w fun e w' => e = .returned (.string (showS 2 n t a b)) ∧ Below w.heap.size w w' := by
  have HV : Hid (showS 2 n t a b = itoaS n) := by show showS 2 n t a b = _; simp [showS]
  have DN := digits_any n hn
  generalize itoaS n = S at *
  clear hn
  go_enter Tryd.func39, Tryd.ntmps39
  go_wp2_with fail
  go_at_call 88
  refine (DN _).mono ?_
  rintro e w1 ⟨rfl, hb⟩
  go_wp2_with fail
  go_ret
  exact ⟨ret_str HV.out.symm, ((Below.refl _ w).alloc (Nat.le_refl _) _).trans (hb.mono (by simp))⟩
theorem refShow_4 (n a b : Int) (t : ByteArray) (hn : I64 n) (w : World) :
    Calls Tryd.prog 39 #[.agg #[.int .i64 4, .int .i64 n, .string t, .int .i64 a, .int .i64 b]] w fun e w' => e = .returned (.string (showS 4 n t a b)) ∧ Below w.heap.size w w' := by
  have HV : Hid (showS 4 n t a b = itoaS n) := by show showS 4 n t a b = _; simp [showS]
  have DN := digits_any n hn
  generalize itoaS n = S at *
  clear hn
  go_enter Tryd.func39, Tryd.ntmps39
  go_wp2_with fail
  go_at_call 88
  refine (DN _).mono ?_
  rintro e w1 ⟨rfl, hb⟩
  go_wp2_with fail
  go_ret
  exact ⟨ret_str HV.out.symm, ((Below.refl _ w).alloc (Nat.le_refl _) _).trans (hb.mono (by simp))⟩
theorem refShow_3 (n a b : Int) (t : ByteArray) (ht : t.size ≤ 60) (w : World) :
    Calls Tryd.prog 39 #[.agg #[.int .i64 3, .int .i64 n, .string t, .int .i64 a, .int .i64 b]] w fun e w' => e = .returned (.string (showS 3 n t a b)) ∧ Below w.heap.size w w' := by
  have HV : Hid (showS 3 n t a b = ⟨(quoteL t.data.toList).toArray⟩) := by show showS 3 n t a b = _; simp [showS]
  have QA := fun w' => quoteR_any t.data.toList w' (by rw [← Lib.size_eq]; omega)
  rw [show (⟨t.data.toList.toArray⟩ : ByteArray) = t from by cases t; simp] at QA
  generalize (⟨(quoteL t.data.toList).toArray⟩ : ByteArray) = S at *
  clear ht
  go_enter Tryd.func39, Tryd.ntmps39
  go_wp2_with fail
  go_at_call 89
  refine (QA _).mono ?_
  rintro e w1 ⟨rfl, hb⟩
  go_wp2_with fail
  go_ret
  exact ⟨ret_str HV.out.symm, ((Below.refl _ w).alloc (Nat.le_refl _) _).trans (hb.mono (by simp))⟩
theorem refShow_5 (n a b : Int) (t : ByteArray) (ha : I64 a) (hb : I64 b) (w : World) :
    Calls Tryd.prog 39 #[.agg #[.int .i64 5, .int .i64 n, .string t, .int .i64 a, .int .i64 b]] w fun e w' => e = .returned (.string (showS 5 n t a b)) ∧ Below w.heap.size w w' := by
  have HV : Hid (showS 5 n t a b = ⟨#[123]⟩ ++ nameS a b ++ ⟨#[125]⟩) := by show showS 5 n t a b = _; simp [showS]
  have hSz := nameS_size ha hb
  have NA := refName_any a b ha hb
  generalize nameS a b = S at *
  have q1 : (9223372036854775807 < 1 + S.size) = False := eq_false (by omega)
  have q2 : (9223372036854775807 < 1 + S.size + 1) = False := eq_false (by omega)
  have q3 : (9223372036854775807 ≤ 1 + S.size) = False := eq_false (by omega)
  clear hSz ha hb
  go_enter Tryd.func39, Tryd.ntmps39
  go_wp2_with fail
  go_at_call 90
  refine (NA _).mono ?_
  rintro e w1 ⟨rfl, hb⟩
  go_wp2_with fail
  go_ret
  exact ⟨ret_str HV.out.symm, ((Below.refl _ w).alloc (Nat.le_refl _) _).trans (hb.mono (by simp))⟩
theorem refShow_6 (n a b : Int) (t : ByteArray) (ha : I64 a) (hb : I64 b) (w : World) :
    Calls Tryd.prog 39 #[.agg #[.int .i64 6, .int .i64 n, .string t, .int .i64 a, .int .i64 b]] w fun e w' => e = .returned (.string (showS 6 n t a b)) ∧ Below w.heap.size w w' := by
  have HV : Hid (showS 6 n t a b = ⟨#[91]⟩ ++ nameS a b ++ ⟨#[93]⟩) := by show showS 6 n t a b = _; simp [showS]
  have hSz := nameS_size ha hb
  have NA := refName_any a b ha hb
  generalize nameS a b = S at *
  have q1 : (9223372036854775807 < 1 + S.size) = False := eq_false (by omega)
  have q2 : (9223372036854775807 < 1 + S.size + 1) = False := eq_false (by omega)
  have q3 : (9223372036854775807 ≤ 1 + S.size) = False := eq_false (by omega)
  clear hSz ha hb
  go_enter Tryd.func39, Tryd.ntmps39
  go_wp2_with fail
  go_at_call 90
  refine (NA _).mono ?_
  rintro e w1 ⟨rfl, hb⟩
  go_wp2_with fail
  go_ret
  exact ⟨ret_str HV.out.symm, ((Below.refl _ w).alloc (Nat.le_refl _) _).trans (hb.mono (by simp))⟩
theorem refShow_any (k n a b : Int) (t : ByteArray) (hn : I64 n) (ha : I64 a) (hb : I64 b) (ht : k = 3 → t.size ≤ 60) (w : World) :
    Calls Tryd.prog 39 #[.agg #[.int .i64 k, .int .i64 n, .string t, .int .i64 a, .int .i64 b]] w fun e w' => e = .returned (.string (showS k n t a b)) ∧ Below w.heap.size w w' := by
  by_cases h1 : k = 1
  · subst h1; exact refShow_1 n a b t w
  by_cases h2 : k = 2
  · subst h2; exact refShow_2 n a b t hn w
  by_cases h3 : k = 3
  · subst h3; exact refShow_3 n a b t (ht rfl) w
  by_cases h4 : k = 4
  · subst h4; exact refShow_4 n a b t hn w
  by_cases h5 : k = 5
  · subst h5; exact refShow_5 n a b t ha hb w
  by_cases h6 : k = 6
  · subst h6; exact refShow_6 n a b t ha hb w
  exact refShow_no k n a b t ⟨h1, h2, h3, h4, h5, h6⟩ w
end Go.Proofs.YtfaihilehdjfjaaDoor
