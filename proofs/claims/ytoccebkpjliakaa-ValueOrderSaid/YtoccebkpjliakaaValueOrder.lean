/- The law ValueOrder answers true at every three values: the comparison of values is a total order that agrees with equality.
   Conditions: none beyond the row's own. -/
import Derived.Test.YtoccebkpjliakaaId
import Derived.Test.YtoccebkpjliakaaOrd
import Derived.Test.YtoccebkpjliakaaOpenV
import Derived.WalkKit
import Derived.ProofKit
import Derived.OpenShut
import Derived.LoopTactic
import Derived.WalkLawsBesides
import Derived.WalkSpells
import Derived.BigQuiet
import Derived.Deep.QuietTactic
import Derived.Deep.RegionHeld3
import Derived.Lib.Hide
import Derived.Deep.DeepFit
namespace Go.Proofs.Ytoccebkpjliakaa
open Go.ChangeShapes Go.WideShapes Go.ChangeAt Go.RowKit

theorem valCheck_yes (k n a b : Int) (t : ByteArray) (h : valueB k n t a b = true) (w : World) :
    Calls Try.prog 12 #[.agg #[.int .i64 k, .int .i64 n, .string t, .int .i64 a, .int .i64 b]] w fun e w' => e = .returned .nilIface ∧ Below w.heap.size w w' := by
  rw [← rangeUnless_true h]; exact valCheck_any k n a b t w
theorem valCheck_no (k n a b : Int) (t : ByteArray) (h : valueB k n t a b = false) (w : World) :
    Calls Try.prog 12 #[.agg #[.int .i64 k, .int .i64 n, .string t, .int .i64 a, .int .i64 b]] w fun e w' => e = .returned (.iface 23 (.int .i64 1)) ∧ Below w.heap.size w w' := by
  rw [← rangeUnless_false h]; exact valCheck_any k n a b t w

/-- one or the other: a letter for what is told -/
theorem valCheck_ex (k n a b : Int) (t : ByteArray) : ∃ r : Value, (r = .nilIface ∨ r = .iface 23 (.int .i64 1)) ∧ ∀ w : World,
    Calls Try.prog 12 #[.agg #[.int .i64 k, .int .i64 n, .string t, .int .i64 a, .int .i64 b]] w fun e w' => e = .returned r ∧ Below w.heap.size w w' := by
  cases h : valueB k n t a b
  · exact ⟨_, .inr rfl, fun w => valCheck_no k n a b t h w⟩
  · exact ⟨_, .inl rfl, fun w => valCheck_yes k n a b t h w⟩

def eqVB (k n a b k' n' a' b' : Int) (t t' : ByteArray) : Bool := decide (k = k' ∧ n = n' ∧ t.toList = t'.toList ∧ a = a' ∧ b = b')
theorem val_eq (k n a b : Int) (t : ByteArray) (k' n' a' b' : Int) (t' : ByteArray) (w : World) :
    (binOp .eql 29 (.agg #[.int .i64 k, .int .i64 n, .string t, .int .i64 a, .int .i64 b]) (.agg #[.int .i64 k', .int .i64 n', .string t', .int .i64 a', .int .i64 b'])).run Try.prog w = .ok (.bool (eqVB k n a b k' n' a' b' t t')) w := by
  go_simp
  unfold eqVB
  by_cases h1 : k = k' <;> by_cases h2 : n = n' <;> by_cases h3 : t.toList = t'.toList <;> by_cases h4 : a = a' <;> by_cases h5 : b = b' <;> simp [h1, h2, h3, h4, h5]

theorem cells3 {W0 w1 : World} (hb : Below W0.heap.size W0 w1) {n : Nat} (hn : W0.heap.size = n + 1 + 1 + 1) :
    (∀ o, w1.cell? ⟨n, o, none⟩ = W0.cell? ⟨n, o, none⟩) ∧ (∀ o, w1.cell? ⟨n + 1, o, none⟩ = W0.cell? ⟨n + 1, o, none⟩) ∧ (∀ o, w1.cell? ⟨n + 1 + 1, o, none⟩ = W0.cell? ⟨n + 1 + 1, o, none⟩) :=
  ⟨fun o => hb.cell (by show n < _; omega), fun o => hb.cell (by show n + 1 < _; omega), fun o => hb.cell (by show n + 1 + 1 < _; omega)⟩

set_option maxRecDepth 100000 in
set_option maxHeartbeats 4000000 in
theorem order_walk (k n a b : Int) (t : ByteArray) (k' n' a' b' : Int) (t' : ByteArray) (k2 n2 a2 b2 : Int) (t2 : ByteArray) (w : World) :
    Calls Try.prog 4 #[.agg #[.int .i64 k, .int .i64 n, .string t, .int .i64 a, .int .i64 b], .agg #[.int .i64 k', .int .i64 n', .string t', .int .i64 a', .int .i64 b'], .agg #[.int .i64 k2, .int .i64 n2, .string t2, .int .i64 a2, .int .i64 b2]] w
      fun e w' => e = .returned (.bool true) ∧ Below w.heap.size w w' := by
  obtain ⟨r1, hr1, c1⟩ := valCheck_ex k n a b t
  obtain ⟨r2, hr2, c2⟩ := valCheck_ex k' n' a' b' t'
  obtain ⟨r3, hr3, c3⟩ := valCheck_ex k2 n2 a2 b2 t2
  have C1 := Lib.hid c1
  have C2 := Lib.hid c2
  have C3 := Lib.hid c3
  clear c1 c2 c3
  rcases hr1 with rfl | rfl
  · rcases hr2 with rfl | rfl
    · rcases hr3 with rfl | rfl
      · have he := val_eq k n a b t k' n' a' b' t'
        have HQ : Hid (eqVB k n a b k' n' a' b' t t' = true ↔ cmpV k n t.toList a b k' n' t'.toList a' b' = 0) := by
          show eqVB k n a b k' n' a' b' t t' = true ↔ _
          rw [cmpV_zero]; simp [eqVB]
        generalize eqVB k n a b k' n' a' b' t t' = q at he HQ
        go_enter Try.func4, Try.ntmps4
        go_wp2_with fail
        refine (valCompare_any _ _ _ _ _ _ _ _ _ _ _).mono ?_
        rintro e w1 ⟨rfl, hb1⟩
        rw [show cmpV 2 1 _ 0 0 2 2 _ 0 0 = -1 from by decide]
        have B1 := hb1
        obtain ⟨x1, y1, z1⟩ := cells3 B1 (n := w.heap.size) (by simp)
        clear hb1
        go_wp2_with fail
        refine (C1.out _).mono ?_
        rintro e w2 ⟨rfl, hb2⟩
        clear x1 y1 z1
        have B2 := B1.trans (hb2.mono B1.size)
        obtain ⟨x2, y2, z2⟩ := cells3 B2 (n := w.heap.size) (by simp)
        clear hb2
        go_wp2_with fail
        refine (C2.out _).mono ?_
        rintro e w3 ⟨rfl, hb3⟩
        clear x2 y2 z2
        have B3 := B2.trans (hb3.mono B2.size)
        obtain ⟨x3, y3, z3⟩ := cells3 B3 (n := w.heap.size) (by simp)
        clear hb3
        go_wp2_with fail
        refine (C3.out _).mono ?_
        rintro e w4 ⟨rfl, hb4⟩
        clear x3 y3 z3
        have B4 := B3.trans (hb4.mono B3.size)
        obtain ⟨x4, y4, z4⟩ := cells3 B4 (n := w.heap.size) (by simp)
        clear hb4
        go_wp2_with fail
        refine (valCompare_any _ _ _ _ _ _ _ _ _ _ _).mono ?_
        rintro e w5 ⟨rfl, hb5⟩
        have bd := cmpV_bd k n a b k' n' a' b' t.toList t'.toList
        generalize hab : cmpV k n t.toList a b k' n' t'.toList a' b' = ab at HQ bd ⊢
        have HAB := Lib.hid hab
        clear hab
        obtain ⟨bd1, bd2⟩ := bd
        clear x4 y4 z4
        have B5 := B4.trans (hb5.mono B4.size)
        obtain ⟨x5, y5, z5⟩ := cells3 B5 (n := w.heap.size) (by simp)
        clear hb5
        go_wp2_with fail
        refine (valCompare_any _ _ _ _ _ _ _ _ _ _ _).mono ?_
        rintro e w6 ⟨rfl, hb6⟩
        rw [show cmpV k' n' t'.toList a' b' k n t.toList a b = -ab from by rw [← HAB.out]; exact cmpV5_tot.neg ⟨k', n', t'.toList, a', b'⟩ ⟨k, n, t.toList, a, b⟩]
        clear x5 y5 z5
        have B6 := B5.trans (hb6.mono B5.size)
        obtain ⟨x6, y6, z6⟩ := cells3 B6 (n := w.heap.size) (by simp)
        clear hb6
        go_wp2_with fail
        refine (valCompare_any _ _ _ _ _ _ _ _ _ _ _).mono ?_
        rintro e w7 ⟨rfl, hb7⟩
        generalize hbc : cmpV k' n' t'.toList a' b' k2 n2 t2.toList a2 b2 = bc
        have HBC := Lib.hid hbc
        clear hbc
        clear x6 y6 z6
        have B7 := B6.trans (hb7.mono B6.size)
        obtain ⟨x7, y7, z7⟩ := cells3 B7 (n := w.heap.size) (by simp)
        clear hb7
        go_wp2_with fail
        refine (valCompare_any _ _ _ _ _ _ _ _ _ _ _).mono ?_
        rintro e w8 ⟨rfl, hb8⟩
        have h3 : Hid (ab ≤ 0 → bc ≤ 0 → cmpV k n t.toList a b k2 n2 t2.toList a2 b2 ≤ 0) := by
          show ab ≤ 0 → bc ≤ 0 → _
          rw [← HAB.out, ← HBC.out]
          exact cmpV5_tot.tr ⟨k, n, t.toList, a, b⟩ ⟨k', n', t'.toList, a', b'⟩ ⟨k2, n2, t2.toList, a2, b2⟩
        generalize cmpV k n t.toList a b k2 n2 t2.toList a2 b2 = ac at h3 ⊢
        clear x7 y7 z7
        have B8 := B7.trans (hb8.mono B7.size)
        obtain ⟨x8, y8, z8⟩ := cells3 B8 (n := w.heap.size) (by simp)
        clear hb8
        cases q
        · have hne : ab ≠ 0 := fun e => by have := HQ.out.2 e; cases this
          have eab : (ab == 0) = false := by simpa using hne
          by_cases hp : 0 < ab
          · clear hne
            go_wp2_with fail
            go_ret
            exact ⟨rfl, (((Below.refl _ _).alloc (Nat.le_refl _) _).alloc (by simp) _).alloc (by simp; omega) _ |>.trans (B8.mono (by simp; omega))⟩
          · by_cases hq : 0 < bc
            · clear hne
              go_wp2_with fail
              go_ret
              exact ⟨rfl, (((Below.refl _ _).alloc (Nat.le_refl _) _).alloc (by simp) _).alloc (by simp; omega) _ |>.trans (B8.mono (by simp; omega))⟩
            · have hac : ac ≤ 0 := h3.out (by omega) (by omega)
              clear hne
              go_wp2_with fail
              go_ret
              exact ⟨rfl, (((Below.refl _ _).alloc (Nat.le_refl _) _).alloc (by simp) _).alloc (by simp; omega) _ |>.trans (B8.mono (by simp; omega))⟩
        · obtain rfl : ab = 0 := HQ.out.1 rfl
          by_cases hq : 0 < bc
          · go_wp2_with fail
            go_ret
            exact ⟨rfl, (((Below.refl _ _).alloc (Nat.le_refl _) _).alloc (by simp) _).alloc (by simp; omega) _ |>.trans (B8.mono (by simp; omega))⟩
          · have hac : ac ≤ 0 := h3.out (by omega) (by omega)
            go_wp2_with fail
            go_ret
            exact ⟨rfl, (((Below.refl _ _).alloc (Nat.le_refl _) _).alloc (by simp) _).alloc (by simp; omega) _ |>.trans (B8.mono (by simp; omega))⟩
      · go_enter Try.func4, Try.ntmps4
        go_wp2_with fail
        refine (valCompare_any _ _ _ _ _ _ _ _ _ _ _).mono ?_
        rintro e w1 ⟨rfl, hb1⟩
        rw [show cmpV 2 1 _ 0 0 2 2 _ 0 0 = -1 from by decide]
        have B1 := hb1
        obtain ⟨x1, y1, z1⟩ := cells3 B1 (n := w.heap.size) (by simp)
        clear hb1
        go_wp2_with fail
        refine (C1.out _).mono ?_
        rintro e w2 ⟨rfl, hb2⟩
        clear x1 y1 z1
        have B2 := B1.trans (hb2.mono B1.size)
        obtain ⟨x2, y2, z2⟩ := cells3 B2 (n := w.heap.size) (by simp)
        clear hb2
        go_wp2_with fail
        refine (C2.out _).mono ?_
        rintro e w3 ⟨rfl, hb3⟩
        clear x2 y2 z2
        have B3 := B2.trans (hb3.mono B2.size)
        obtain ⟨x3, y3, z3⟩ := cells3 B3 (n := w.heap.size) (by simp)
        clear hb3
        go_wp2_with fail
        refine (C3.out _).mono ?_
        rintro e w4 ⟨rfl, hb4⟩
        clear x3 y3 z3
        have B4 := B3.trans (hb4.mono B3.size)
        obtain ⟨x4, y4, z4⟩ := cells3 B4 (n := w.heap.size) (by simp)
        clear hb4
        go_wp2_with fail
        go_ret
        exact ⟨rfl, (((Below.refl _ _).alloc (Nat.le_refl _) _).alloc (by simp) _).alloc (by simp; omega) _ |>.trans (B4.mono (by simp; omega))⟩
    · go_enter Try.func4, Try.ntmps4
      go_wp2_with fail
      refine (valCompare_any _ _ _ _ _ _ _ _ _ _ _).mono ?_
      rintro e w1 ⟨rfl, hb1⟩
      rw [show cmpV 2 1 _ 0 0 2 2 _ 0 0 = -1 from by decide]
      have B1 := hb1
      obtain ⟨x1, y1, z1⟩ := cells3 B1 (n := w.heap.size) (by simp)
      clear hb1
      go_wp2_with fail
      refine (C1.out _).mono ?_
      rintro e w2 ⟨rfl, hb2⟩
      clear x1 y1 z1
      have B2 := B1.trans (hb2.mono B1.size)
      obtain ⟨x2, y2, z2⟩ := cells3 B2 (n := w.heap.size) (by simp)
      clear hb2
      go_wp2_with fail
      refine (C2.out _).mono ?_
      rintro e w3 ⟨rfl, hb3⟩
      clear x2 y2 z2
      have B3 := B2.trans (hb3.mono B2.size)
      obtain ⟨x3, y3, z3⟩ := cells3 B3 (n := w.heap.size) (by simp)
      clear hb3
      go_wp2_with fail
      refine (C3.out _).mono ?_
      rintro e w4 ⟨rfl, hb4⟩
      clear x3 y3 z3
      have B4 := B3.trans (hb4.mono B3.size)
      obtain ⟨x4, y4, z4⟩ := cells3 B4 (n := w.heap.size) (by simp)
      clear hb4
      go_wp2_with fail
      go_ret
      exact ⟨rfl, (((Below.refl _ _).alloc (Nat.le_refl _) _).alloc (by simp) _).alloc (by simp; omega) _ |>.trans (B4.mono (by simp; omega))⟩
  · go_enter Try.func4, Try.ntmps4
    go_wp2_with fail
    refine (valCompare_any _ _ _ _ _ _ _ _ _ _ _).mono ?_
    rintro e w1 ⟨rfl, hb1⟩
    rw [show cmpV 2 1 _ 0 0 2 2 _ 0 0 = -1 from by decide]
    have B1 := hb1
    obtain ⟨x1, y1, z1⟩ := cells3 B1 (n := w.heap.size) (by simp)
    clear hb1
    go_wp2_with fail
    refine (C1.out _).mono ?_
    rintro e w2 ⟨rfl, hb2⟩
    clear x1 y1 z1
    have B2 := B1.trans (hb2.mono B1.size)
    obtain ⟨x2, y2, z2⟩ := cells3 B2 (n := w.heap.size) (by simp)
    clear hb2
    go_wp2_with fail
    refine (C2.out _).mono ?_
    rintro e w3 ⟨rfl, hb3⟩
    clear x2 y2 z2
    have B3 := B2.trans (hb3.mono B2.size)
    obtain ⟨x3, y3, z3⟩ := cells3 B3 (n := w.heap.size) (by simp)
    clear hb3
    go_wp2_with fail
    refine (C3.out _).mono ?_
    rintro e w4 ⟨rfl, hb4⟩
    clear x3 y3 z3
    have B4 := B3.trans (hb4.mono B3.size)
    obtain ⟨x4, y4, z4⟩ := cells3 B4 (n := w.heap.size) (by simp)
    clear hb4
    go_wp2_with fail
    go_ret
    exact ⟨rfl, (((Below.refl _ _).alloc (Nat.le_refl _) _).alloc (by simp) _).alloc (by simp; omega) _ |>.trans (B4.mono (by simp; omega))⟩

set_option maxRecDepth 100000 in
theorem order_lifted (os : Os) (started : os.Started) (H : Type) (enc : TypeId × Value → H) :
    ReturnsInHanded {} Try.checked os 4 .any (Rows.valueOrderSpec.pre6 enc Try.prog Try.f4 Rows.valueOrderRow.domain false) (Rows.valueOrderSpec.post enc Try.prog Try.f4 false true false false) := by
  refine returnsInHanded_of_change (C := Try.checked) own started (by kernel_rfl) Try.func4
    (ChangeSpec.witness6 (enc := enc) (C := Try.checked) false ⟨#[], #[.agg #[.int .i64 0, .int .i64 0, .string ⟨#[]⟩, .int .i64 0, .int .i64 0], .agg #[.int .i64 0, .int .i64 0, .string ⟨#[]⟩, .int .i64 0, .int .i64 0], .agg #[.int .i64 0, .int .i64 0, .string ⟨#[]⟩, .int .i64 0, .int .i64 0]], []⟩ 8 (by kernel_rfl) (by kernel_rfl) (by kernel_rfl) (by kernel_rfl)) ?_
  intro W base args ds gs before hval0 hW hcnd _
  have hval : ∀ (j : Nat) t v, Try.f4.params[j]? = some t → args[j]? = some v → Value.okWide Try.prog W .any base t v := hval0
  have hW' := hW
  obtain ⟨p, q, hA0, hV, rfl, hfz, hnd⟩ := hW
  have hA : DataW.TrodAll enc Try.prog W 0 (fun _ => true) true Try.f4.params.toList args.toList ds p := hA0
  rw [Try.params4] at hA hval
  obtain ⟨v0, vs0, d0, ds0, p0, q0, hargs, rfl, rfl, h0, r0⟩ := trodAll_cons hA
  obtain ⟨v1, vs1, d1, ds1, p1, q1, rfl, rfl, rfl, h1, r1⟩ := trodAll_cons r0
  obtain ⟨v2, vs2, d2, ds2, p2, q2, rfl, rfl, rfl, h2, r2⟩ := trodAll_cons r1
  obtain ⟨rfl, rfl, rfl⟩ := trodAll_nil r2
  obtain rfl : args = #[v0, v1, v2] := by cases args; simp_all
  obtain ⟨k, n, t, a, b, rfl, _, _, _, _, _, rfl, rfl⟩ := open_value (hval 0 _ _ rfl rfl) h0
  obtain ⟨k', n', t', a', b', rfl, _, _, _, _, _, rfl, rfl⟩ := open_value (hval 1 _ _ rfl rfl) h1
  obtain ⟨k2, n2, t2, a2, b2, rfl, _, _, _, _, _, rfl, rfl⟩ := open_value (hval 2 _ _ rfl rfl) h2
  refine (order_walk k n a b t k' n' a' b' t' k2 n2 a2 b2 t2 W).mono fun e W' ⟨he, hb⟩ => ?_
  subst he
  exact law_post laidOut (by kernel_rfl) rfl Try.underlying4 rfl ⟨rfl, rfl, rfl⟩ hW' hb

theorem order_over : Rows.valueOrderRow.holds Try.pinned (OpenSpec.ofChange Rows.valueOrderSpec) :=
  OpenClaim.holds_of_wide 4 Try.f4 rfl rfl rfl rfl rfl rfl rfl ⟨rfl, rfl, rfl, rfl, rfl⟩ rfl rfl rfl rfl rfl (by kernel_rfl) Try.func4 (by kernel_rfl)
    (of_decide_eq_true (by kernel_rfl)) (by unfold Func.isWrapper; first | (rw [if_pos (by decide +kernel)]; kernel_rfl) | (rw [if_neg (by decide +kernel)]; exact ⟨rfl, rfl⟩))
    (fun os started H enc _ => order_lifted os started H enc)

theorem order_proved : Rows.ValueOrderSaid :=
  order_over
#print axioms order_proved
end Go.Proofs.Ytoccebkpjliakaa
