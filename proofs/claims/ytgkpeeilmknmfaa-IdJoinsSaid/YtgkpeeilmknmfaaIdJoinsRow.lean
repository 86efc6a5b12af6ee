/- The law IdJoins answers true whatever the three lists are: clocks are joined in any order, and who covers two covers their join.
   Conditions: none beyond the row's own. -/
import Derived.Test.YtgkpeeilmknmfaaIdJoins
import Derived.Test.YtgkpeeilmknmfaaOpenR
import Derived.WalkKit
import Derived.ProofKit
import Derived.OpenShut
import Derived.JoinedCond
namespace Go.Proofs.Ytgkpeeilmknmfaa
open Go.ChangeShapes Go.WideShapes Go.ChangeAt Go.RowKit Go.Deep

set_option maxRecDepth 100000 in
theorem idJoins_lifted (os : Os) (started : os.Started) (H : Type) (enc : TypeId × Value → H) :
    ReturnsInHanded {} Try.checked os 6 .any (Rows.idJoinsSpec.pre6 enc Try.prog Try.f6 Rows.idJoinsRow.domain false) (Rows.idJoinsSpec.post enc Try.prog Try.f6 false true false false) := by
  refine returnsInHanded_of_change (C := Try.checked) own started (by kernel_rfl) Try.func6
    (ChangeSpec.witness6 (enc := enc) (C := Try.checked) false ⟨#[], #[.slice none 0 0, .slice none 0 0, .slice none 0 0], []⟩ 8 (by kernel_rfl) (by kernel_rfl) (by kernel_rfl) (by kernel_rfl)) ?_
  intro W base args ds gs before hval0 hW hcnd _
  have hval : ∀ (j : Nat) t v, Try.f6.params[j]? = some t → args[j]? = some v → Value.okWide Try.prog W .any base t v := hval0
  have hW' := hW
  obtain ⟨p, q, hA0, hV, rfl, hfz, hnd⟩ := hW
  have hA : DataW.TrodAll enc Try.prog W 0 (fun _ => true) true Try.f6.params.toList args.toList ds p := hA0
  rw [Try.params6] at hA hval
  obtain ⟨v0, vs0, d0, ds0, p0, q0, hargs, rfl, rfl, h0, r0⟩ := trodAll_cons hA
  obtain ⟨v1, vs1, d1, ds1, p1, q1, rfl, rfl, rfl, h1, r1⟩ := trodAll_cons r0
  obtain ⟨v2, vs2, d2, ds2, p2, q2, rfl, rfl, rfl, h2, r2⟩ := trodAll_cons r1
  obtain ⟨rfl, rfl, rfl⟩ := trodAll_nil r2
  obtain rfl : args = #[v0, v1, v2] := by cases args; simp_all
  obtain ⟨A0, c0, l0, rfl, hc0, hm0, hr0, -⟩ := open_refs (hval 0 _ _ rfl rfl) h0
  obtain ⟨A1, c1, l1, rfl, hc1, hm1, hr1, -⟩ := open_refs (hval 1 _ _ rfl rfl) h1
  obtain ⟨A2, c2, l2, rfl, hc2, hm2, hr2, -⟩ := open_refs (hval 2 _ _ rfl rfl) h2
  have hmx : maxLen = 9223372036854775807 := by simp only [maxLen, Nat.reducePow, Nat.reduceSub]
  rw [hmx] at hm0 hm1 hm2
  refine (idJoins_walk l0 l1 l2 _ _ _ W ⟨A0, c0, rfl, by omega, hr0⟩ ⟨A1, c1, rfl, by omega, hr1⟩ ⟨A2, c2, rfl, by omega, hr2⟩).mono fun e W' ⟨he, hb⟩ => ?_
  subst he
  exact law_post laidOut (by kernel_rfl) rfl Try.underlying4 rfl ⟨rfl, rfl, rfl⟩ hW' hb

theorem idJoins_over : Rows.idJoinsRow.holds Try.pinned (OpenSpec.ofChange Rows.idJoinsSpec) :=
  OpenClaim.holds_of_wide 6 Try.f6 rfl rfl rfl rfl rfl rfl rfl ⟨rfl, rfl, rfl, rfl, rfl⟩ rfl rfl rfl rfl rfl (by kernel_rfl) Try.func6 (by kernel_rfl)
    (of_decide_eq_true (by kernel_rfl)) (by unfold Func.isWrapper; first | (rw [if_pos (by decide +kernel)]; kernel_rfl) | (rw [if_neg (by decide +kernel)]; exact ⟨rfl, rfl⟩))
    (fun os started H enc _ => idJoins_lifted os started H enc)

theorem idJoins_proved : Rows.IdJoinsSaid :=
  idJoins_over
#print axioms idJoins_proved
end Go.Proofs.Ytgkpeeilmknmfaa
