/- The law DagOrders answers true whatever the steps and the number are: in which order changes come does not matter.
   Conditions: none beyond the row's own. -/
import Derived.Test.YtjhkcbideddlgaaGreatP32
import Derived.Test.YtjhkcbideddlgaaGreatP1
import Derived.WalkKit
import Derived.ProofKit
import Derived.OpenShut
import Derived.JoinedCond
set_option linter.unusedVariables false
set_option linter.unusedSimpArgs false
namespace Go.Proofs.YtjhkcbideddlgaaGreat
open Go.ChangeShapes Go.WideShapes Go.ChangeAt Go.RowKit Go.Deep
set_option maxRecDepth 100000 in
theorem dagOrders_lifted(os:Os)(started:os.Started)(H:Type)(enc:TypeId×Value→H):
 ReturnsInHanded {} Tryz.checked os 3 .any (Rows.dagOrdersSpec.pre6 enc Tryz.prog Tryz.f3 Rows.dagOrdersRow.domain false) (Rows.dagOrdersSpec.post enc Tryz.prog Tryz.f3 false true false false):=by
 refine returnsInHanded_of_change (C:=Tryz.checked) own started (by kernel_rfl) Tryz.func3
  (ChangeSpec.witness6 (enc:=enc) (C:=Tryz.checked) false ⟨#[],#[.slice none 0 0,.int .i64 0],[]⟩ 8 (by kernel_rfl) (by kernel_rfl) (by kernel_rfl) (by kernel_rfl)) ?_
 intro W base args ds gs before hval0 hW hcnd _;have hval:∀(j:Nat) t v,Tryz.f3.params[j]?=some t→args[j]?=some v→Value.okWide Tryz.prog W .any base t v:=hval0;have hW':=hW;obtain⟨p,q,hA0,hV,rfl,hfz,hnd⟩:=hW
 have hA:DataW.TrodAll enc Tryz.prog W 0 (fun _=>true) true Tryz.f3.params.toList args.toList ds p:=hA0;rw[Tryz.params3]at hA hval;obtain⟨v0,vs0,d0,ds0,p0,q0,hargs,rfl,rfl,h0,r0⟩:=trodAll_cons hA
 obtain⟨v1,vs1,d1,ds1,p1,q1,rfl,rfl,rfl,h1,r1⟩:=trodAll_cons r0
 obtain⟨rfl,rfl,rfl⟩:=trodAll_nil r1
 obtain rfl:args=#[v0,v1]:=by cases args;simp_all
 obtain⟨A0,c0_,l0,rfl,hc0,hm0,hr0,-,hok0⟩:=open_introws Tryz.underlying22 Tryz.underlying72 Tryz.underlying3 (by kernel_rfl) (by kernel_rfl) (hval 0 _ _ rfl rfl) h0
 obtain⟨by_,rfl,rfl,rfl,wb⟩:=open_int Tryz.underlying3 (hval 1 _ _ rfl rfl) h1
 have hmx:maxLen=9223372036854775807:=by simp only[maxLen,Nat.reducePow,Nat.reduceSub]
 rw[hmx]at hm0;refine(dagOrders_walk by_ (wf_i64_bd wb) l0 A0 c0_ W hr0 hok0 (by omega)).mono fun e W' ⟨he,hb⟩=>?_
 subst he;exact law_post laidOut (by kernel_rfl) rfl Tryz.underlying4 rfl ⟨rfl,rfl,rfl⟩ hW' hb
theorem dagOrders_over:Rows.dagOrdersRow.holds Tryz.pinned (OpenSpec.ofChange Rows.dagOrdersSpec) :=
 OpenClaim.holds_of_wide 3 Tryz.f3 rfl rfl rfl rfl rfl rfl rfl ⟨rfl,rfl,rfl,rfl,rfl⟩ rfl rfl rfl rfl rfl (by kernel_rfl) Tryz.func3 (by kernel_rfl)
  (of_decide_eq_true (by kernel_rfl)) (by unfold Func.isWrapper;first|(rw[tA (by decide +kernel)];kernel_rfl)|(rw[sT (by decide +kernel)];exact⟨rfl,rfl⟩))
  (fun os started H enc _=>dagOrders_lifted os started H enc)
theorem dagOrders_proved:Rows.DagOrdersSaid :=
 dagOrders_over
#print axioms dagOrders_proved
end Go.Proofs.YtjhkcbideddlgaaGreat
