/- The card of StateAll: the law answers true at any changes: all that comes of them, place by place, and its text, are as the document says; the listed variables (the error type and three tables of numbers) are tied to the program's text.
   Conditions: none beyond the row's own. -/
import Derived.Test.YtmpkejflgpodkaaGreatDoorP30
import Derived.SevenTiedAt
set_option linter.unusedVariables false
set_option linter.unusedSimpArgs false
namespace Go.Proofs.YtmpkejflgpodkaaGreatDoor
open Go.ChangeShapes Go.WideShapes Go.ChangeAt Go.RowKit Go.Deep Go.Proofs.Tryz
set_option maxRecDepth 100000 in
theorem reads_(os:Os){H:Type}(enc:TypeId×Value→H):∃places,DataW.whole enc prog ((laidWorld os).forCall (fun _ _=>0) ⟨#[],#[.slice none 0 0],[]⟩).memory Tryz.f5.params.toList Rows.stateAllSpec.vars false #[Value.slice none 0 0].toList 8=some ([.nil],[],places) :=
 ⟨[],by kernel_rfl⟩
set_option maxRecDepth 100000 in
theorem lifted_(os:Os)(started:os.Started)(H:Type)(enc:TypeId×Value→H)(F:Stop.Interp): ReturnsInHanded {} Tryz.checked os 5 .any ((OpenSpec.ofChange Rows.stateAllSpec).preRow enc prog Tryz.f5 Rows.stateAllRow.domain false Rows.stateAllRow.laid) (((OpenSpec.ofChange Rows.stateAllSpec).at F).post enc prog Tryz.f5 false true false false):=by obtain⟨places,hx⟩:=reads_ os enc;refine returnsInHanded_of_row (C:=Tryz.checked) (s:=OpenSpec.ofChange Rows.stateAllSpec) own started QQ func5 (witness_row_at (enc:=enc) (C:=Tryz.checked) false (laidWorld os) #[.slice none 0 0] rfl QQ QQ QQ (OpenSpec.preRow_of_cond 8 hx QQ (fun k hk=>by cases hk) QQ (laidWorld_met os _))) ?_;intro W base args ds gs before hval0 hW _ _ _ hL _ _;have hval:∀(j:Nat) t v,Tryz.f5.params[j]?=some t→args[j]?=some v→Value.okWide prog W .any base t v:=hval0;have hE:=handle_of_laid hL;have hW':=hW;obtain⟨p,q,hA0,hV,rfl,hfz,hnd⟩:=hW;have hA:DataW.TrodAll enc prog W 0 (fun _=>true) true Tryz.f5.params.toList args.toList ds p:=hA0;rw[Tryz.params5]at hA hval;obtain⟨v0,vs0,d0,ds0,p0,q0,hargs,rfl,rfl,h0,r0⟩:=trodAll_cons hA;obtain⟨rfl,rfl,rfl⟩:=trodAll_nil r0;obtain rfl:args=#[v0]:=(by cases args;simp_all);obtain⟨A0,c0,l0,rfl,hl0,hr0,hv0⟩:=open_chs (hval 0 _ _ rfl rfl) h0;refine(stateAll_walk l0 A0 c0 W hl0 hr0 hv0 hE (powT_of_laid hL)).mono fun e W' ⟨he,hb⟩=>?_;subst he;exact law_post laidOut QQ rfl underlying4 rfl ⟨rfl,rfl,rfl⟩ hW' hb
theorem said_:Rows.StateAllSaid :=
 OpenClaim.holds_of_cond 5 Tryz.f5 rfl rfl rfl rfl rfl rfl rfl ⟨rfl,rfl,rfl,rfl,rfl⟩ rfl rfl rfl rfl rfl QQ func5 QQ
  (of_decide_eq_true QQ) (by unfold Func.isWrapper;first|(rw[tC (by decide +kernel)];kernel_rfl)|(rw[sT (by decide +kernel)];exact⟨rfl,rfl⟩))
  (fun os started H enc _ F=>by rw[OpenClaim.pre_eq_preRow];exact lifted_ os started H enc F)
theorem plain_ (f : FuncId) (fn : Func) (hf : Tryz.pinned.checked.prog.funcNamed "commonbook/booklaw2.StateAll" = some f) (hfn : Tryz.pinned.checked.prog.funcs[f]? = some fn) : true=Tryz.pinned.checked.prog.looks []∧∀(j:Nat) t,fn.params[j]?=some t→Tryz.pinned.checked.prog.wantsStandIn t=false:=by obtain rfl : f = 5 := tJ ((show prog.funcNamed "commonbook/booklaw2.StateAll" = some 5 by kernel_rfl).symm.trans hf) |>.symm;obtain rfl:fn=Tryz.f5:=(tJ (func5.symm.trans hfn)).symm;refine⟨by kernel_rfl,fun j t ht=>?_⟩;rw[Tryz.params5]at ht;have hm:=Array.mem_of_getElem? ht;simp only[List.mem_toArray,sR,uJ,or_false]at hm;obtain rfl:t=22:=hm;exact(show prog.wantsStandIn 22=false by kernel_rfl)
theorem stateAll_card:Rows.StateAllCardSaid :=
 Claim7.holds_tied_plain_at .later [] _ _ _ _ said_ (fun _ h=>by cases h) QQ (fun _ h=>by cases h) stateAll_row_tie rfl ⟨rfl,rfl⟩ QQ rfl plain_ QQ
#print axioms stateAll_card
end Go.Proofs.YtmpkejflgpodkaaGreatDoor
