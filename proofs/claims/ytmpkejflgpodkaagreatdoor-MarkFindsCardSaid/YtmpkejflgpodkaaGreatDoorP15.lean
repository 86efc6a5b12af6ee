/- Plain: whether a change fits does not hang on the order in which the ops before it are known. -/
import Derived.Test.YtmpkejflgpodkaaGreatDoorP14
import Derived.Test.YtmpkejflgpodkaaGreatDoorP0
import Derived.Test.YtmpkejflgpodkaaGreatDoorP11
import Derived.Test.YtmpkejflgpodkaaGreatDoorP12
import Derived.Test.YtmpkejflgpodkaaGreatDoorP6
import Derived.Deep.MidRow
import Derived.Deep.DeepCutAuto
import Derived.Deep.CutBlock
set_option maxHeartbeats 8000000
set_option maxRecDepth 20000
set_option linter.unusedVariables false
set_option linter.unusedSimpArgs false
namespace Go.Proofs.YtmpkejflgpodkaaGreatDoor
open Go.ChangeShapes Go.WideShapes Go.ChangeAt Go.RowKit
section
open Go.RowKit
theorem qY:∀ {K:List OpI},(K.map Prod.snd).Nodup→∀ {x y:OpI},x∈K→y∈K→x.2=y.2→x=y
 | [],_,_,_,hx,_,_=>by cases hx
 |z::K,hn,x,y,hx,hy,h=>by
  rw[sT,tN]at hn;rcases sK.1 hx with hx|hx<;>rcases sK.1 hy with hy|hy
  ·rw[hx,hy]
  ·exact absurd (sH.2 ⟨y,hy,h.symm.trans (congrArg Prod.snd hx)⟩) hn.1
  ·exact absurd (sH.2 ⟨x,hx,h.trans (congrArg Prod.snd hy)⟩) hn.1
  ·exact qY hn.2 hx hy h
theorem lookP_perm{K K':List OpI}(hp:K.Perm K')(hn:(K.map Prod.snd).Nodup)(r:Rf):cE K r=cE K' r:=by
 unfold cE;cases h:K.find? (fun x=>decide (x.2=r)) with
 |none =>
  symm;rw[uR]at h ⊢;exact fun x hx=>h x (hp.mem_iff.2 hx)
 |some y =>
  have h1:=uB h;have h2:y.2=r:=by simpa using vR h
  cases h':K'.find? (fun x=>decide (x.2=r)) with
  |none=>exact absurd (by simpa using h2) (uR.1 h' y (hp.mem_iff.1 h1))
  |some z =>
   have h3:=uB h';have h4:z.2=r:=by simpa using vR h'
   rw[qY hn h1 (hp.mem_iff.2 h3) (h2.trans h4.symm)]
theorem mayP_perm{K K':List OpI}(hp:K.Perm K')(hn:(K.map Prod.snd).Nodup)(x:OpI):cU x K=cU x K':=by
 have h:=lookP_perm hp hn;have h1:eR x K=eR x K':=by unfold eR;rw[h]
 have h2:dA x K=dA x K':=by unfold dA;rw[h]
 have h3:bM x K=bM x K':=by funext p;unfold bM;rw[h]
 unfold cU;rw[h1,h2,h3]
theorem fitOps_perm:∀(l:List OpI) {K K':List OpI},K.Perm K'→((K++l).map Prod.snd).Nodup→dC l K=dC l K'
 | [],_,_,_,_=>rfl
 |x::l,K,K',hp,hn=>by
  have hk:(K.map Prod.snd).Nodup:=by rw[sQ]at hn;exact hn.sublist (List.sublist_append_left _ _)
  rw[dC,dC,mayP_perm hp hk,fitOps_perm l (hp.append_right [x]) (by simpa using hn)]
def dT(L:List ChD)(r:Rf):List OpI:=match aW L r with|some c=>c.opsI|none=>[]
theorem dX{L:List ChD}(hn:(aB L).Nodup){c:ChD}(hc:c∈L):aW L c.rf=some c:=by
 cases h:aW L c.rf with
 |none=>exact absurd (cD hc) (cC.1 h)
 |some d =>
  obtain⟨h1,h2⟩:=cM h
  congr 1;obtain⟨i,hi⟩:=xH hc
  obtain⟨j,hj⟩:=xH h1
  have e1:(aB L)[i]?=some c.rf:=by simp[aB,hi]
  have e2:(aB L)[j]?=some c.rf:=by simp[aB,hj,h2]
  obtain⟨l1,e1⟩:=sF.1 e1
  obtain⟨l2,e2⟩:=sF.1 e2
  have hij:i=j:=(List.getElem_inj hn).1 (e1.trans e2.symm);subst hij;exact(tF (hi.symm.trans hj)).symm
theorem kD{α:Type}: ∀ {a b:List α},a.Nodup→b.Nodup→(∀x,x∈a↔x∈b)→a.Perm b
 | [],b,_,_,h=>by
   cases b with
   |nil=>exact vP _
   |cons y b=>exact absurd ((h y).2 (tA ..)) (by simp)
 |x::a,b,ha,hb,h=>by
  obtain⟨s,t,rfl⟩:=vH ((h x).1 (tA ..))
  have hp:(s++x::t).Perm (x::(s++t)):=vU;have hb2:=hp.nodup_iff.1 hb;refine(List.Perm.cons x (kD (tN.1 ha).2 (tN.1 hb2).2 fun y=>?_)).trans hp.symm
  have hy:=(h y).trans hp.mem_iff;rw[sK,sK]at hy;constructor
  ·intro hm;rcases hy.1 (.inr hm) with e|e
   ·exact absurd (e▸hm) (tN.1 ha).1
   ·exact e
  ·intro hm;rcases hy.2 (.inr hm) with e|e
   ·exact absurd (e▸hm) (tN.1 hb2).1
   ·exact e
theorem cH{α β:Type}{f g:α→List β}: ∀ {l:List α},(∀x∈l,f x=g x)→l.flatMap f=l.flatMap g
 | [],_=>rfl
 |x::l,h=>by rw[tM,tM,h x (tA ..),cH fun y hy=>h y (tS _ hy)]
theorem flatMap_sub{α β:Type}(f:α→List β){l m:List α}(h:l.Sublist m):(l.flatMap f).Sublist (m.flatMap f):=by
 induction h with
 |slnil=>exact List.Sublist.refl _
 |cons a h ih=>rw[tM];exact ih.trans (List.sublist_append_right _ _)
 |cons_cons a h ih=>rw[tM,tM];exact(List.Sublist.refl _).append ih
theorem jV{L:List ChD}(hn:(aB L).Nodup){S:List Rf}(hs:S.Nodup)(hsub:∀r∈S,r∈aB L):(S.flatMap (dT L)).Perm (bX L S):=by
 unfold bX;have e:(L.filter fun c=>decide (c.rf∈S)).flatMap ChD.opsI=((L.filter fun c=>decide (c.rf∈S)).map ChD.rf).flatMap (dT L):=by
  rw[List.flatMap_map];refine cH fun c hc=>?_
  unfold dT;rw[dX hn (uH.1 hc).1]
 rw[e];refine List.Perm.flatMap_right _ (kD hs ?_ fun r=>?_)
 ·exact hn.sublist ((xK).map _)
 ·constructor
  ·intro hr;obtain⟨c,hc,rfl⟩:=sH.1 (hsub r hr)
   exact sH.2 ⟨c,uH.2 ⟨hc,by simpa using hr⟩,rfl⟩
  ·intro hr;obtain⟨c,hc,rfl⟩:=sH.1 hr
   simpa using (uH.1 hc).2
theorem mD{L:List ChD}(hb:Bk L){S:List Rf}(hs:S.Nodup)(hsub:∀r∈S,r∈aB L):((S.flatMap (dT L)).map Prod.snd).Nodup:=by
 rw[((jV hb.nodup hs hsub).map Prod.snd).nodup_iff];refine hb.ids.sublist (List.Sublist.map _ ?_);unfold bX;exact flatMap_sub _ xK
theorem fits_no1{L:List ChD}{c:ChD}{S:List Rf}(hS:∀r,r∈S↔r∈aQ L c.deps){r:Rf}(hr:r∈S)(h1:r.1=c.a)(h2:c.s≤r.2):bS L c=false:=by
 unfold bS eU;have:fB c (aQ L c.deps)=false:=by
  unfold fB;rw[List.all_eq_false];exact⟨r,(hS r).1 hr,by simp[h1,h2]⟩
 rw[this];rfl
theorem fits_no2{L:List ChD}{c:ChD}{S:List Rf}(hn:(aB L).Nodup)(hs:S.Nodup)(hS:∀r,r∈S↔r∈aQ L c.deps){r:Rf}(hr:r∈S){x:OpI}(hx:x∈dT L r)(h:c.st≤x.2.1):bS L c=false:=by
 have e:bS L c=eU L c S:=(iZ hS).symm;rw[e];unfold eU;have:(bX L S).all (fun x=>decide (x.2.1<c.st))=false:=by
  rw[List.all_eq_false];refine⟨x,(jV hn hs fun r hr=>bQ ((hS r).1 hr)).mem_iff.1 (vL.2 ⟨r,hr,hx⟩),?_⟩
  simp;omega
 rw[this];simp
theorem prevOk_mem(c:ChD)(S:List Rf):iL c S=!(decide (1<c.s)&&!decide ((c.a,c.s-1)∈S)):=by
 unfold iL;congr 3;rw[xZ];simp only[wR,tB,decide_eq_true_eq];constructor
 ·rintro⟨r,hr,h1,h2⟩;rw[←h1,←h2];exact hr
 ·intro h;exact⟨_,h,rfl,rfl⟩
theorem fits_yes{L:List ChD}{c:ChD}{S:List Rf}{K:List OpI}(hb:Bk L)(hs:S.Nodup)(hS:∀r,r∈S↔r∈aQ L c.deps)(hK:K.Perm (S.flatMap (dT L)))
 (h1:∀r∈S,¬(r.1=c.a∧c.s≤r.2)) (h2:∀x∈K,x.2.1<c.st) :
 bS L c=(!(decide (1<c.s)&&!decide ((c.a,c.s-1)∈S))&&dC c.opsI K):=by
 have e:bS L c=eU L c S:=(iZ hS).symm;have hsub:∀r∈S,r∈aB L:=fun r hr=>bQ ((hS r).1 hr)
 have hp:=hK.trans (jV hb.nodup hs hsub);rw[e];unfold eU;have e1:fB c S=true:=by
  unfold fB;rw[tP];intro r hr;have:=h1 r hr
  simp only[Bool.not_eq_true',Bool.and_eq_false_iff,decide_eq_false_iff_not];by_cases hh:r.1=c.a
  ·exact .inr fun h=>this ⟨hh,h⟩
  ·exact .inl hh
 have e2:(bX L S).all (fun x=>decide (x.2.1<c.st))=true:=by
  rw[tP];exact fun x hx=>decide_eq_true (h2 x (hp.mem_iff.2 hx))
 have hids:((K++c.opsI).map Prod.snd).Nodup:=by
  rw[sQ,tQ];refine⟨(hK.map Prod.snd).nodup_iff.2 (mD hb hs hsub),iM _ _ _,fun a ha b hb' hab=>?_⟩
  obtain⟨x,hx,rfl⟩:=sH.1 ha
  obtain⟨y,hy,rfl⟩:=sH.1 hb'
  have q1:=h2 x hx;have q2:=(cR hy).2.1;rw[hab]at q1;omega
 rw[e1,e2,prevOk_mem,fitOps_perm c.opsI hp hids];simp
/-! ### what a change's ops keep to -/
theorem mR{o:OpD}(h:fC o=0):1≤o.k∧(o.k=2→o.vk=5∨o.vk=6):=by
 unfold fC opE at h;obtain⟨h1,h⟩:=aR h (by omega)
 obtain⟨h2,h⟩:=aR h (by omega)
 obtain⟨h3,h⟩:=aR h (by omega)
 by_cases h4:fE o.l≠0
 ·rw[if_pos h4]at h;exact absurd h h4
 rw[if_neg h4]at h;refine⟨by omega,fun hk=>?_⟩
 unfold nN at h;obtain⟨_,h⟩:=aR h (by omega)
 obtain⟨_,h⟩:=aR h (by omega)
 obtain⟨h5,_⟩:=aR h (by omega)
 have h6:gZ o.k o.vk o.va o.vb=true:=by
  cases hb:gZ o.k o.vk o.va o.vb with
  |true=>rfl
  |false=>exact absurd hb h5
 rw[hk]at h6;unfold gZ eK at h6;simp at h6;omega
theorem id64{a b:Int}(h:idB a b=true):I64R (a,b):=by
 simp only[idB,bK,cQ,qW,kF,xY,tB,decide_eq_true_eq]at h;exact⟨by show _≤a∧a≤_;omega,by show _≤b∧b≤_;omega⟩
theorem opE_ids{o:OpD}(h:fC o=0):I64R (o.on,o.oa)∧I64R (o.en,o.ea)∧∀p∈o.l,I64R p:=by
 unfold fC opE at h;obtain⟨h1,h⟩:=aR h (by omega)
 obtain⟨h2,h⟩:=aR h (by omega)
 have q1:idB o.on o.oa=true:=by
  cases hb:idB o.on o.oa with
  |true=>rfl
  |false=>exact absurd (.inr (.inr (.inl hb))) h1
 have q2:idB o.en o.ea=true:=by
  cases hb:idB o.en o.ea with
  |true=>rfl
  |false=>exact absurd (.inr (.inr (.inr hb))) h1
 refine⟨id64 q1,id64 q2,fun p hp=>?_⟩
 have q3:o.l.all (fun r=>cQ r.1 r.2)=true:=by
  cases hb:o.l.all (fun r=>cQ r.1 r.2) with
  |true=>rfl
  |false=>exact absurd hb h2
 have:=tP.1 q3 p hp
 exact id64 (by unfold idB;rw[this,Bool.or_true])
end
section
open Go.RowKit
def aH(L:List ChD):List OpI:=L.flatMap ChD.opsI
def jL(obj el:Rf)(x:OpI):Bool:=x.1.ins&&decide (eG x=obj)&&decide (elP x=el)
def dN(K:List OpI)(obj el:Rf):List Rf:=(K.filter (jL obj el)).map Prod.snd
def kM(l:List Rf)(r:Rf):List Rf:=l.takeWhile (fun q=>aP r q)++r::l.dropWhile (fun q=>aP r q)
def dH(K:List OpI)(obj el:Rf):List Rf:=(dN K obj el).foldl kM []
def iU(l:List Rf):Prop:=l.Pairwise fun x y=>aP y x=true
def iF(K:List OpI)(obj:Rf):Nat→Rf→List Rf
 |0,_=>[]
 |n+1,el=>(dH K obj el).flatMap fun k=>k::iF K obj n k
theorem putD_mem{l:List Rf}{r q:Rf}: q∈kM l r↔q=r∨q∈l:=by
 unfold kM;rw[sI,sK];have:=uV (p:=fun q=>aP r q) (l:=l)
 constructor
 ·rintro(h|h|h)
  ·exact .inr (by rw[←this];exact tE _ h)
  ·exact .inl h
  ·exact .inr (by rw[←this];exact tT _ h)
 ·rintro(h|h)
  ·exact .inr (.inl h)
  ·rw[←this]at h;rcases sI.1 h with h|h
   ·exact .inl h
   ·exact .inr (.inr h)
theorem putD_len(l:List Rf)(r:Rf):(kM l r).length=l.length+1:=by
 unfold kM;rw[sG,sW];have:=congrArg List.length (uV (p:=fun q=>aP r q) (l:=l))
 rw[sG]at this;omega
theorem putD_fall{l:List Rf}{r:Rf}(h:iU l)(hm:r∉l):iU (kM l r):=by
 unfold kM;have hs:=uV (p:=fun q=>aP r q) (l:=l);have h1:iU (l.takeWhile (fun q=>aP r q)):=h.sublist (List.takeWhile_sublist _);have h2:iU (l.dropWhile (fun q=>aP r q)):=h.sublist (List.dropWhile_sublist _);have h3:∀x∈l.dropWhile (fun q=>aP r q),aP x r=true:=by
  intro x hx;cases hd:l.dropWhile (fun q=>aP r q) with
  |nil=>rw[hd]at hx;cases hx
  |cons a t =>
   have ha:aP r a=false:=by
    have:=List.head_dropWhile_not (fun q=>aP r q) (l:=l) (by rw[hd];simp)
    simp only[hd,List.head_cons]at this;simpa using this
   have hal:a∈l:=by rw[←hs,hd];simp
   have har:aP a r=true:=by
    rcases jB (a:=a) (b:=r) (fun e=>hm (e▸hal)) with h|h
    ·exact h
    ·rw[ha]at h;cases h
   rw[hd]at hx h2;rcases sK.1 hx with rfl|hx
   ·exact har
   ·exact gX ((vO.1 h2).1 x hx) har
 rw[iU,List.pairwise_append];refine⟨h1,vO.2 ⟨h3,h2⟩,fun a ha b hb=>?_⟩
 have har:aP r a=true:=nM (p:=fun q=>aP r q) ha;rcases sK.1 hb with rfl|hb
 ·exact har
 ·exact gX (h3 b hb) har
theorem qP:∀(l out:List Rf),iU out→(out++l).Nodup→iU (l.foldl kM out)∧(∀q,q∈l.foldl kM out↔q∈out∨q∈l)∧(l.foldl kM out).length=out.length+l.length
 | [],out,h,_=>⟨h,fun q=>by simp,by simp⟩
 |r::l,out,h,hn=>by
  have hr:r∉out:=fun hm=>by
   rw[tQ]at hn;exact hn.2.2 r hm r (tA ..) rfl
  have hn2:(kM out r++l).Nodup:=by
   rw[tQ]at hn ⊢;obtain⟨a,b,c⟩:=hn
   rw[tN]at b;refine⟨(putD_fall h hr).imp (fun hx e=>by rw[e,dR]at hx;cases hx),b.2,fun x hx y hy e=>?_⟩
   rcases putD_mem.1 hx with rfl|hx
   ·exact b.1 (e▸hy)
   ·exact c x hx y (tS _ hy) e
  obtain⟨a,b,c⟩:=qP l (kM out r) (putD_fall h hr) hn2
  refine⟨a,fun q=>?_,by rw[uZ,c,putD_len,sW];omega⟩
  rw[uZ,b q,putD_mem,sK];constructor
  ·rintro((h|h)|h)
   ·exact .inr (.inl h)
   ·exact .inl h
   ·exact .inr (.inr h)
  ·rintro(h|h|h)
   ·exact .inl (.inr h)
   ·exact .inl (.inl h)
   ·exact .inr h
structure KTree(K:List OpI)(N:Int):Prop where
 nd:(K.map Prod.snd).Nodup
 up:∀x∈K,x.1.ins=true→(elP x).1<x.2.1
 pos:∀x∈K,1≤x.2.1
 top:∀x∈K,x.2.1≤N
section
variable{K:List OpI}{N:Int}{obj:Rf}
theorem kidIds_mem{el r:Rf}: r∈dN K obj el↔∃x∈K,jL obj el x=true∧x.2=r:=by
 unfold dN;rw[sH];constructor
 ·rintro⟨x,hx,e⟩
  obtain⟨h1,h2⟩:=uH.1 hx
  exact⟨x,h1,h2,e⟩
 ·rintro⟨x,h1,h2,e⟩
  exact⟨x,uH.2 ⟨h1,h2⟩,e⟩
theorem jG{el:Rf}{x:OpI}: jL obj el x=true↔x.1.ins=true∧eG x=obj∧elP x=el:=by
 unfold jL;simp[and_assoc]
theorem KTree.nodup(h:KTree K N)(el:Rf):(dN K obj el).Nodup:=h.nd.sublist (xK.map _)
theorem KTree.kids(h:KTree K N)(el:Rf):iU (dH K obj el)∧(∀q,q∈dH K obj el↔q∈dN K obj el)∧(dH K obj el).length=(dN K obj el).length:=by
 obtain⟨a,b,c⟩:=qP (dN K obj el) [] List.Pairwise.nil (by rw[wZ];exact h.nodup el)
 exact⟨a,fun q=>by unfold dH;rw[b q];simp,by unfold dH;rw[c];simp⟩
theorem kidIds_len(el:Rf):(dN K obj el).length≤K.length:=by
 unfold dN;rw[sP];exact vC _ _
theorem KTree.kid(h:KTree K N){el k:Rf}(hk:k∈dH K obj el):el.1<k.1∧k.1≤N∧1≤k.1∧∃x∈K,jL obj el x=true∧x.2=k:=by
 obtain⟨x,hx,hi,rfl⟩:=kidIds_mem.1 (((h.kids el).2.1 k).1 hk)
 obtain⟨h1,h2,h3⟩:=jG.1 hi
 exact⟨by rw[←h3];exact h.up x hx h1,h.top x hx,h.pos x hx,x,hx,hi,rfl⟩
theorem KTree.stable(h:KTree K N):∀(n m:Nat) (el:Rf),N-el.1<n→N-el.1<m→iF K obj n el=iF K obj m el
 |0,m,el,h1,_=>by
  have hk:dH K obj el=[]:=List.eq_nil_iff_forall_not_mem.2 fun k hk=>by have:=h.kid hk;omega
  cases m with
  |zero=>rfl
  |succ m=>simp[iF,hk]
 |n+1,0,el,_,h2=>by
  have hk:dH K obj el=[]:=List.eq_nil_iff_forall_not_mem.2 fun k hk=>by have:=h.kid hk;omega
  simp[iF,hk]
 |n+1,m+1,el,h1,h2=>by
  unfold iF;exact cH fun k hk=>by
   have:=h.kid hk
   rw[KTree.stable h n m k (by omega) (by omega)]
def eP(K:List OpI)(obj:Rf)(N:Int)(el:Rf):List Rf:=iF K obj ((N-el.1).toNat+1) el
theorem KTree.sub_eq(h:KTree K N){n:Nat}{el:Rf}(hn:N-el.1<n):iF K obj n el=eP K obj N el:=h.stable _ _ _ hn (by omega)
theorem KTree.sub(h:KTree K N)(el:Rf):eP K obj N el=(dH K obj el).flatMap fun k=>k::eP K obj N k:=by
 show iF K obj ((N-el.1).toNat+1) el=_;unfold iF;exact cH fun k hk=>by
  have:=h.kid hk
  rw[h.sub_eq (by omega)]
def totE(K:List OpI)(obj:Rf)(N:Int)(n:Rf):List Rf:=if n=(0,0) then eP K obj N n else n::eP K obj N n
theorem totE_root{n:Rf}(hr:n=((0,0):Rf)):totE K obj N n=eP K obj N n:=by unfold totE;rw[if_pos hr]
theorem pC{n:Rf}(hr:n≠((0,0):Rf)):totE K obj N n=n::eP K obj N n:=by unfold totE;rw[if_neg hr]
structure ElI(K:List OpI)(obj:Rf)(N:Int)(out stack:List Rf):Prop where
 eq:out++stack.reverse.flatMap (totE K obj N)=eP K obj N (0,0)
 nd:(out++stack).Nodup
 nr:((0,0):Rf)∉out
 par:∀y∈out++stack,y≠(0,0)→∃x∈K,x.2=y∧jL obj (elP x) x=true∧(elP x∈out∨elP x=(0,0)∧((0,0):Rf)∉stack)
theorem ElI.start:ElI K obj N [] [(0,0)] :=
 ⟨by simp[totE],by simp,by simp,fun y hy hn=>by simp at hy;exact(hn hy).elim⟩
theorem ElI.len{out stack:List Rf}(h:ElI K obj N out stack):out.length+stack.length≤K.length+1:=by
 have:=lY (m:=(0,0)::K.map Prod.snd) h.nd fun y hy=>by
  by_cases e:y=(0,0)
  ·rw[e];exact tA ..
  ·obtain⟨x,hx,rfl,-⟩:=h.par y hy e
   exact tS _ (tY hx)
 simpa using this
theorem ElI.step(hK:KTree K N){out S T:List Rf}{n:Rf}(h:ElI K obj N out (S++[n]))(hT:T.reverse=dH K obj n):ElI K obj N (if n=(0,0) then out else out++[n]) (S++T):=by
 have hTm:∀t,t∈T↔t∈dH K obj n:=fun t=>by rw[←hT,uK]
 have hkid:∀t∈T,n.1<t.1∧t.1≤N∧1≤t.1∧∃x∈K,jL obj n x=true∧x.2=t:=fun t ht=>hK.kid ((hTm t).1 ht)
 have hT0:∀t∈T,t≠(0,0):=fun t ht e=>by have:=(hkid t ht).2.2.1;rw[e]at this;simp at this
 have hTn:T.Nodup:=by
  have h1:(dH K obj n).Nodup:=(hK.kids n).1.imp fun hx e=>by rw[e,dR]at hx;cases hx
  rw[←hT]at h1;exact(List.reverse_perm T).nodup_iff.1 h1
 have hnS:n∉out∧n∉S∧(out++S).Nodup:=by
  have h1:=h.nd;rw[←sX,tQ]at h1;obtain⟨a,-,c⟩:=h1
  exact⟨fun hm=>c n (tE _ hm) n (by simp) rfl,fun hm=>c n (tT _ hm) n (by simp) rfl,a⟩
 have huniq:∀ {x x':OpI},x∈K→x'∈K→x.2=x'.2→x=x':=fun a b c=>qY hK.nd a b c
 have hfresh:∀t∈T,t∉out∧t∉S:=fun t ht=>by
  obtain⟨x',hx',hi',e'⟩:=(hkid t ht).2.2.2
  have key:t∉out++(S++[n])∨t=n:=by
   by_cases hm:t∈out++(S++[n])
   ·obtain⟨x,hx,e,hi,hp⟩:=h.par t hm (hT0 t ht)
    obtain rfl:=huniq hx hx' (e.trans e'.symm);have en:elP x=n:=(jG.1 hi').2.2;rw[en]at hp;rcases hp with hp|⟨hp,hq⟩
    ·exact(hnS.1 hp).elim
    ·exact(hq (by rw[←hp];simp)).elim
   ·exact .inl hm
  rcases key with h1|h1
  ·exact⟨fun hm=>h1 (tE _ hm),fun hm=>h1 (tT _ (tE _ hm))⟩
  ·have:=(hkid t ht).1
   rw[h1]at this;omega
 have hflat:(S++T).reverse.flatMap (totE K obj N)=eP K obj N n++S.reverse.flatMap (totE K obj N):=by
  rw[wK,uD,hT,hK.sub n];congr 1;exact cH fun k hk=>pC (hT0 k ((hTm k).2 hk))
 have hS0:n=(0,0)→((0,0):Rf)∉S:=fun e=>by rw[←e];exact hnS.2.1
 by_cases hr:n=(0,0)
 ·rw[if_pos hr];refine⟨?_,?_,h.nr,fun y hy hy0=>?_⟩
  ·rw[hflat,←h.eq,wK,List.reverse_cons,List.reverse_nil,wZ,uD];simp[totE_root hr]
  ·rw[←sX,tQ];exact⟨hnS.2.2,hTn,fun a ha b hb e=>by
    subst e;rcases sI.1 ha with ha|ha
    ·exact(hfresh a hb).1 ha
    ·exact(hfresh a hb).2 ha⟩
  ·have hns:((0,0):Rf)∉S++T:=fun hm=>by
    rcases sI.1 hm with hm|hm
    ·exact hS0 hr hm
    ·exact hT0 _ hm rfl
   rcases sI.1 hy with hy1|hy1
   ·obtain⟨x,hx,e,hi,hp⟩:=h.par y (tE _ hy1) hy0
    exact⟨x,hx,e,hi,hp.imp id fun hp=>⟨hp.1,hns⟩⟩
   ·rcases sI.1 hy1 with hy2|hy2
    ·obtain⟨x,hx,e,hi,hp⟩:=h.par y (tT _ (tE _ hy2)) hy0
     exact⟨x,hx,e,hi,hp.imp id fun hp=>⟨hp.1,hns⟩⟩
    ·obtain⟨x,hx,hi,e⟩:=(hkid y hy2).2.2.2
     have en:elP x=n:=(jG.1 hi).2.2;exact⟨x,hx,e,by rw[en];exact hi,.inr ⟨en.trans hr,hns⟩⟩
 ·rw[if_neg hr];refine⟨?_,?_,?_,fun y hy hy0=>?_⟩
  ·rw[hflat,←h.eq,wK,List.reverse_cons,List.reverse_nil,wZ,uD];simp[pC hr]
  ·have h1:((out++[n])++S).Nodup:=by
    have h2:=h.nd;rw[←sX]at h2;refine(List.Perm.nodup_iff ?_).1 h2
    rw[sX,sX];exact List.Perm.append_left _ List.perm_append_comm
   rw[←sX,tQ];refine⟨h1,hTn,fun a ha b hb e=>?_⟩
   subst e;rcases sI.1 ha with ha|ha
   ·rcases sI.1 ha with ha|ha
    ·exact(hfresh a hb).1 ha
    ·have:=(hkid a hb).1
     rw[sN.1 ha]at this;omega
   ·exact(hfresh a hb).2 ha
  ·intro hm;rcases sI.1 hm with hm|hm
   ·exact h.nr hm
   ·exact hr (sN.1 hm).symm
  ·have hold:∀y∈out++(S++[n]),y≠(0,0)→∃x∈K,x.2=y∧jL obj (elP x) x=true∧(elP x∈out++[n]∨elP x=(0,0)∧((0,0):Rf)∉S++T):=fun y hy hy0=>by
    obtain⟨x,hx,e,hi,hp⟩:=h.par y hy hy0
    refine⟨x,hx,e,hi,hp.imp (tE _) fun hp=>⟨hp.1,fun hm=>?_⟩⟩
    rcases sI.1 hm with hm|hm
    ·exact hp.2 (tE _ hm)
    ·exact hT0 _ hm rfl
   rcases sI.1 hy with hy1|hy1
   ·rcases sI.1 hy1 with hy2|hy2
    ·exact hold y (tE _ hy2) hy0
    ·exact hold y (tT _ (tT _ hy2)) hy0
   ·rcases sI.1 hy1 with hy2|hy2
    ·exact hold y (tT _ (tE _ hy2)) hy0
    ·obtain⟨x,hx,hi,e⟩:=(hkid y hy2).2.2.2
     have en:elP x=n:=(jG.1 hi).2.2;exact⟨x,hx,e,by rw[en];exact hi,.inl (by rw[en];simp)⟩
theorem ElI.done{out:List Rf}(h:ElI K obj N out []):out=eP K obj N (0,0):=by have:=h.eq;simpa using this
theorem ElI.short{out stack:List Rf}(h:ElI K obj N out stack):out.length≤(eP K obj N (0,0)).length:=by rw[←h.eq,sG];omega
theorem ElI.ends(hK:KTree K N):∀(m:Nat) {out stack:List Rf},ElI K obj N out stack→(stack.reverse.flatMap (totE K obj N)).length+(if (0,0)∈stack then 1 else 0)≤m→ElI K obj N (eP K obj N (0,0)) []
 |m,out,stack,h,hm=>by
  rcases wO stack with rfl|⟨S,n,rfl⟩
  ·rw[←h.done];exact h
  ·rw[wP]at h hm;have hs:=h.step hK (T:=(dH K obj n).reverse) (by simp);have hflat:(S++(dH K obj n).reverse).reverse.flatMap (totE K obj N)=eP K obj N n++S.reverse.flatMap (totE K obj N):=by
    rw[wK,uD,List.reverse_reverse,hK.sub n];congr 1;exact cH fun k hk=>pC (fun e=>by have:=(hK.kid hk).2.2.1;rw[e]at this;simp at this)
   have h0:(0,0)∈S++(dH K obj n).reverse→((0,0):Rf)∈S:=fun hm=>by
    rcases sI.1 hm with hm|hm
    ·exact hm
    ·have:=(hK.kid (uK.1 hm)).2.2.1;simp at this
   rw[wK,List.reverse_cons,List.reverse_nil,wZ,uD]at hm;simp only[tM,List.flatMap_nil,uL,sG]at hm;have hn1:n∉S:=by
    have h1:=h.nd;rw[←sX,tQ]at h1;exact fun hm=>h1.2.2 n (tT _ hm) n (by simp) rfl
   cases m with
   |zero =>
    exfalso;by_cases hr:n=(0,0)
    ·rw[if_pos (by rw[hr];simp)]at hm;omega
    ·rw[pC hr]at hm;simp at hm
   |succ m =>
    refine ElI.ends hK m hs ?_;rw[hflat,sG];by_cases hr:n=(0,0)
    ·rw[if_pos (by rw[hr];simp),totE_root hr]at hm;rw[if_neg (fun hx=>hn1 (by rw[hr];exact h0 hx))];omega
    ·rw[pC hr,sW]at hm;by_cases hx:((0,0):Rf)∈S
     ·rw[if_pos (tE _ hx)]at hm;split<;>omega
     ·rw[if_neg (fun hy=>hx (h0 hy))];omega
theorem KTree.all(h:KTree K N):(eP K obj N (0,0)).Nodup∧(eP K obj N (0,0)).length≤K.length+1∧∀y∈eP K obj N (0,0),∃x∈K,x.2=y∧x.1.ins=true∧eG x=obj:=by
 have hd:=ElI.ends h _ (ElI.start (K:=K) (obj:=obj) (N:=N)) (sC _);have h1:=hd.len;refine⟨by simpa using hd.nd,by simpa using h1,fun y hy=>?_⟩
 have hy0:y≠(0,0):=fun e=>hd.nr (e▸hy)
 obtain⟨x,hx,e,hi,-⟩:=hd.par y (by simpa using hy) hy0
 exact⟨x,hx,e,(jG.1 hi).1,(jG.1 hi).2.1⟩
end
end
section
theorem sready_any(L W:List ChD)(c:ChD)(g:Nat)(w:World)(hB:BR w g L W)(hc:ChIn (fun k=>k<w.heap.size) w c)(hl:L.length≤1000000):
 Calls Tryz.prog 53 #[.pointer (some ⟨g,0,none⟩),c.v] w fun e w'=>e=.returned (.bool (bE L c))∧Below w.heap.size w w':=by
 have HB:=Hi hB;have HC:=Hi hc;have HW:Hid (Below w.heap.size w (w.alloc (.cells #[.int .i64 c.a,.int .i64 c.s,.int .i64 c.st,.slice c.DA c.deps.length c.DC,.slice c.OA c.ops.length c.OC] 82))):=(sB _ w).alloc (sC _) _;have HQ:=Hi (Blk.new w 82 #[.int .i64 c.a,.int .i64 c.s,.int .i64 c.st,.slice c.DA c.deps.length c.DC,.slice c.OA c.ops.length c.OC]);have hdl:=hc.hdl;have C1:=fun(V:World) (r:Rf) A cc h1=>kL L r (fun k=>k<V.heap.size) A cc V h1 (fun _ h=>h) (by omega)
 obtain⟨n,hn⟩:∃n,c.deps.length=n:=⟨_,rfl⟩
 have HN:=Hi hn;unfold ChD.v;rw[hn]at hdl HW HQ ⊢;clear hB hc hn;go_enter Tryz.func53,Tryz.ntmps53;go_wp2_with fail
 generalize w.alloc (.cells #[.int .i64 c.a,.int .i64 c.s,.int .i64 c.st,.slice c.DA n c.DC,.slice c.OA c.ops.length c.OC] 82)=V at *;go_loopw [5,6] (fun s5 _ wr=>∃k:Nat,s5=.int .i64 k∧k≤n∧Hid (∀d∈c.deps.take k,d∈aB L)∧Hid (Blk wr w.heap.size 82 #[.int .i64 c.a,.int .i64 c.s,.int .i64 c.st,.slice c.DA n c.DC,.slice c.OA c.ops.length c.OC])∧Hid (Below w.heap.size w wr)) (fun s5 _ _=>n-(intOf s5).toNat)
 case atStart=>exact⟨0,rfl,by omega,by show ∀d∈_,_;simp,HQ,HW⟩
 case round =>
  clear HQ HW;obtain⟨k,rfl,hk,HI,HQ,HW⟩:=hrel
  have c3:=cZ HQ.o 3 rfl;by_cases hlt:k<n
  ·obtain⟨r,hr⟩:∃r,c.deps[k]?=some r:=⟨_,sD (by rw[HN.o];exact hlt)⟩
   obtain⟨b1,o1,hA,-,hc1⟩:=(aA HC.o.hd HW.o).at_ (by rw[HN.o];omega) (by omega)
   have x1:wr.cell? ⟨b1,o1+k*2,none⟩=some (.int .i64 r.1):=hc1 _ _ (aL hr).1;have x2:wr.cell? ⟨b1,o1+k*2+1,none⟩=some (.int .i64 r.2):=hc1 _ _ (aL hr).2;rw[hA]at c3;obtain⟨A,cc,A',cc',hg,hL,hW⟩:=HB.o.below HW.o
   have g0:=cZ hg 0 rfl;have C2:=C1 wr.drew r A cc hL.row;have HR:=Hi hr;clear hg hL hW hc1 hr hA;go_wp2_with fail
   refine wp_region_still_tail 9 (by kernel_rfl) (by kernel_rfl) ?_;simp only[sV,tG,sY,tH];repeat (first|(refine aK rfl (fun K hK=>?_);go_simp;refine hK _ ?_;clear hK K)|(refine aO rfl ?_;go_frame))
   refine wpStill_nil ?_;change wpList _ _ _ _ _ wr.drew;replace HW:Hid (Below w.heap.size w wr.drew):=HW.o.drew;replace HQ:Hid (Blk wr.drew w.heap.size 82 #[.int .i64 c.a,.int .i64 c.s,.int .i64 c.st,.slice c.DA n c.DC,.slice c.OA c.ops.length c.OC]):=HQ.o;generalize wr.drew=w2 at HW HQ C2 ⊢;clear c3 x1 x2 g0;go_wp2_with fail
   go_at_call 26;refine C2.mono ?_;rintro e w3 ⟨i,rfl,hi,hb⟩;replace HQ:=Hi (HQ.o.keep (hb.block _ HQ.o.lt));replace HW:Hid (Below w.heap.size w w3):=HW.o.trans (hb.mono HW.o.size);clear hb;clear C2;rcases hi with⟨rfl,hno⟩|⟨kk,y,rfl,hy,hf⟩
   ·have HF:Hid (bE L c=false):=by
     show _=_;unfold bE;rw[←Bool.not_eq_true,tP];intro hh;have:=hh r (sJ HR.o)
     exact hno (by simpa using this)
    clear hno;go_wp2_with fail
    go_ret;exact⟨by rw[HF.o];rfl,HW.o⟩
   ·have HI2:Hid (∀d∈c.deps.take (k+1),d∈aB L):=by
     intro d hd;rw[sS,HR.o]at hd;rcases sI.1 hd with hd|hd
     ·exact HI.o d hd
     ·simp at hd;rw[hd,←(cM hf).2];exact cD (cM hf).1
    have hk0:decide ((kk:Int)<0)=false:=decide_eq_false (by omega);clear hy hf;go_wp2_with fail
    go_roundw
    case rel=>exact⟨k+1,by go_num,by omega,HI2,HQ,HW⟩
    case measure=>simp[intOf];omega
  ·have HF:Hid (bE L c=true):=by
    have:=HI.o
    rw[sL (by rw[HN.o];omega)]at this;show _=_;unfold bE;rw[tP];intro d hd;simpa using this d hd
   go_wp2_with fail
   go_ret;exact⟨by rw[HF.o];rfl,HW.o⟩
theorem mT{c:ChD}(he:c.err=0)(hw:∀o∈c.ops,(Lit.int .i64 o.vn).wf=true):EncG c.a c.s c.st c.deps c.ops:=(chg_good he hw).1
theorem sSame_any(x y:ChD)(w:World)(hx:ChIn (fun k=>k<w.heap.size) w x)(hy:ChIn (fun k=>k<w.heap.size) w y)(gx:EncG x.a x.s x.st x.deps x.ops)(gy:EncG y.a y.s y.st y.deps y.ops):
 Calls Tryz.prog 52 #[x.v,y.v] w fun e w'=>e=.returned (.bool (decide (x.enc=y.enc)))∧Below w.heap.size w w':=by
 have HB0:=Hi (((sB _ w).alloc (sC _) (.cells #[.int .i64 x.a,.int .i64 x.s,.int .i64 x.st,.slice x.DA x.deps.length x.DC,.slice x.OA x.ops.length x.OC] 82)).alloc (by simp) (.cells #[.int .i64 y.a,.int .i64 y.s,.int .i64 y.st,.slice y.DA y.deps.length y.DC,.slice y.OA y.ops.length y.OC] 82));have HQ:Hid (Blk ((w.alloc (.cells #[.int .i64 x.a,.int .i64 x.s,.int .i64 x.st,.slice x.DA x.deps.length x.DC,.slice x.OA x.ops.length x.OC] 82)).alloc (.cells #[.int .i64 y.a,.int .i64 y.s,.int .i64 y.st,.slice y.DA y.deps.length y.DC,.slice y.OA y.ops.length y.OC] 82)) (w.heap.size+1) 82 #[.int .i64 y.a,.int .i64 y.s,.int .i64 y.st,.slice y.DA y.deps.length y.DC,.slice y.OA y.ops.length y.OC]):=by
  have:=Blk.new (w.alloc (.cells #[.int .i64 x.a,.int .i64 x.s,.int .i64 x.st,.slice x.DA x.deps.length x.DC,.slice x.OA x.ops.length x.OC] 82)) 82 #[.int .i64 y.a,.int .i64 y.s,.int .i64 y.st,.slice y.DA y.deps.length y.DC,.slice y.OA y.ops.length y.OC]
  rw[World.size_alloc]at this;exact this
 have R1:=refEnc_any x.a x.s x.st x.deps x.DA _ x.DC x.ops x.OA _ x.OC _ ((hx.chm fun _ h=>h).keep HB0.o) rfl rfl gx;have H2:=Hi (hy.chm fun _ h=>h);have HG2:=Hi gy;have HE:Hid (x.enc=jR x.a x.s x.st x.deps x.ops∧y.enc=jR y.a y.s y.st y.deps y.ops):=⟨rfl,rfl⟩;unfold ChD.v;clear hx hy gx gy;generalize jR x.a x.s x.st x.deps x.ops=ex at R1 HE;generalize hey:jR y.a y.s y.st y.deps y.ops=ey at HE;have HEY:=Hi hey;clear hey;go_enter Tryz.func52,Tryz.ntmps52;go_wp2_with fail
 go_at_call 80;refine R1.mono ?_;rintro e w1 ⟨v1,rfl,ho,hb⟩;obtain⟨A1,C1,hv1,_,_,hr1⟩:=aC.of_own ho
 subst hv1;have HR1:Hid (aC (fun x=>x<w1.heap.size) w1 1 A1 ex.length (bV ex)):=hr1.more fun x hx=>(aF ho hx).2
 have HB1:=Hi (HB0.o.trans (hb.mono HB0.o.size));replace HQ:=Hi (HQ.o.keep (hb.block _ HQ.o.lt));have d0:=cZ HQ.o 0 rfl;have d1:=cZ HQ.o 1 rfl;have d2:=cZ HQ.o 2 rfl;have d3:=cZ HQ.o 3 rfl;have d4:=cZ HQ.o 4 rfl
 clear R1 ho hr1 hb HB0;have R2:=refEnc_any y.a y.s y.st y.deps y.DA _ y.DC y.ops y.OA _ y.OC w1 (H2.o.keep HB1.o) rfl rfl HG2.o;rw[HEY.o]at R2;go_wp2_with fail
 go_at_call 80;refine R2.mono ?_;rintro e w2 ⟨v2,rfl,ho,hb⟩;obtain⟨A2,C2,hv2,_,_,hr2⟩:=aC.of_own ho
 subst hv2;have cv1:(convert 141 9 (.slice A1 ex.length C1)).run Tryz.prog w2=.ok (.string ⟨ex.toArray⟩) w2:=conv_reads (aA HR1.o hb);have cv2:(convert 141 9 (.slice A2 ey.length C2)).run Tryz.prog w2=.ok (.string ⟨ey.toArray⟩) w2:=conv_reads hr2;have HB2:Hid (Below w.heap.size w w2):=HB1.o.trans (hb.mono HB1.o.size);have HD:Hid ((ex == ey)=decide (x.enc=y.enc)):=by
  show _=_;rw[HE.o.1,HE.o.2];by_cases h:ex=ey<;>simp[h]
 clear R2 ho hr2 hb HR1;go_wp2_with fail
 go_ret;exact⟨by rw[←HD.o];rfl,HB2.o⟩
structure BM(D F:Nat→Prop)(w:World)(g:Nat)(L W:List ChD)(VL VW:Value):Prop where
 blk:Blk w g 34 #[VL,VW]
 oL:w.ownsRow 0 82 5 VL L.length (bP L)
 oW:w.ownsRow 0 82 5 VW W.length (bP W)
 ne:∀k,VL.ownBlock=some k→VW.ownBlock≠some k
 hF:∀k,F k↔k=g∨VL.ownBlock=some k∨VW.ownBlock=some k
 inL:∀c∈L,ChIn D w c
 inW:∀c∈W,ChIn D w c
 hD:∀k,D k→k<w.heap.size∧¬F k
section
variable{D F:Nat→Prop}{w w':World}{g:Nat}{L W:List ChD}{VL VW:Value}
theorem BM.neg(h:BM D F w g L W VL VW):VL.ownBlock≠some g∧VW.ownBlock≠some g:=⟨eT h.oL h.blk (by decide),eT h.oW h.blk (by decide)⟩
theorem BM.flt(h:BM D F w g L W VL VW){k:Nat}(hk:F k):k<w.heap.size:=by
 rcases(h.hF k).1 hk with rfl|hk|hk
 ·exact h.blk.lt
 ·exact(aF h.oL hk).2
 ·exact(aF h.oW hk).2
theorem BM.keep(h:BM D F w g L W VL VW)(hs:w.heap.size≤w'.heap.size)(hD:∀k,D k→w'.heap[k]?=w.heap[k]?)(hF:∀k,F k→w'.heap[k]?=w.heap[k]?):BM D F w' g L W VL VW :=
 ⟨h.blk.keep (hF g ((h.hF g).2 (.inl rfl))),aU h.oL (fun k hk=>hF k ((h.hF k).2 (.inr (.inl hk)))),aU h.oW (fun k hk=>hF k ((h.hF k).2 (.inr (.inr hk)))),h.ne,h.hF,
  fun c hc=>(h.inL c hc).keep hD,fun c hc=>(h.inW c hc).keep hD,fun k hk=>⟨sE (h.hD k hk).1 hs,(h.hD k hk).2⟩⟩
theorem BM.below(h:BM D F w g L W VL VW)(hb:Below w.heap.size w w'):BM D F w' g L W VL VW :=
 h.keep hb.size (fun k hk=>hb.block k (h.hD k hk).1) (fun k hk=>hb.block k (h.flt hk))
theorem BM.br(h:BM D F w g L W VL VW):BR w g L W:=by
 obtain⟨A,c,hv,_,_,hr⟩:=aC.of_own h.oL
 obtain⟨A',c',hv',_,_,hr'⟩:=aC.of_own h.oW
 refine⟨A,c,A',c',by rw[←hv,←hv'];exact h.blk,⟨hr.more (fun k hk=>(aF h.oL hk).2),fun c hc=>(h.inL c hc).more fun k hk=>(h.hD k hk).1⟩,⟨hr'.more (fun k hk=>(aF h.oW hk).2),fun c hc=>(h.inW c hc).more fun k hk=>(h.hD k hk).1⟩⟩
theorem BM.setL(h:BM D F w g L W VL VW){V':Value}{L':List ChD}(hs:w.heap.size≤w'.heap.size)(hk:∀k,k<w.heap.size→VL.ownBlock≠some k→w'.heap[k]?=w.heap[k]?)
 (ho:w'.ownsRow 0 82 5 V' L'.length (bP L')) (hat:V'.ownBlock=VL.ownBlock∨∀k,V'.ownBlock=some k→w.heap.size≤k) (hin:∀c∈L',ChIn D w c) :
 BM D (fun k=>k=g∨V'.ownBlock=some k∨VW.ownBlock=some k) (w'.setCell ⟨g,0,none⟩ V') g L' W V' VW:=by
 have hg:w'.heap[g]?=w.heap[g]?:=hk g h.blk.lt h.neg.1;have hW:∀k,VW.ownBlock=some k→w'.heap[k]?=w.heap[k]?:=fun k e=>hk k (aF h.oW e).2 (fun e'=>h.ne k e' e)
 have hDk:∀k,D k→w'.heap[k]?=w.heap[k]?:=fun k hd=>hk k (h.hD k hd).1 (fun e=>(h.hD k hd).2 ((h.hF k).2 (.inr (.inl e))))
 have hB:Blk w' g 34 #[VL,VW]:=h.blk.keep hg;have hneg:V'.ownBlock≠some g:=eT ho hB (by decide);have hset:∀k,k≠g→(w'.setCell ⟨g,0,none⟩ V').heap[k]?=w'.heap[k]?:=fun k hk=>sZ _ _ _ _ hk
 have hsz:(w'.setCell ⟨g,0,none⟩ V').heap.size=w'.heap.size:=by simp
 refine⟨hB.set_ 0 V',aU ho fun k hk=>hset k (fun e=>hneg (by rw[←e];exact hk)),aU (aU h.oW hW) fun k hk=>hset k (fun e=>h.neg.2 (by rw[←e];exact hk)),fun k e e'=>?_,fun k=>Iff.rfl,
  fun c hc=>((hin c hc).keep hDk).keep fun k hd=>hset k (fun e=>(h.hD k hd).2 ((h.hF k).2 (.inl e))),fun c hc=>((h.inW c hc).keep hDk).keep fun k hd=>hset k (fun e=>(h.hD k hd).2 ((h.hF k).2 (.inl e))),fun k hd=>⟨by rw[hsz];exact sE (h.hD k hd).1 hs,?_⟩⟩
 ·rcases hat with h1|h1
  ·exact h.ne k (h1▸e) e'
  ·have:=h1 k e;have:=(aF h.oW e').2;omega
 ·rintro(e|e|e)
  ·exact(h.hD k hd).2 ((h.hF k).2 (.inl e))
  ·rcases hat with h1|h1
   ·exact(h.hD k hd).2 ((h.hF k).2 (.inr (.inl (h1▸e))))
   ·have:=h1 k e;have:=(h.hD k hd).1;omega
  ·exact(h.hD k hd).2 ((h.hF k).2 (.inr (.inr e)))
theorem BM.setW(h:BM D F w g L W VL VW){V':Value}{W':List ChD}(hs:w.heap.size≤w'.heap.size)(hk:∀k,k<w.heap.size→VW.ownBlock≠some k→w'.heap[k]?=w.heap[k]?)
 (ho:w'.ownsRow 0 82 5 V' W'.length (bP W')) (hat:V'.ownBlock=VW.ownBlock∨∀k,V'.ownBlock=some k→w.heap.size≤k) (hin:∀c∈W',ChIn D w c) :
 BM D (fun k=>k=g∨VL.ownBlock=some k∨V'.ownBlock=some k) (w'.setCell ⟨g,1,none⟩ V') g L W' VL V':=by
 have hg:w'.heap[g]?=w.heap[g]?:=hk g h.blk.lt h.neg.2;have hL:∀k,VL.ownBlock=some k→w'.heap[k]?=w.heap[k]?:=fun k e=>hk k (aF h.oL e).2 (fun e'=>h.ne k e e')
 have hDk:∀k,D k→w'.heap[k]?=w.heap[k]?:=fun k hd=>hk k (h.hD k hd).1 (fun e=>(h.hD k hd).2 ((h.hF k).2 (.inr (.inr e))))
 have hB:Blk w' g 34 #[VL,VW]:=h.blk.keep hg;have hneg:V'.ownBlock≠some g:=eT ho hB (by decide);have hset:∀k,k≠g→(w'.setCell ⟨g,1,none⟩ V').heap[k]?=w'.heap[k]?:=fun k hk=>sZ _ _ _ _ hk
 have hsz:(w'.setCell ⟨g,1,none⟩ V').heap.size=w'.heap.size:=by simp
 refine⟨hB.set_ 1 V',aU (aU h.oL hL) fun k hk=>hset k (fun e=>h.neg.1 (by rw[←e];exact hk)),aU ho fun k hk=>hset k (fun e=>hneg (by rw[←e];exact hk)),fun k e e'=>?_,fun k=>Iff.rfl,
  fun c hc=>((h.inL c hc).keep hDk).keep fun k hd=>hset k (fun e=>(h.hD k hd).2 ((h.hF k).2 (.inl e))),fun c hc=>((hin c hc).keep hDk).keep fun k hd=>hset k (fun e=>(h.hD k hd).2 ((h.hF k).2 (.inl e))),fun k hd=>⟨by rw[hsz];exact sE (h.hD k hd).1 hs,?_⟩⟩
 ·rcases hat with h1|h1
  ·exact h.ne k e (h1▸e')
  ·have:=h1 k e';have:=(aF h.oL e).2;omega
 ·rintro(e|e|e)
  ·exact(h.hD k hd).2 ((h.hF k).2 (.inl e))
  ·exact(h.hD k hd).2 ((h.hF k).2 (.inr (.inl e)))
  ·rcases hat with h1|h1
   ·exact(h.hD k hd).2 ((h.hF k).2 (.inr (.inr (h1▸e))))
   ·have:=h1 k e;have:=(h.hD k hd).1;omega
theorem cJ{w:World}{k:Nat}{t:TypeId}{cs:Array Value}{n:Nat}(h:Blk w k t cs)(hn:cs.size=n):aC (fun x=>x=k) w n (some ⟨k,0,none⟩) 1 cs.toList:=by
 refine⟨by simp[hn],fun _=>⟨_,rfl,rfl,fun j u hu=>?_⟩⟩
 rw[addr0];have hj:cs[j]?=some u:=by simpa using hu
 obtain⟨hlt,e⟩:=vQ.1 hj
 have:=h.cell j
 rw[hj]at this;exact this
theorem eO(L:List ChD):∀u∈bP L,u.oneCell'=true:=by
 intro u hu;obtain⟨r,_,h⟩:=vL.1 hu
 simp only[ChD.cells,sK,tX,or_false]at h;rcases h with rfl|rfl|rfl|rfl|rfl<;>rfl
theorem mN{w w':World}{o:Obj}{row:Option Nat}(hg:(w.alloc o).grownBy w' row):w.heap.size≤w'.heap.size∧∀k,k<w.heap.size→row≠some k→w'.heap[k]?=w.heap[k]?:=by
 refine⟨by have:=hg.size;rw[World.size_alloc]at this;omega,fun k hk hn=>?_⟩
 exact(hg.block k (by rw[World.size_alloc];omega) (fun e=>hn e.symm)).trans (sO w o k hk)
theorem grown_chg{w w':World}{o:Obj}{row:Option Nat}{F:Nat→Prop}(hg:(w.alloc o).grownBy w' row)(hF:∀k,row=some k→F k):Chg F w w':=by
 obtain⟨h1,h2⟩:=mN hg
 exact⟨hg.os,hg.tape,hg.output,h1,fun k hk hn=>h2 k hk (fun e=>hn (hF k e))⟩
theorem BM.pushW(h:BM D F w g L W VL VW){o:Obj}{v':Value}{c:ChD}(ho:w'.ownsRow 0 82 5 v' (W.length+1) (bP W++c.cells))(hg:(w.alloc o).grownBy w' VW.ownBlock)
 (hat:v'.ownBlock=VW.ownBlock∨v'.ownBlock=some (w.alloc o).heap.size) (hc:ChIn D w c) :
 ∃F',BM D F' (w'.setCell ⟨g,1,none⟩ v') g L (W++[c]) VL v'∧(∀k,F' k→F k∨w.heap.size≤k)∧Chg F w (w'.setCell ⟨g,1,none⟩ v'):=by
 obtain⟨h1,h2⟩:=mN hg
 have hat':v'.ownBlock=VW.ownBlock∨∀k,v'.ownBlock=some k→w.heap.size≤k:=by
  rcases hat with e|e
  ·exact .inl e
  ·refine .inr fun k hk=>?_
   rw[e,World.size_alloc]at hk;simp only[uA]at hk;omega
 refine⟨_,h.setW h1 (fun k hk hn=>h2 k hk hn) (by rw[sG,jX];simpa[bP] using ho) hat' (fun x hx=>?_),fun k hk=>?_,(grown_chg hg fun k hk=>(h.hF k).2 (.inr (.inr hk))).setCell (.inl ((h.hF g).2 (.inl rfl))) _⟩
 ·rcases sI.1 hx with hx|hx
  ·exact h.inW x hx
  ·rw[sN.1 hx];exact hc
 ·rcases hk with e|e|e
  ·exact .inl ((h.hF k).2 (.inl e))
  ·exact .inl ((h.hF k).2 (.inr (.inl e)))
  ·rcases hat' with h3|h3
   ·exact .inl ((h.hF k).2 (.inr (.inr (h3▸e))))
   ·exact .inr (h3 k e)
theorem BM.pushL(h:BM D F w g L W VL VW){o:Obj}{v':Value}{c:ChD}(ho:w'.ownsRow 0 82 5 v' (L.length+1) (bP L++c.cells))(hg:(w.alloc o).grownBy w' VL.ownBlock)
 (hat:v'.ownBlock=VL.ownBlock∨v'.ownBlock=some (w.alloc o).heap.size) (hc:ChIn D w c) :
 ∃F',BM D F' (w'.setCell ⟨g,0,none⟩ v') g (L++[c]) W v' VW∧(∀k,F' k→F k∨w.heap.size≤k)∧Chg F w (w'.setCell ⟨g,0,none⟩ v'):=by
 obtain⟨h1,h2⟩:=mN hg
 have hat':v'.ownBlock=VL.ownBlock∨∀k,v'.ownBlock=some k→w.heap.size≤k:=by
  rcases hat with e|e
  ·exact .inl e
  ·refine .inr fun k hk=>?_
   rw[e,World.size_alloc]at hk;simp only[uA]at hk;omega
 refine⟨_,h.setL h1 (fun k hk hn=>h2 k hk hn) (by rw[sG,jX];simpa[bP] using ho) hat' (fun x hx=>?_),fun k hk=>?_,(grown_chg hg fun k hk=>(h.hF k).2 (.inr (.inl hk))).setCell (.inl ((h.hF g).2 (.inl rfl))) _⟩
 ·rcases sI.1 hx with hx|hx
  ·exact h.inL x hx
  ·rw[sN.1 hx];exact hc
 ·rcases hk with e|e|e
  ·exact .inl ((h.hF k).2 (.inl e))
  ·rcases hat' with h3|h3
   ·exact .inl ((h.hF k).2 (.inr (.inl (h3▸e))))
   ·exact .inr (h3 k e)
  ·exact .inl ((h.hF k).2 (.inr (.inr e)))
end
end
section
open Go.RowKit
theorem deps_i64:∀ {p:Int} {l:List Rf},cK p l=0→∀d∈l,I64R d
 |_,[],_,_,h=>by cases h
 |p,r::l,h,d,hd=>by
  unfold cK at h;by_cases h1:dZ r=false
  ·rw[if_pos h1]at h;cases h
  rw[if_neg h1]at h;by_cases h2:r.1≤p
  ·rw[if_pos h2]at h;cases h
  rw[if_neg h2]at h;rcases sK.1 hd with rfl|hd
  ·have:=iQ (by cases hh:dZ d with|true=>rfl|false=>exact absurd hh h1)
   exact⟨by omega,by omega⟩
  ·exact deps_i64 h d hd
theorem err_deps{c:ChD}(h:c.err=0):∀d∈c.deps,I64R d:=by
 unfold ChD.err dK at h;obtain⟨h1,h⟩:=aR h (by omega)
 obtain⟨h2,h⟩:=aR h (by omega)
 by_cases h3:cK 0 c.deps≠0
 ·rw[if_pos h3]at h;exact absurd h h3
 exact deps_i64 (p:=0) (Decidable.not_not.1 h3)
end
section
open Go.RowKit
theorem next_new{A B l:List OpI}{i:Nat}{z:OpI}(hn:((A++(l++B)).map Prod.snd).Nodup)(hz:l[i]?=some z):∀y∈A++l.take i,y.2≠z.2:=by
 obtain⟨hi,hz'⟩:=sF.1 hz
 have e:A++(l++B)=(A++l.take i)++(z::(l.drop (i+1)++B)):=by
  have h1:l=l.take i++z::l.drop (i+1):=by
   rw[←hz',←tJ hi,uE]
  have h2:l++B=l.take i++(z::(l.drop (i+1)++B)):=by
   rw[←wQ,←sX,←h1]
  rw[h2,sX]
 rw[e,sQ,tQ]at hn;intro y hy;exact hn.2.2 y.2 (tY hy) z.2 (by simp)
theorem opsAt_len{L:List ChD}(hb:Bk L)(r:Rf):(dT L r).length≤40:=by
 unfold dT;cases h:aW L r with
 |none=>simp
 |some c=>simp only[fV];exact(fS (hb.err c (uB h)).1).2.2.1
theorem known_len{L:List ChD}(hb:Bk L):∀S:List Rf,(S.flatMap (dT L)).length≤40*S.length
 | []=>by simp
 |r::S=>by
  have h1:=known_len hb S;have h2:=opsAt_len hb r;simp only[tM,sG,sW];omega
theorem at_kinds{L:List ChD}(hb:Bk L){r:Rf}{y:OpI}(hy:y∈dT L r):1≤y.1.k∧(y.1.k=2→y.1.vk=5∨y.1.vk=6):=by
 unfold dT at hy;cases h:aW L r with
 |none=>rw[h]at hy;cases hy
 |some c=>rw[h]at hy;exact mR (mV (hb.err c (uB h)).1 _ (cR hy).2.2.2)
theorem own_kinds{c:ChD}(he:c.err=0){y:OpI}(hy:y∈c.opsI):1≤y.1.k∧(y.1.k=2→y.1.vk=5∨y.1.vk=6) :=
 mR (mV he _ (cR hy).2.2.2)
theorem ids_nodup{L:List ChD}{c:ChD}{S:List Rf}{K:List OpI}(hb:Bk L)(hs:S.Nodup)(hsub:∀r∈S,r∈aB L)(hK:K.Perm (S.flatMap (dT L)))(h2:∀x∈K,x.2.1<c.st):
 ((K++c.opsI).map Prod.snd).Nodup:=by
 rw[sQ,tQ];refine⟨(hK.map Prod.snd).nodup_iff.2 (mD hb hs hsub),iM _ _ _,fun a ha b hb' hab=>?_⟩
 obtain⟨x,hx,rfl⟩:=sH.1 ha
 obtain⟨y,hy,rfl⟩:=sH.1 hb'
 have q1:=h2 x hx;have q2:=(cR hy).2.1;rw[hab]at q1;omega
theorem sub_len{L:List ChD}{S:List Rf}(hn:S.Nodup)(h:∀r∈S,r∈aB L):S.length≤L.length:=by
 have:=lY hn h
 simpa[aB] using this
theorem known_less{L:List ChD}(hb:Bk L)(hl:L.length≤1000){S done todo:List Rf}(hn:S.Nodup)(hsub:∀r∈S,r∈aB L)(hp:(done++todo).Perm S):(done.flatMap (dT L)).length≤40000:=by
 have h1:=known_len hb done;have h2:=sub_len hn hsub;have h3:=hp.length_eq;rw[sG]at h3;have:done.length≤1000:=by omega
 omega
end
section
theorem pR:(Tryz.prog.info? 90).map (·.size)=some 15:=by kernel_rfl
theorem iX:(Tryz.prog.info? 24).map (fun i=>(i.zero,i.size,i.bytes))=some (some (.agg #[.int .i64 0,.int .i64 0]),2,16):=by kernel_rfl
theorem rS{K:List OpI}{obj el:Rf}{i:Nat}{x:OpI}(h:K[i]?=some x):dN (K.take (i+1)) obj el=dN (K.take i) obj el++if jL obj el x then [x.2] else []:=by
 unfold dN;rw[sS,h,uN,sQ];cases hk:jL obj el x<;>simp[hk]
def dV(K:List OpI)(obj el:Rf)(i:Nat):List Rf:=(dN (K.take i) obj el).foldl kM []
theorem kidsG_yes{K:List OpI}{obj el:Rf}{i:Nat}{x:OpI}(h:K[i]?=some x)(hk:jL obj el x=true):dV K obj el (i+1)=kM (dV K obj el i) x.2:=by
 unfold dV;rw[rS h,if_pos hk,xV];rfl
theorem kidsG_no{K:List OpI}{obj el:Rf}{i:Nat}{x:OpI}(h:K[i]?=some x)(hk:jL obj el x=false):dV K obj el (i+1)=dV K obj el i:=by
 unfold dV;rw[rS h,hk];simp
theorem lT:∀(l out:List Rf),(l.foldl kM out).length=out.length+l.length
 | [],out=>by simp
 |r::l,out=>by rw[uZ,lT l,putD_len,sW];omega
theorem kidsG_len(K:List OpI)(obj el:Rf)(i:Nat):(dV K obj el i).length≤i:=by
 unfold dV;rw[lT];have:=kidIds_len (K:=K.take i) (obj:=obj) el
 rw[tD]at this;simp only[wA];omega
theorem putD_at{l:List Rf}{r:Rf}{k:Nat}(hk:k≤l.length)(h1:∀x∈l.take k,aP r x=true)(h2:∀x,l[k]?=some x→aP r x=false):kM l r=l.take k++r::l.drop k:=by
 unfold kM;obtain⟨e1,e2⟩:=gB (fun x=>aP r x) l k hk h1 h2
 rw[e1,e2]
theorem lU{w:World}{D:Nat→Prop}{A:Option Addr}{n:Nat}{K:List OpI}(h:aC D w 15 A n (cN K))(hn:0<n){i:Nat}{x:OpI}(hx:K[i]?=some x):
 ∃b o,A=some ⟨b,o,none⟩∧D b∧∀V:World,V.heap[b]?=w.heap[b]?→V.rangeAt b (o+i*15) [.int .i64 x.1.k,.int .i64 x.1.on,.int .i64 x.1.oa,.string x.1.key,.int .i64 x.1.en,.int .i64 x.1.ea,.bool x.1.ins,.int .i64 x.1.vk,.int .i64 x.1.vn,.string x.1.vt,.int .i64 x.1.va,.int .i64 x.1.vb,.slice x.1.A x.1.l.length x.1.c,.int .i64 x.2.1,.int .i64 x.2.2]:=by
 obtain⟨b,o,rfl,hb,hc⟩:=h.at_ hn (by omega)
 refine⟨b,o,rfl,hb,fun V hv j u hj=>?_⟩
 have hj15:j<15:=(sF.1 hj).1;have h1:=lV hx j hj15;have h2:(opIC x)[j]?=some u:=hj;rw[h2]at h1;have h3:=hc _ _ h1;rw[←tL]at h3;exact(sM hv).trans h3
def rG(A:Option Addr)(c nK:Nat)(o1 o2:Int)(k:Rf)(S:List Rf)(w:World):Prop :=
 Calls Tryz.prog 32 #[.agg #[.slice A nK c],.agg #[.int .i64 o1,.int .i64 o2],.agg #[.int .i64 k.1,.int .i64 k.2]] w fun e w'=>∃v,e=.returned v∧w'.ownsRow w.heap.size 24 2 v S.length (aE S)∧Below w.heap.size w w'
theorem beh_step(K:List OpI)(o1 o2 e1 e2:Int)(A:Option Addr)(c:Nat)(f:Rf→List Rf)(w:World)(hr:aC (fun k=>k<w.heap.size) w 15 A K.length (cN K))(hl:K.length≤100000)
 (hIH:∀k∈dH K (o1,o2) (e1,e2),∀V,Below w.heap.size w V→rG A c K.length o1 o2 k (f k) V) (hM:((dH K (o1,o2) (e1,e2)).flatMap fun k=>k::f k).length≤1000000) :
 rG A c K.length o1 o2 (e1,e2) ((dH K (o1,o2) (e1,e2)).flatMap fun k=>k::f k) w:=by
 unfold rG;obtain⟨nK,hnK⟩:∃n,K.length=n:=⟨_,rfl⟩
 have HNK:=Hi hnK;rw[hnK]at hr hl hIH ⊢;have HIH:=Hi hIH;have HMM:=Hi hM;have HRK:=Hi hr;have hb1:Below w.heap.size w (w.alloc (.cells #[.slice A nK c] 31)):=(sB _ w).alloc (sC _) _;have h1:=Blk.new w 31 #[.slice A nK c];have hb2:Below w.heap.size w ((w.alloc (.cells #[.slice A nK c] 31)).alloc (.cells #[.int .i64 o1,.int .i64 o2] 24)):=hb1.alloc hb1.size _;have h2:=Blk.new (w.alloc (.cells #[.slice A nK c] 31)) 24 #[.int .i64 o1,.int .i64 o2];have hb3:Below w.heap.size w (((w.alloc (.cells #[.slice A nK c] 31)).alloc (.cells #[.int .i64 o1,.int .i64 o2] 24)).alloc (.cells #[.int .i64 e1,.int .i64 e2] 24)):=hb2.alloc hb2.size _;have h3:=Blk.new ((w.alloc (.cells #[.slice A nK c] 31)).alloc (.cells #[.int .i64 o1,.int .i64 o2] 24)) 24 #[.int .i64 e1,.int .i64 e2];have H1:=Hi ((h1.keep (sO _ (.cells #[.int .i64 o1,.int .i64 o2] 24) _ h1.lt)).keep (sO _ (.cells #[.int .i64 e1,.int .i64 e2] 24) _ (by rw[World.size_alloc];have:=h1.lt;omega)));have H2:=Hi (h2.keep (sO _ (.cells #[.int .i64 e1,.int .i64 e2] 24) _ h2.lt));have H3:=Hi h3;have HB3:=Hi hb3;rw[World.size_alloc]at H2;rw[World.size_alloc,World.size_alloc]at H3;clear hr hIH hM hnK hb1 hb2 hb3 h1 h2 h3;go_enter Tryz.func32,Tryz.ntmps32;go_upto_region 3 with fail
 generalize ((w.alloc (.cells #[.slice A nK c] 31)).alloc (.cells #[.int .i64 o1,.int .i64 o2] 24)).alloc (.cells #[.int .i64 e1,.int .i64 e2] 24)=w3 at H1 H2 H3 HB3 ⊢;obtain⟨B,hB⟩:∃B,w.heap.size=B:=⟨_,rfl⟩
 have HBB:=Hi hB;rw[hB]at H1 H2 H3 HB3 ⊢;clear hB;go_loopw [7,8,9,10,11] (fun s7 s8 _ _ _ wr=>∃(i:Nat) (v7:Value),v7=s7∧s8=.int .i64 i∧i≤nK∧Hid (wr.ownsRow w3.heap.size 24 2 v7 (dV K (o1,o2) (e1,e2) i).length (aE (dV K (o1,o2) (e1,e2) i)))∧Hid (Below w3.heap.size w3 wr)) (fun _ s8 _ _ _ _=>nK-(intOf s8).toNat)
 case atStart=>exact⟨0,_,rfl,rfl,by omega,bT _ _ _ _,sB _ _⟩
 case round =>
  obtain⟨i,v7,rfl,rfl,hi,HO,HW⟩:=hrel
  have q3:=cZ (H1.o.keep (HW.o.block _ H1.o.lt)) 0 rfl;by_cases hlt:i<nK
  ·obtain⟨x,hx⟩:∃x,K[i]?=some x:=⟨_,sD (by rw[HNK.o];exact hlt)⟩
   obtain⟨b,o,rfl,hbl,hrg⟩:=lU HRK.o (by omega) hx
   have hbw:b<w3.heap.size:=sE hbl HB3.o.size;have HRG:Hid (wr.rangeAt b (o+i*15) [.int .i64 x.1.k,.int .i64 x.1.on,.int .i64 x.1.oa,.string x.1.key,.int .i64 x.1.en,.int .i64 x.1.ea,.bool x.1.ins,.int .i64 x.1.vk,.int .i64 x.1.vn,.string x.1.vt,.int .i64 x.1.va,.int .i64 x.1.vb,.slice x.1.A x.1.l.length x.1.c,.int .i64 x.2.1,.int .i64 x.2.2]):=hrg wr ((HW.o.block _ hbw).trans (HB3.o.block _ (by rw[←HBB.o];exact hbl)));have HXM:=Hi hx;have HLT:=Hi hlt;have hkl:(dV K (o1,o2) (e1,e2) i).length≤100000:=by have:=kidsG_len K (o1,o2) (e1,e2) i;omega
   obtain⟨l,hkg⟩:∃l,dV K (o1,o2) (e1,e2) i=l:=⟨_,rfl⟩
   have HKG:=Hi hkg;rw[hkg]at HO hkl;clear hx hbl hrg hbw hkg;go_upto_block 1 with fail
   go_cut [7] (fun s7 wc=>∃v7,v7=s7∧Hid (wc.ownsRow w3.heap.size 24 2 v7 (dV K (o1,o2) (e1,e2) (i+1)).length (aE (dV K (o1,o2) (e1,e2) (i+1))))∧Hid (Below w3.heap.size w3 wc))
   case first =>
    have HX:=Hi (Blk.new wr 90 #[.int .i64 x.1.k,.int .i64 x.1.on,.int .i64 x.1.oa,.string x.1.key,.int .i64 x.1.en,.int .i64 x.1.ea,.bool x.1.ins,.int .i64 x.1.vk,.int .i64 x.1.vn,.string x.1.vt,.int .i64 x.1.va,.int .i64 x.1.vb,.slice x.1.A x.1.l.length x.1.c,.int .i64 x.2.1,.int .i64 x.2.2]);have hba:Below wr.heap.size wr (wr.alloc (.cells #[.int .i64 x.1.k,.int .i64 x.1.on,.int .i64 x.1.oa,.string x.1.key,.int .i64 x.1.en,.int .i64 x.1.ea,.bool x.1.ins,.int .i64 x.1.vk,.int .i64 x.1.vn,.string x.1.vt,.int .i64 x.1.va,.int .i64 x.1.vb,.slice x.1.A x.1.l.length x.1.c,.int .i64 x.2.1,.int .i64 x.2.2] 90)):=(sB _ wr).alloc (sC _) _;have HO2:=Hi (aS HO.o hba);have HW2:Hid (Below w3.heap.size w3 (wr.alloc (.cells #[.int .i64 x.1.k,.int .i64 x.1.on,.int .i64 x.1.oa,.string x.1.key,.int .i64 x.1.en,.int .i64 x.1.ea,.bool x.1.ins,.int .i64 x.1.vk,.int .i64 x.1.vn,.string x.1.vt,.int .i64 x.1.va,.int .i64 x.1.vb,.slice x.1.A x.1.l.length x.1.c,.int .i64 x.2.1,.int .i64 x.2.2] 90))):=HW.o.alloc HW.o.size _;clear HO HW hba;go_upto_region 6 with(refine wpList_load_mid rfl 90 (.tmp 24) rfl b (o+i*15) rfl [.int .i64 x.1.k,.int .i64 x.1.on,.int .i64 x.1.oa,.string x.1.key,.int .i64 x.1.en,.int .i64 x.1.ea,.bool x.1.ins,.int .i64 x.1.vk,.int .i64 x.1.vn,.string x.1.vt,.int .i64 x.1.va,.int .i64 x.1.vb,.slice x.1.A x.1.l.length x.1.c,.int .i64 x.2.1,.int .i64 x.2.2] _ HRG.o Tryz.underlying90 rfl pR ?_)
    generalize wr.alloc (.cells #[.int .i64 x.1.k,.int .i64 x.1.on,.int .i64 x.1.oa,.string x.1.key,.int .i64 x.1.en,.int .i64 x.1.ea,.bool x.1.ins,.int .i64 x.1.vk,.int .i64 x.1.vn,.string x.1.vt,.int .i64 x.1.va,.int .i64 x.1.vb,.slice x.1.A x.1.l.length x.1.c,.int .i64 x.2.1,.int .i64 x.2.2] 90)=wa at HX HO2 HW2 ⊢;generalize wr.heap.size=qo at HX ⊢;have p2:=cZ (H2.o.keep (HW2.o.block _ H2.o.lt)) 0 rfl;have p3:=cZ (H2.o.keep (HW2.o.block _ H2.o.lt)) 1 rfl
    have p4:=cZ (H3.o.keep (HW2.o.block _ H3.o.lt)) 0 rfl;have p5:=cZ (H3.o.keep (HW2.o.block _ H3.o.lt)) 1 rfl
    have x1:=cZ HX.o 1 rfl;have x2:=cZ HX.o 2 rfl;have x4:=cZ HX.o 4 rfl;have x5:=cZ HX.o 5 rfl;have x6:=cZ HX.o 6 rfl;have E1:=fun w=>iS x.1.on x.1.oa o1 o2 w
    have E2:=fun w=>iS x.1.en x.1.ea e1 e2 w
    have hki:jL (o1,o2) (e1,e2) x=(x.1.ins&&(x.1.on == o1&&x.1.oa == o2)&&(x.1.en == e1&&x.1.ea == e2)):=by
     unfold jL eG elP;rw[eN,eN]
    obtain⟨ib,hib⟩:∃b,x.1.ins=b:=⟨_,rfl⟩
    obtain⟨b1,hb1⟩:∃b,(x.1.on == o1&&x.1.oa == o2)=b:=⟨_,rfl⟩
    obtain⟨b2,hb2⟩:∃b,(x.1.en == e1&&x.1.ea == e2)=b:=⟨_,rfl⟩
    rw[hib]at x6;rw[hb1]at E1;rw[hb2]at E2;rw[hib,hb1,hb2]at hki;have HKI:=Hi hki;clear hki hib hb1 hb2;by_cases hall:(ib&&b1&&b2)=true
    ·have HYES:=Hi (kidsG_yes HXM.o (HKI.o.trans hall));rw[HKG.o]at HYES;simp only[tB]at hall;obtain⟨⟨rfl,rfl⟩,rfl⟩:=hall
     go_upto_region 7 with fail
     clear p2 p3 p4 p5 x1 x2 x4 x5 x6 E1 E2;obtain⟨m,hm⟩:∃m,l.length=m:=⟨_,rfl⟩
     have HN:=Hi hm;rcases HO2.o.2 with⟨hv7,h0⟩|⟨g,cap,cur,hv7,-,-,hcap,-,-,-⟩
     ·have hl0:l=[]:=tV.1 h0;subst hl0 hv7;go_upto_region 8 with fail
      go_loopw [10] (fun s10 wr=>s10=.int .i64 0∧Hid (Below wa.heap.size wa wr)) (fun _ _=>0)
      case atStart=>exact⟨rfl,sB _ _⟩
      case round =>
       obtain⟨rfl,HI⟩:=hrel
       go_wp2_with fail
       go_quiet (fail)
       change Exit.then _ _ _ _ (wr.drewN nq);have HIX:Hid (Below wa.heap.size wa (wr.drewN nq)):=aJ HI.o nq;generalize wr.drewN nq=w5 at HIX ⊢;have HBX:=Hi (HX.o.keep (HIX.o.block _ HX.o.lt));have HWX:Hid (Below w3.heap.size w3 w5):=HW2.o.trans (HIX.o.mono HW2.o.size);have HRW:Hid (aC (fun x=>x<w5.heap.size) w5 2 none 0 (aE [])):=aC.none_;have HPD:Hid (dV K (o1,o2) (e1,e2) (i+1)=([]:List Rf).take 0++x.2::([]:List Rf).drop 0):=by show _=_;rw[HYES.o];rfl
       have HN0:Hid (([]:List Rf).length=0):=rfl;have hk:0≤0:=sC _;have hnc:0≤0:=sC _;clear HI HIX HX HO2 HW2 HN hm h0;have HN:=HN0;clear HN0;obtain⟨i0,hi,hz0,hz1,hz2⟩:=info_parts iX
       have HB4:Hid (Below w5.heap.size w5 w5):=sB _ _;have HO4:Hid (w5.ownsRow w5.heap.size 24 2 (.slice none 0 0) 0 (aE [])):=bT _ _ _ _;have hQ4:=HBX.o;have z13:=cZ hQ4 13 rfl;have z14:=cZ hQ4 14 rfl;clear hQ4;go_wp2_with (at_builtin;refine bJ 28 24 (.agg #[.int .i64 0,.int .i64 0]) 2 16 Tryz.underlying28 iX rfl (by omega) rfl (.tmp 63) (.tmp 66) rfl (w5.heap.size) (.slice none 0 0) (0) (aE []) rfl (HO4.o.alloc _) (w5.heap.size) 1 ([.int .i64 x.2.1,.int .i64 x.2.2]) rfl ?d1 ?d2 ?d3 ?d4 ?d5 ?d6 ?_)
       try case d1=>rfl
       try case d2=>intro j u hj;exact eD _ _ _ hj
       try case d3=>first|exact aX [x.2]|exact⟨rfl,rfl⟩|rfl
       try case d4=>omega
       try case d5=>omega
       try case d6=>first|(have:=HB4.o.size;simp;omega)|(simp;done)
       intro v1 w1 hown1 hg1 hat1;have hb1:Below (w5.heap.size) w5 w1:=(HB4.o.alloc HB4.o.size _).grown hg1 (by have:=HB4.o.size;first|(simp;omega)|(simp;done)) (fun g hg=>(aF (HO4.o) hg).1);clear hat1 hg1;clear z13 z14;have HO5:=Hi hown1;have HB5:=Hi hb1;have HC2:Hid (aC (fun x=>x<w1.heap.size) w1 2 none (0-0) (aE (([]:List Rf).drop 0))):=by
        have:=(aA HRW.o HB5.o).cut (cap:=0) hk hnc
        rw[hZ]at this;have e0:(if 0=0 then (none:Option Addr) else none.map (fun x:Addr=>x.add (0*2)))=none:=by split<;>rfl
        rw[e0]at this;exact this
       have HC:=HC2;clear hown1 hb1 HO4 HB4 HRW HBX;go_wp2_with (at_builtin;refine aG _ rfl (.tmp 68) (.tmp 71) _ rfl (w5.heap.size) 24 i0 _ 2 16 Tryz.underlying28 hi hz0 hz1 hz2 rfl (by omega) (v1) (0+1) (aE (([]:List Rf).take 0)++[.int .i64 x.2.1,.int .i64 x.2.2]) rfl (HO5.o) _ (_) (_) (_) (aE (([]:List Rf).drop 0)) rfl ((by simpa using HC2.o)) (aX _) ?c1 ?c2 ?c3 ?_)
       try case c1=>simp only[maxLen];omega
       try case c2=>omega
       try case c3=>exact HB5.o.size
       intro v6 w6 ho6 hg6 _;have HB6:Hid (Below w5.heap.size w5 w6):=HB5.o.grown hg6 HB5.o.size (fun g hg=>(aF HO5.o hg).1);have HO6:Hid (w6.ownsRow w5.heap.size 24 2 v6 (([]:List Rf).take 0++x.2::([]:List Rf).drop 0).length (aE (([]:List Rf).take 0++x.2::([]:List Rf).drop 0))):=by
        have e1:(([]:List Rf).take 0++x.2::([]:List Rf).drop 0).length=0+1+(0-0):=by simp only[sG,tD,sW,uQ];have:=HN.o;omega
        have e2:aE (([]:List Rf).take 0++x.2::([]:List Rf).drop 0)=aE (([]:List Rf).take 0)++[.int .i64 x.2.1,.int .i64 x.2.2]++aE (([]:List Rf).drop 0):=by rw[bC,sX];rfl
        show World.ownsRow _ _ _ _ _ _ _;rw[e1,e2];simpa using ho6
       clear ho6 hg6 HC HO5 HB5;have HOF:Hid (w6.ownsRow w3.heap.size 24 2 v6 (dV K (o1,o2) (e1,e2) (i+1)).length (aE (dV K (o1,o2) (e1,e2) (i+1)))):=by
        show World.ownsRow _ _ _ _ _ _ _;rw[HPD.o];exact bU HO6.o fun g hg=>sR HWX.o.size (aF HO6.o hg).1
       have HWF:Hid (Below w3.heap.size w3 w6):=HWX.o.trans (HB6.o.mono HWX.o.size);clear HO6 HB6 HPD HWX;go_wp2_with fail
       go_meet
       case rel=>exact⟨v6,rfl,HOF,HWF⟩
     ·subst hv7;rw[hm]at HO2 hcap ⊢;have HR7:Hid (aC (fun k=>k<wa.heap.size) wa 2 (some ⟨g,0,none⟩) m (aE l)):=by
       obtain⟨A7,c7,hv,-,-,hr7⟩:=aC.of_own HO2.o
       simp only[tZ,true_and]at hv;rw[hv.1];exact hr7.more fun k hk=>(aF HO2.o hk).2
      have hm5:m≤100000:=by rw[←hm];exact hkl
      clear HO2 hkl hm;go_upto_region 8 with fail
      go_loopw [10] (fun s10 wr=>∃k:Nat,s10=.int .i64 k∧k≤m∧Hid (∀y∈l.take k,aP x.2 y=true)∧Hid (Below wa.heap.size wa wr)) (fun s10 _=>m-(intOf s10).toNat)
      case atStart=>exact⟨0,rfl,by omega,by show ∀y∈_,_;simp,sB _ _⟩
      case round =>
       obtain⟨k,rfl,hk,HI0,HI⟩:=hrel
       by_cases hlk:k<m
       ·obtain⟨y,hy⟩:∃y,l[k]?=some y:=⟨_,sD (by rw[HN.o];exact hlk)⟩
        obtain⟨b1,oo1,hA,-,hc1⟩:=(aA HR7.o HI.o).at_ (by omega) (by omega)
        simp only[uA,Addr.mk.injEq,and_true]at hA;obtain⟨rfl,rfl⟩:=hA
        have y1:wr.cell? ⟨g,k*2,none⟩=some (.int .i64 y.1):=by have:=hc1 _ _ (aL hy).1;rwa [vE]at this
        have y2:wr.cell? ⟨g,k*2+1,none⟩=some (.int .i64 y.2):=by have:=hc1 _ _ (aL hy).2;rwa [vE]at this
        have hX2:=HX.o.keep (HI.o.block _ HX.o.lt);have x13:=cZ hX2 13 rfl;have x14:=cZ hX2 14 rfl;have g1:decide ((k:Int)<m)=true:=decide_eq_true (by omega);have HY:=Hi hy;have HLK:=Hi hlk;have C3:=lR x.2.1 x.2.2 y.1 y.2 wr.drew;rw[show fQ x.2.1 x.2.2 y.1 y.2=aP x.2 y from rfl]at C3;clear hc1 hy hX2;go_wp2_with fail
        refine wp_region_still_tail 11 (by kernel_rfl) (by kernel_rfl) ?_;simp only[sV,tG,sY,tH];repeat (first|(refine aK rfl (fun K hK=>?_);go_simp;refine hK _ ?_;clear hK K)|(refine aO rfl ?_;go_frame))
        refine wpStill_nil ?_;change wpList _ _ _ _ _ wr.drew;have HI2:Hid (Below wa.heap.size wa wr.drew):=HI.o.drew;generalize wr.drew=w4 at HI2 C3 ⊢;clear y1 y2 x13 x14 HI;go_wp2_with fail
        go_at_call 38;refine C3.mono ?_;rintro e w5 ⟨rfl,hb⟩;have HI3:Hid (Below wa.heap.size wa w5):=HI2.o.trans (hb.mono HI2.o.size);clear hb HI2 C3;cases ha:aP x.2 y with
        |true =>
         have HIN:Hid (∀z∈l.take (k+1),aP x.2 z=true):=by
          intro z hz;rw[sS,HY.o]at hz;rcases sI.1 hz with hz|hz
          ·exact HI0.o z hz
          ·simp at hz;rw[hz];exact ha
         clear ha;go_wp2_with fail
         go_roundw
         case rel=>exact⟨k+1,by go_num,by have:=HLK.o;omega,HIN,HI3⟩
         case measure=>have:=HLK.o;simp[intOf];omega
        |false =>
         have HPD:Hid (dV K (o1,o2) (e1,e2) (i+1)=l.take k++x.2::l.drop k):=by
          show _=_;rw[HYES.o];exact putD_at (by rw[HN.o];exact hk) HI0.o (fun z hz=>by rw[HY.o]at hz;cases hz;exact ha)
         have HBX:=Hi (HX.o.keep (HI3.o.block _ HX.o.lt));have HWX:Hid (Below w3.heap.size w3 w5):=HW2.o.trans (HI3.o.mono HW2.o.size);have HRW:=Hi (aA HR7.o HI3.o);have hnc:=hcap;clear ha HI3 HY HX HW2 HR7 HI0 HYES;obtain⟨i0,hi,hz0,hz1,hz2⟩:=info_parts iX
         have HT:Hid (aC (fun x=>x<w5.heap.size) w5 2 (some ⟨g,0,none⟩) k (aE (l.take k))):=by have:=HRW.o.take hk;rwa [jE]at this
         go_wp2_with (at_builtin;refine aG _ rfl (.tmp 58) (.tmp 61) _ rfl (w5.heap.size) 24 i0 _ 2 16 Tryz.underlying28 hi hz0 hz1 hz2 rfl (by omega) (.slice none 0 0) (0) (aE []) rfl (bT _ _ _ _) _ (some ⟨g,0,none⟩) (k) (cap) (aE (l.take k)) rfl (HT.o) (aX _) ?c1 ?c2 ?c3 ?_)
         try case c1=>simp only[maxLen];omega
         try case c2=>omega
         try case c3=>exact sC _
         intro v4 w4 ho4 hg4 _;have HB4:Hid (Below w5.heap.size w5 w4):=(sB _ w5).grown hg4 (sC _) (fun g e=>by cases e);replace ho4:w4.ownsRow w5.heap.size 24 2 v4 k (aE (l.take k)):=by simpa[aE] using ho4
         have HO4:=Hi ho4;have hQ4:=HBX.o.keep (HB4.o.block _ HBX.o.lt);have z13:=cZ hQ4 13 rfl;have z14:=cZ hQ4 14 rfl;clear ho4 hg4 hQ4;go_wp2_with (at_builtin;refine bJ 28 24 (.agg #[.int .i64 0,.int .i64 0]) 2 16 Tryz.underlying28 iX rfl (by omega) rfl (.tmp 63) (.tmp 66) rfl (w5.heap.size) (v4) (k) (aE (l.take k)) rfl (HO4.o.alloc _) (w4.heap.size) 1 ([.int .i64 x.2.1,.int .i64 x.2.2]) rfl ?d1 ?d2 ?d3 ?d4 ?d5 ?d6 ?_)
         try case d1=>rfl
         try case d2=>intro j u hj;exact eD _ _ _ hj
         try case d3=>first|exact aX [x.2]|exact⟨rfl,rfl⟩|rfl
         try case d4=>omega
         try case d5=>omega
         try case d6=>first|(have:=HB4.o.size;simp;omega)|(simp;done)
         intro v1 w1 hown1 hg1 hat1;have hb1:Below (w5.heap.size) w5 w1:=(HB4.o.alloc HB4.o.size _).grown hg1 (by have:=HB4.o.size;first|(simp;omega)|(simp;done)) (fun g hg=>(aF (HO4.o) hg).1);clear hat1 hg1;clear z13 z14;have HO5:=Hi hown1;have HB5:=Hi hb1;have HC:Hid (aC (fun x=>x<w1.heap.size) w1 2 (if cap=k then some ⟨g,0,none⟩ else Option.map (fun x:Addr=>x.add (k*2)) (some ⟨g,0,none⟩)) (m-k) (aE (l.drop k))):=by
          have:=(aA HRW.o HB5.o).cut (cap:=cap) hk hnc
          rwa [hZ]at this
         clear hown1 hb1 HO4 HB4 HRW HT HBX;by_cases hck:cap=k
         ·rw[if_pos hck]at HC;go_wp2_with (at_builtin;refine aG _ rfl (.tmp 68) (.tmp 71) _ rfl (w5.heap.size) 24 i0 _ 2 16 Tryz.underlying28 hi hz0 hz1 hz2 rfl (by omega) (v1) (k+1) (aE (l.take k)++[.int .i64 x.2.1,.int .i64 x.2.2]) rfl (HO5.o) _ (_) (_) (_) (aE (l.drop k)) rfl ((by simpa using HC.o)) (aX _) ?c1 ?c2 ?c3 ?_)
          try case c1=>simp only[maxLen];omega
          try case c2=>omega
          try case c3=>exact HB5.o.size
          intro v6 w6 ho6 hg6 _;have HB6:Hid (Below w5.heap.size w5 w6):=HB5.o.grown hg6 HB5.o.size (fun g hg=>(aF HO5.o hg).1);have HO6:Hid (w6.ownsRow w5.heap.size 24 2 v6 (l.take k++x.2::l.drop k).length (aE (l.take k++x.2::l.drop k))):=by
           have e1:(l.take k++x.2::l.drop k).length=k+1+(m-k):=by simp only[sG,tD,sW,uQ];have:=HN.o;omega
           have e2:aE (l.take k++x.2::l.drop k)=aE (l.take k)++[.int .i64 x.2.1,.int .i64 x.2.2]++aE (l.drop k):=by rw[bC,sX];rfl
           show World.ownsRow _ _ _ _ _ _ _;rw[e1,e2];simpa using ho6
          clear ho6 hg6 HC HO5 HB5;have HOF:Hid (w6.ownsRow w3.heap.size 24 2 v6 (dV K (o1,o2) (e1,e2) (i+1)).length (aE (dV K (o1,o2) (e1,e2) (i+1)))):=by
           show World.ownsRow _ _ _ _ _ _ _;rw[HPD.o];exact bU HO6.o fun g hg=>sR HWX.o.size (aF HO6.o hg).1
          have HWF:Hid (Below w3.heap.size w3 w6):=HWX.o.trans (HB6.o.mono HWX.o.size);clear HO6 HB6 HPD HWX;go_wp2_with fail
          go_meet
          case rel=>exact⟨v6,rfl,HOF,HWF⟩
         ·rw[if_neg hck]at HC;have HC2:Hid (aC (fun x=>x<w1.heap.size) w1 2 (some ⟨g,k*2,none⟩) (m-k) (aE (l.drop k))):=by have:=HC.o;rw[vK,addr0]at this;exact this
          go_wp2_with (at_builtin;refine aG _ rfl (.tmp 68) (.tmp 71) _ rfl (w5.heap.size) 24 i0 _ 2 16 Tryz.underlying28 hi hz0 hz1 hz2 rfl (by omega) (v1) (k+1) (aE (l.take k)++[.int .i64 x.2.1,.int .i64 x.2.2]) rfl (HO5.o) _ (_) (_) (_) (aE (l.drop k)) rfl ((by simpa using HC2.o)) (aX _) ?c1 ?c2 ?c3 ?_)
          try case c1=>simp only[maxLen];omega
          try case c2=>omega
          try case c3=>exact HB5.o.size
          intro v6 w6 ho6 hg6 _;have HB6:Hid (Below w5.heap.size w5 w6):=HB5.o.grown hg6 HB5.o.size (fun g hg=>(aF HO5.o hg).1);have HO6:Hid (w6.ownsRow w5.heap.size 24 2 v6 (l.take k++x.2::l.drop k).length (aE (l.take k++x.2::l.drop k))):=by
           have e1:(l.take k++x.2::l.drop k).length=k+1+(m-k):=by simp only[sG,tD,sW,uQ];have:=HN.o;omega
           have e2:aE (l.take k++x.2::l.drop k)=aE (l.take k)++[.int .i64 x.2.1,.int .i64 x.2.2]++aE (l.drop k):=by rw[bC,sX];rfl
           show World.ownsRow _ _ _ _ _ _ _;rw[e1,e2];simpa using ho6
          clear ho6 hg6 HC HO5 HB5;have HOF:Hid (w6.ownsRow w3.heap.size 24 2 v6 (dV K (o1,o2) (e1,e2) (i+1)).length (aE (dV K (o1,o2) (e1,e2) (i+1)))):=by
           show World.ownsRow _ _ _ _ _ _ _;rw[HPD.o];exact bU HO6.o fun g hg=>sR HWX.o.size (aF HO6.o hg).1
          have HWF:Hid (Below w3.heap.size w3 w6):=HWX.o.trans (HB6.o.mono HWX.o.size);clear HO6 HB6 HPD HWX;go_wp2_with fail
          go_meet
          case rel=>exact⟨v6,rfl,HOF,HWF⟩
       ·have g1:decide ((k:Int)<m)=false:=decide_eq_false (by omega);have hkm:m=k:=by omega
        subst hkm;have HPD:Hid (dV K (o1,o2) (e1,e2) (i+1)=l.take m++x.2::l.drop m):=by
         show _=_;rw[HYES.o];exact putD_at (by rw[HN.o];exact sC _) HI0.o (fun z hz=>by rw[uF (by rw[HN.o];exact sC _)]at hz;cases hz)
        go_wp2_with fail
        go_quiet (fail)
        change Exit.then _ _ _ _ (wr.drewN nq);have HI3:Hid (Below wa.heap.size wa (wr.drewN nq)):=aJ HI.o nq;generalize wr.drewN nq=w5 at HI3 ⊢;have HBX:=Hi (HX.o.keep (HI3.o.block _ HX.o.lt));have HWX:Hid (Below w3.heap.size w3 w5):=HW2.o.trans (HI3.o.mono HW2.o.size);have HRW:=Hi (aA HR7.o HI3.o);have hnc:=hcap;clear HI HI3 HX HW2 HR7 HI0 HYES;obtain⟨i0,hi,hz0,hz1,hz2⟩:=info_parts iX
        have HT:Hid (aC (fun x=>x<w5.heap.size) w5 2 (some ⟨g,0,none⟩) m (aE (l.take m))):=by have:=HRW.o.take hk;rwa [jE]at this
        go_wp2_with (at_builtin;refine aG _ rfl (.tmp 58) (.tmp 61) _ rfl (w5.heap.size) 24 i0 _ 2 16 Tryz.underlying28 hi hz0 hz1 hz2 rfl (by omega) (.slice none 0 0) (0) (aE []) rfl (bT _ _ _ _) _ (some ⟨g,0,none⟩) (m) (cap) (aE (l.take m)) rfl (HT.o) (aX _) ?c1 ?c2 ?c3 ?_)
        try case c1=>simp only[maxLen];omega
        try case c2=>omega
        try case c3=>exact sC _
        intro v4 w4 ho4 hg4 _;have HB4:Hid (Below w5.heap.size w5 w4):=(sB _ w5).grown hg4 (sC _) (fun g e=>by cases e);replace ho4:w4.ownsRow w5.heap.size 24 2 v4 m (aE (l.take m)):=by simpa[aE] using ho4
        have HO4:=Hi ho4;have hQ4:=HBX.o.keep (HB4.o.block _ HBX.o.lt);have z13:=cZ hQ4 13 rfl;have z14:=cZ hQ4 14 rfl;clear ho4 hg4 hQ4;go_wp2_with (at_builtin;refine bJ 28 24 (.agg #[.int .i64 0,.int .i64 0]) 2 16 Tryz.underlying28 iX rfl (by omega) rfl (.tmp 63) (.tmp 66) rfl (w5.heap.size) (v4) (m) (aE (l.take m)) rfl (HO4.o.alloc _) (w4.heap.size) 1 ([.int .i64 x.2.1,.int .i64 x.2.2]) rfl ?d1 ?d2 ?d3 ?d4 ?d5 ?d6 ?_)
        try case d1=>rfl
        try case d2=>intro j u hj;exact eD _ _ _ hj
        try case d3=>first|exact aX [x.2]|exact⟨rfl,rfl⟩|rfl
        try case d4=>omega
        try case d5=>omega
        try case d6=>first|(have:=HB4.o.size;simp;omega)|(simp;done)
        intro v1 w1 hown1 hg1 hat1;have hb1:Below (w5.heap.size) w5 w1:=(HB4.o.alloc HB4.o.size _).grown hg1 (by have:=HB4.o.size;first|(simp;omega)|(simp;done)) (fun g hg=>(aF (HO4.o) hg).1);clear hat1 hg1;clear z13 z14;have HO5:=Hi hown1;have HB5:=Hi hb1;have HC:Hid (aC (fun x=>x<w1.heap.size) w1 2 (if cap=m then some ⟨g,0,none⟩ else Option.map (fun x:Addr=>x.add (m*2)) (some ⟨g,0,none⟩)) (m-m) (aE (l.drop m))):=by
         have:=(aA HRW.o HB5.o).cut (cap:=cap) hk hnc
         rwa [hZ]at this
        clear hown1 hb1 HO4 HB4 HRW HT HBX;by_cases hck:cap=m
        ·rw[if_pos hck]at HC;go_wp2_with (at_builtin;refine aG _ rfl (.tmp 68) (.tmp 71) _ rfl (w5.heap.size) 24 i0 _ 2 16 Tryz.underlying28 hi hz0 hz1 hz2 rfl (by omega) (v1) (m+1) (aE (l.take m)++[.int .i64 x.2.1,.int .i64 x.2.2]) rfl (HO5.o) _ (_) (_) (_) (aE (l.drop m)) rfl ((by simpa using HC.o)) (aX _) ?c1 ?c2 ?c3 ?_)
         try case c1=>simp only[maxLen];omega
         try case c2=>omega
         try case c3=>exact HB5.o.size
         intro v6 w6 ho6 hg6 _;have HB6:Hid (Below w5.heap.size w5 w6):=HB5.o.grown hg6 HB5.o.size (fun g hg=>(aF HO5.o hg).1);have HO6:Hid (w6.ownsRow w5.heap.size 24 2 v6 (l.take m++x.2::l.drop m).length (aE (l.take m++x.2::l.drop m))):=by
          have e1:(l.take m++x.2::l.drop m).length=m+1+(m-m):=by simp only[sG,tD,sW,uQ];have:=HN.o;omega
          have e2:aE (l.take m++x.2::l.drop m)=aE (l.take m)++[.int .i64 x.2.1,.int .i64 x.2.2]++aE (l.drop m):=by rw[bC,sX];rfl
          show World.ownsRow _ _ _ _ _ _ _;rw[e1,e2];simpa using ho6
         clear ho6 hg6 HC HO5 HB5;have HOF:Hid (w6.ownsRow w3.heap.size 24 2 v6 (dV K (o1,o2) (e1,e2) (i+1)).length (aE (dV K (o1,o2) (e1,e2) (i+1)))):=by
          show World.ownsRow _ _ _ _ _ _ _;rw[HPD.o];exact bU HO6.o fun g hg=>sR HWX.o.size (aF HO6.o hg).1
         have HWF:Hid (Below w3.heap.size w3 w6):=HWX.o.trans (HB6.o.mono HWX.o.size);clear HO6 HB6 HPD HWX;go_wp2_with fail
         go_meet
         case rel=>exact⟨v6,rfl,HOF,HWF⟩
        ·rw[if_neg hck]at HC;have HC2:Hid (aC (fun x=>x<w1.heap.size) w1 2 (some ⟨g,m*2,none⟩) (m-m) (aE (l.drop m))):=by have:=HC.o;rw[vK,addr0]at this;exact this
         go_wp2_with (at_builtin;refine aG _ rfl (.tmp 68) (.tmp 71) _ rfl (w5.heap.size) 24 i0 _ 2 16 Tryz.underlying28 hi hz0 hz1 hz2 rfl (by omega) (v1) (m+1) (aE (l.take m)++[.int .i64 x.2.1,.int .i64 x.2.2]) rfl (HO5.o) _ (_) (_) (_) (aE (l.drop m)) rfl ((by simpa using HC2.o)) (aX _) ?c1 ?c2 ?c3 ?_)
         try case c1=>simp only[maxLen];omega
         try case c2=>omega
         try case c3=>exact HB5.o.size
         intro v6 w6 ho6 hg6 _;have HB6:Hid (Below w5.heap.size w5 w6):=HB5.o.grown hg6 HB5.o.size (fun g hg=>(aF HO5.o hg).1);have HO6:Hid (w6.ownsRow w5.heap.size 24 2 v6 (l.take m++x.2::l.drop m).length (aE (l.take m++x.2::l.drop m))):=by
          have e1:(l.take m++x.2::l.drop m).length=m+1+(m-m):=by simp only[sG,tD,sW,uQ];have:=HN.o;omega
          have e2:aE (l.take m++x.2::l.drop m)=aE (l.take m)++[.int .i64 x.2.1,.int .i64 x.2.2]++aE (l.drop m):=by rw[bC,sX];rfl
          show World.ownsRow _ _ _ _ _ _ _;rw[e1,e2];simpa using ho6
         clear ho6 hg6 HC HO5 HB5;have HOF:Hid (w6.ownsRow w3.heap.size 24 2 v6 (dV K (o1,o2) (e1,e2) (i+1)).length (aE (dV K (o1,o2) (e1,e2) (i+1)))):=by
          show World.ownsRow _ _ _ _ _ _ _;rw[HPD.o];exact bU HO6.o fun g hg=>sR HWX.o.size (aF HO6.o hg).1
         have HWF:Hid (Below w3.heap.size w3 w6):=HWX.o.trans (HB6.o.mono HWX.o.size);clear HO6 HB6 HPD HWX;go_wp2_with fail
         go_meet
         case rel=>exact⟨v6,rfl,HOF,HWF⟩
    ·have HNO:=Hi (kidsG_no HXM.o (HKI.o.trans (by simpa using hall)));rw[HKG.o]at HNO;have HO3:Hid (wa.ownsRow w3.heap.size 24 2 v7 (dV K (o1,o2) (e1,e2) (i+1)).length (aE (dV K (o1,o2) (e1,e2) (i+1)))):=by show World.ownsRow _ _ _ _ _ _ _;rw[HNO.o];exact HO2.o
     cases ib<;>cases b1<;>cases b2<;>first
      |exact absurd rfl hall
      |(clear hall;go_wp2_with fail
        go_meet
        case rel=>exact⟨v7,rfl,HO3,HW2⟩)
   case rest =>
    obtain⟨v8,rfl,HO3,HW3⟩:=hcut
    clear HO HW q3 HRG;go_wp2_with fail
    go_roundw
    case rel=>exact⟨i+1,v8,rfl,by go_num,by have:=HLT.o;omega,HO3,HW3⟩
    case measure=>have:=HLT.o;simp[intOf];omega
  ·have hin:i=nK:=by omega
   have HKP:Hid (dV K (o1,o2) (e1,e2) i=dH K (o1,o2) (e1,e2)):=by show _=_;unfold dV dH;rw[sL (by rw[HNK.o];omega)]
   rw[HKP.o]at HO;have hkl:(dH K (o1,o2) (e1,e2)).length≤100000:=by have:=kidsG_len K (o1,o2) (e1,e2) i;rw[HKP.o]at this;omega
   clear hin HKP;obtain⟨l,hl0⟩:∃l,dH K (o1,o2) (e1,e2)=l:=⟨_,rfl⟩
   have HLE:=Hi hl0;rw[hl0]at HO hkl;clear hl0;obtain⟨A7,c7,rfl,-,-,hr7⟩:=aC.of_own HO.o
   have HR7:Hid (aC (fun k=>k<wr.heap.size) wr 2 A7 l.length (aE l)):=hr7.more fun k hk=>(aF HO.o hk).2
   obtain⟨m,hm⟩:∃m,l.length=m:=⟨_,rfl⟩
   have HN:=Hi hm;rw[hm]at HR7 hkl ⊢;have HFL:Hid (∀j,((l.take j).flatMap fun k=>k::f k).length≤1000000):=fun j=>by
    have h1:=(flatMap_sub (fun k=>k::f k) (List.take_sublist j l)).length_le;have h2:=HMM.o;rw[HLE.o]at h2;omega
   clear hr7 HO hm;obtain⟨wo,hwo⟩:∃wo,wo=wr:=⟨_,rfl⟩
   subst hwo;go_upto_region 16 with fail
   go_loopw [12,13] (fun s12 s13 wr=>∃(j:Nat) (v12:Value),v12=s12∧s13=.int .i64 j∧j≤m∧Hid (wr.ownsRow wo.heap.size 24 2 v12 ((l.take j).flatMap fun k=>k::f k).length (aE ((l.take j).flatMap fun k=>k::f k)))∧Hid (Below wo.heap.size wo wr)) (fun _ s13 _=>m-(intOf s13).toNat)
   case atStart=>exact⟨0,_,rfl,rfl,by omega,bT _ _ _ _,sB _ _⟩
   case round =>
    clear q3;obtain⟨j,v12,rfl,rfl,hj,HO,HI⟩:=hrel
    by_cases hlj:j<m
    ·obtain⟨x,hx⟩:∃x,l[j]?=some x:=⟨_,sD (by rw[HN.o];exact hlj)⟩
     obtain⟨b1,oo1,hA7,hbl1,hc1⟩:=HR7.o.at_ (by omega) (by omega)
     have HX:Hid (∀V,Below wo.heap.size wo V→V.cell? ⟨b1,oo1+j*2,none⟩=some (.int .i64 x.1)∧V.cell? ⟨b1,oo1+j*2+1,none⟩=some (.int .i64 x.2)):=fun V hv=>⟨(sM (hv.block _ hbl1)).trans (hc1 _ _ (aL hx).1),(sM (hv.block _ hbl1)).trans (hc1 _ _ (aL hx).2)⟩
     have HTK:Hid ((l.take (j+1)).flatMap (fun k=>k::f k)=(l.take j).flatMap (fun k=>k::f k)++x::f x):=by
      show _=_;rw[sS,hx,uD];simp
     have HXM:Hid (x∈dH K (o1,o2) (e1,e2)):=by show _∈_;rw[HLE.o];exact sJ hx
     have HLJ:=Hi hlj;have hf1:=HFL.o (j+1);rw[HTK.o,sG,sW]at hf1;subst hA7;clear hx hbl1 hc1;obtain⟨S,hS⟩:∃S,(l.take j).flatMap (fun k=>k::f k)=S:=⟨_,rfl⟩
     have HSS:=Hi hS;rw[hS]at HO hf1;clear hS;have x1:=(HX.o wr HI.o).1;have x2:=(HX.o wr HI.o).2;have HWr:Hid (Below w.heap.size w wr):=by
      have h1:Below w.heap.size w wo:=by rw[HBB.o];exact HB3.o.trans (HW.o.mono (by rw[←HBB.o];exact HB3.o.size))
      exact h1.trans (HI.o.mono h1.size)
     obtain⟨nS,hnS⟩:∃n,S.length=n:=⟨_,rfl⟩
     have HNS:=Hi hnS;rw[hnS]at HO hf1;clear hnS;go_wp2_with (at_builtin;refine bJ 28 24 (.agg #[.int .i64 0,.int .i64 0]) 2 16 Tryz.underlying28 iX rfl (by omega) rfl (.tmp 79) (.tmp 84) rfl (wo.heap.size) (_) (nS) (aE S) rfl (HO.o.alloc _) (wr.heap.size) 1 ([.int .i64 x.1,.int .i64 x.2]) rfl ?c1 ?c2 ?c3 ?c4 ?c5 ?c6 ?_)
     try case c1=>rfl
     try case c2=>intro j u hj;exact eD _ _ _ hj
     try case c3=>first|exact aX [x]|exact⟨rfl,rfl⟩|rfl
     try case c4=>omega
     try case c5=>omega
     try case c6=>first|(have:=HI.o.size;simp;omega)|(simp;done)
     intro v1 w1 hown1 hg1 hat1;have hb1:Below (wo.heap.size) wo w1:=(HI.o.alloc HI.o.size _).grown hg1 (by have:=HI.o.size;first|(simp;omega)|(simp;done)) (fun g hg=>(aF (HO.o) hg).1);clear hat1 hg1 x1 x2;have HO1:=Hi hown1;have HI1:=Hi hb1;have HW1:Hid (Below w3.heap.size w3 w1):=HW.o.trans (hb1.mono HW.o.size);have HWw:Hid (Below w.heap.size w w1):=by
      have h1:Below w.heap.size w wo:=by rw[HBB.o];exact HB3.o.trans (HW.o.mono (by rw[←HBB.o];exact HB3.o.size))
      exact h1.trans (hb1.mono h1.size)
     clear hown1 hb1 HO HI HWr;obtain⟨A1,c1,hv1,-,-,-⟩:=aC.of_own HO1.o
     subst hv1;have x1:=(HX.o w1 HI1.o).1;have x2:=(HX.o w1 HI1.o).2;have p0:=cZ (H1.o.keep (HW1.o.block _ H1.o.lt)) 0 rfl;have p2:=cZ (H2.o.keep (HW1.o.block _ H2.o.lt)) 0 rfl;have p3:=cZ (H2.o.keep (HW1.o.block _ H2.o.lt)) 1 rfl
     have C3:=HIH.o x HXM.o w1.drew HWw.o.drew;unfold rG at C3;go_upto_region 19 with fail
     refine fR 7 ((.slice A1 (nS+1) c1)) (by kernel_rfl) (by kernel_rfl) (fun _ _ _ h=>h) (Or.inl ⟨by rfl,?_⟩) ?_
     ·(intro w;go_simp;try with_reducible rfl)
     simp only[sV,tG,sY,tH];go_frame;repeat (first|(refine aK rfl (fun K hK=>?_);go_simp;refine hK _ ?_;clear hK K)|(refine aO rfl ?_;go_frame))
     refine wpStill_nil ?_;change wpList _ _ _ _ _ w1.drew;have HO2:Hid (w1.drew.ownsRow wo.heap.size 24 2 (.slice A1 (nS+1) c1) (nS+1) (aE S++[.int .i64 x.1,.int .i64 x.2])):=HO1.o.drew;have HI2:Hid (Below wo.heap.size wo w1.drew):=HI1.o.drew;clear x1 x2 p0 p2 p3 HO1 HI1 HW1 HWw;generalize w1.drew=w2 at HO2 HI2 C3 ⊢;go_wp2_with fail
     go_at_call 32;refine C3.mono ?_;rintro e w5 ⟨v5,rfl,ho5,hb5⟩;obtain⟨A5,c5,hv5,-,-,hr5⟩:=aC.of_own ho5
     subst hv5;have HR5:Hid (aC (fun k=>k<w5.heap.size) w5 2 A5 (f x).length (aE (f x))):=hr5.more fun k hk=>(aF ho5 hk).2
     have HO5:=Hi (aS HO2.o hb5);have HI5:Hid (Below wo.heap.size wo w5):=HI2.o.trans (hb5.mono HI2.o.size);have hbs:=HI5.o.size;clear C3 ho5 hb5 hr5 HO2 HI2;obtain⟨nf,hnf⟩:∃n,(f x).length=n:=⟨_,rfl⟩
     have HNF:=Hi hnf;rw[hnf]at HR5 hf1 ⊢;clear hnf;obtain⟨i0,hi0,hz0,hz1,hz2⟩:=info_parts iX
     have hi:=hi0;go_wp2_with (at_builtin;refine aG _ rfl (.tmp 86) (.tmp 93) _ rfl (wo.heap.size) 24 i0 _ 2 16 Tryz.underlying28 hi hz0 hz1 hz2 rfl (by omega) (.slice A1 (nS+1) c1) (nS+1) (aE S++[Value.int .i64 x.1,Value.int .i64 x.2]) rfl (HO5.o) _ (A5) (nf) (c5) (aE (f x)) rfl (HR5.o) (aX _) ?c1 ?c2 ?c3 ?_)
     try case c1=>simp only[maxLen];omega
     try case c2=>omega
     try case c3=>exact hbs
     intro v6 w6 ho6 hg6 _;have HI6:Hid (Below wo.heap.size wo w6):=HI5.o.grown hg6 HI5.o.size (fun g hg=>(aF HO5.o hg).1);have HO6:Hid (w6.ownsRow wo.heap.size 24 2 v6 ((l.take (j+1)).flatMap fun k=>k::f k).length (aE ((l.take (j+1)).flatMap fun k=>k::f k))):=by
      have e1:(S++x::f x).length=nS+1+nf:=by rw[sG,sW,HNS.o,HNF.o];omega
      have e2:aE (S++x::f x)=aE S++[.int .i64 x.1,.int .i64 x.2]++aE (f x):=by rw[bC,sX];rfl
      show World.ownsRow _ _ _ _ _ _ _;rw[HTK.o,HSS.o,e1,e2];simpa using ho6
     clear ho6 hg6 HO5 HI5 HR5 hbs;go_wp2_with fail
     go_roundw
     case rel=>exact⟨j+1,v6,rfl,by go_num,by have:=HLJ.o;omega,HO6,HI6⟩
     case measure=>have:=HLJ.o;simp[intOf];omega
    ·have hjm:j=m:=by omega
     have HOF:Hid (wr.ownsRow w.heap.size 24 2 v12 (l.flatMap fun k=>k::f k).length (aE (l.flatMap fun k=>k::f k))):=by
      have h1:=HO.o;rw[sL (by rw[HN.o];omega)]at h1;exact bU h1 fun g hg=>by
       have h2:=(aF h1 hg).1;have h3:=HW.o.size;have h4:=HB3.o.size;have h5:=HBB.o;omega
     have HWF:Hid (Below w.heap.size w wr):=by
      have h1:Below w.heap.size w wo:=by rw[HBB.o];exact HB3.o.trans (HW.o.mono (by rw[←HBB.o];exact HB3.o.size))
      exact h1.trans (HI.o.mono h1.size)
     clear HO HI hjm;go_wp2_with fail
     go_ret;exact⟨v12,rfl,by rw[HLE.o];exact HOF.o,HWF.o⟩
theorem flat_part{α β:Type}(f:α→List β){l:List α}{k:α}(h:k∈l):(f k).Sublist (l.flatMap f):=by
 obtain⟨p,q,rfl⟩:=vH h
 rw[uD,tM];exact(List.sublist_append_left _ _).trans (List.sublist_append_right _ _)
theorem behE_any{K:List OpI}{N:Int}(hK:KTree K N)(o1 o2:Int)(A:Option Addr)(c M:Nat)(hl:K.length≤100000)(hM:M≤1000000):∀(n:Nat) (e:Rf) (w:World),N-e.1<n→aC (fun k=>k<w.heap.size) w 15 A K.length (cN K)→(iF K (o1,o2) n e).length≤M→rG A c K.length o1 o2 e (iF K (o1,o2) n e) w
 |0,e,w,h1,hr,h2=>by
  have hk:dH K (o1,o2) e=[]:=List.eq_nil_iff_forall_not_mem.2 fun k hk=>by have:=hK.kid hk;omega
  have:=beh_step K o1 o2 e.1 e.2 A c (fun _=>[]) w hr hl (fun k hk'=>by rw[hk]at hk';cases hk') (by rw[hk];simp)
  rw[hk]at this;exact this
 |n+1,e,w,h1,hr,h2=>by
  have hsub:∀k∈dH K (o1,o2) e,(iF K (o1,o2) n k).length≤M:=fun k hk=>by
   have h3:(k::iF K (o1,o2) n k).Sublist (iF K (o1,o2) (n+1) e):=by
    show(k::iF K (o1,o2) n k).Sublist ((dH K (o1,o2) e).flatMap fun k=>k::iF K (o1,o2) n k)
    exact flat_part (fun k=>k::iF K (o1,o2) n k) hk
   have:=h3.length_le
   simp only[sW]at this;omega
  have:=beh_step K o1 o2 e.1 e.2 A c (iF K (o1,o2) n) w hr hl (fun k hk V hV=>by
   have h3:=hK.kid hk;exact behE_any hK o1 o2 A c M hl hM n k V (by omega) (aA hr hV) (hsub k hk)) (by
   have h4:iF K (o1,o2) (n+1) e=(dH K (o1,o2) e).flatMap fun k=>k::iF K (o1,o2) n k:=rfl
   rw[h4]at h2;exact sR h2 hM)
  exact this
end
section
theorem sElems_any{K:List OpI}{N:Int}(hK:KTree K N)(o1 o2:Int)(A:Option Addr)(c n:Nat)(w:World)(hr:aC (fun k=>k<w.heap.size) w 15 A K.length (cN K))(hl:K.length≤100000)(hn:N<n)(hM:(iF K (o1,o2) n (0,0)).length≤1000000):
 Calls Tryz.prog 9 #[.agg #[.slice A K.length c],.agg #[.int .i64 o1,.int .i64 o2]] w fun e w'=>∃v,e=.returned v∧w'.ownsRow w.heap.size 24 2 v (iF K (o1,o2) n (0,0)).length (aE (iF K (o1,o2) n (0,0)))∧Below w.heap.size w w':=by
 obtain⟨nK,hnK⟩:∃n,K.length=n:=⟨_,rfl⟩
 have HN:=Hi hnK;have hb1:Below w.heap.size w (w.alloc (.cells #[.slice A nK c] 31)):=(sB _ w).alloc (sC _) _;have hb2:Below w.heap.size w ((w.alloc (.cells #[.slice A nK c] 31)).alloc (.cells #[.int .i64 o1,.int .i64 o2] 24)):=hb1.alloc hb1.size _;have C:=behE_any hK o1 o2 A c 1000000 hl (sC _) n (0,0) _ (by show N-0<n;omega) (aA hr hb2) hM;unfold rG at C;have HB:=Hi hb2;rw[hnK]at C ⊢;clear hr hb1 hb2 hnK;go_enter Tryz.func9,Tryz.ntmps9;go_wp2_with fail
 refine C.mono ?_;rintro e w2 ⟨v2,rfl,ho,hb⟩;have HF:Hid (Below w.heap.size w w2):=HB.o.trans (hb.mono HB.o.size);have HO:=Hi (bU ho (base':=w.heap.size) fun k hk=>sR HB.o.size (aF ho hk).1);clear ho hb C;go_wp2_with fail
 go_ret;exact⟨_,rfl,HO.o,HF.o⟩
end
end Go.Proofs.YtmpkejflgpodkaaGreatDoor
