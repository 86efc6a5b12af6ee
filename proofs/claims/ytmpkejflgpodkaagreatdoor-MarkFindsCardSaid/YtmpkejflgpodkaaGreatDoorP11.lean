/- The program's writer, in the words of a growing row. -/
import Derived.Test.YtmpkejflgpodkaaGreatDoorP10
import Derived.Lib.Strings
import Derived.Test.YtmpkejflgpodkaaGreatDoorP1
import Derived.Test.YtmpkejflgpodkaaGreatDoorP9
import Derived.StillTailTactics
import Derived.Maps.RangeWalk
import Derived.Test.YtmpkejflgpodkaaGreatDoorP6
set_option maxHeartbeats 8000000
set_option maxRecDepth 20000
set_option linter.unusedVariables false
set_option linter.unusedSimpArgs false
namespace Go.Proofs.YtmpkejflgpodkaaGreatDoor
open Go.ChangeShapes Go.WideShapes Go.ChangeAt Go.RowKit
section
end
section
end
section
theorem oR:(Tryz.prog.info? 24).map (fun i=>(i.zero,i.size,i.bytes))=some (some (.agg #[.int .i64 0,.int .i64 0]),2,16):=by kernel_rfl
theorem aR{c:Prop}[Decidable c]{a b:Nat}(h:(if c then a else b)=0)(ha:a≠0):¬c∧b=0:=by
 by_cases hc:c
 ·rw[if_pos hc]at h;exact absurd h ha
 ·rw[if_neg hc]at h;exact⟨hc,h⟩
theorem id_nat{a b:Int}(h:idB a b=true):jC a∧jC b:=by
 simp only[idB,bK,cQ,qW,kF,xY,tB,decide_eq_true_eq]at h;unfold jC;omega
theorem real_nat{a b:Int}(h:cQ a b=true):jC a∧jC b:=id_nat (by rw[idB,h,Bool.or_true])
theorem value_good{k n:Int}{t:ByteArray}{a b:Int}(h:aD k n t a b=true):jC k∧t.size≤60:=by
 have he:∀t:ByteArray,t.toList.isEmpty=true→t.size≤60:=fun t ht=>by
  rw[Lib.toList_data]at ht;have h0:t.data.toList=[]:=by simpa using ht
  have:t.data.toList.length=0:=by rw[h0];rfl
  rw[vJ]at this;rw[ByteArray.size];omega
 unfold aD at h;split at h
 ·subst_vars;exact⟨⟨by omega,by omega⟩,he t (by simp[bW]at h ⊢;exact h.1.1)⟩
 split at h
 ·subst_vars;exact⟨⟨by omega,by omega⟩,he t (by simp[bW]at h ⊢;exact h.1.1)⟩
 split at h
 ·rename_i hk;exact⟨⟨by omega,by omega⟩,he t (by simp[bW]at h ⊢;exact h.1)⟩
 split at h
 ·subst_vars;exact⟨⟨by omega,by omega⟩,by simp at h;exact h.2⟩
 split at h
 ·rename_i hk;exact⟨⟨by omega,by omega⟩,he t (by simp at h ⊢;exact h.1.2)⟩
 ·cases h
theorem tail_value{k:Int}{kn root ins pe v kb:Bool}(h:nN k kn root ins pe v kb=0):v=true:=by
 unfold nN at h;have h1:=(aR h (by omega)).2;have h2:=(aR h1 (by omega)).1;simpa using h2
theorem op_good{o:OpD}(h:fC o=0)(hv:(Lit.int .i64 o.vn).wf=true):OpG o:=by
 unfold fC opE at h;obtain⟨h1,h⟩:=aR h (by omega)
 obtain⟨h2,h⟩:=aR h (by omega)
 obtain⟨h3,h⟩:=aR h (by omega)
 by_cases h4:fE o.l≠0
 ·rw[if_pos h4]at h;exact absurd h h4
 rw[if_neg h4]at h;have hI:idB o.on o.oa=true:=by
  cases hx:idB o.on o.oa
  ·exact absurd (Or.inr (Or.inr (Or.inl hx))) h1
  ·rfl
 have hJ:idB o.en o.ea=true:=by
  cases hx:idB o.en o.ea
  ·exact absurd (Or.inr (Or.inr (Or.inr hx))) h1
  ·rfl
 have hV:=value_good (tail_value h);have hL:o.l.length≤12:=by
  have:fE o.l=0:=by omega
  unfold fE at this;have:=(aR this (by omega)).1
  omega
 refine⟨?_,(id_nat hI).1,(id_nat hI).2,by omega,(id_nat hJ).1,(id_nat hJ).2,hV.1,hv,hV.2,hL,fun r hr=>?_⟩
 ·have:¬o.k<1∧¬4<o.k:=⟨fun hx=>h1 (Or.inl hx),fun hx=>h1 (Or.inr (Or.inl hx))⟩
  exact⟨by omega,by omega⟩
 ·have:o.l.all (fun r=>cQ r.1 r.2)=true:=by simpa using h2
  exact real_nat (tP.1 this r hr)
theorem ops_good:∀ {l:List OpD},fI l=0→(∀o∈l,(Lit.int .i64 o.vn).wf=true)→∀o∈l,OpG o
 | [],_,_,_,h=>by cases h
 |x::l,h,hv,o,ho=>by
  have hx:fC x=0:=by
   by_cases h0:fC x=0
   ·exact h0
   ·simp only[fI,if_neg h0]at h;exact absurd h h0
  have hr:fI l=0:=by simp only[fI,if_pos hx]at h;exact h
  rcases sK.1 ho with rfl|ho
  ·exact op_good hx (hv _ (by simp))
  ·exact ops_good hr (fun o ho=>hv o (by simp[ho])) o ho
theorem refs_good:∀ {l:List Rf} {p:Int},cK p l=0→∀r∈l,jC r.1∧jC r.2
 | [],_,_,_,h=>by cases h
 |x::l,p,h,r,hr=>by
  simp only[cK]at h;obtain⟨h1,h⟩:=aR h (by omega)
  obtain⟨_,h⟩:=aR h (by omega)
  rcases sK.1 hr with rfl|hr
  ·have:dZ r=true:=by simpa using h1
   simp only[dZ,tB,decide_eq_true_eq]at this;unfold jC;omega
  ·exact refs_good h r hr
theorem chg_good{a s st:Int}{deps:List Rf}{ops:List OpD}(h:dK a s st deps ops=0)(hv:∀o∈ops,(Lit.int .i64 o.vn).wf=true):EncG a s st deps ops∧1≤st∧st≤1000000:=by
 unfold dK at h;obtain⟨h1,h⟩:=aR h (by omega)
 obtain⟨h2,h⟩:=aR h (by omega)
 by_cases h3:cK 0 deps≠0
 ·rw[if_pos h3]at h;exact absurd h h3
 rw[if_neg h3]at h;obtain⟨h4,h⟩:=aR h (by omega)
 obtain⟨h5,h⟩:=aR h (by omega)
 have hr:dZ (a,s)=true:=by
  cases hx:dZ (a,s)
  ·exact absurd (Or.inl hx) h1
  ·rfl
 simp only[dZ,tB,decide_eq_true_eq]at hr;have hs:¬st<1∧¬1000000<st:=⟨fun hx=>h1 (Or.inr (Or.inl hx)),fun hx=>h1 (Or.inr (Or.inr hx))⟩;refine⟨⟨⟨by omega,by omega⟩,⟨by omega,by omega⟩,⟨by omega,by omega⟩,by omega,refs_good (p:=0) (by omega),by omega,ops_good h hv⟩,by omega,by omega⟩
end
section
def jJ(l:List UInt8)(most at_:Nat)(bad:Bool):List UInt8×Nat×Bool :=
 match cV l most at_ bad with
 |(n,a,b)=>if b=true∨l.length-a<n then ([],a,true) else ((l.drop a).take n,a+n,false)
theorem rdText_no{l:List UInt8}{most at_ n a:Nat}{bad b:Bool}(h:cV l most at_ bad=(n,a,b))(hc:b=true∨l.length-a<n):jJ l most at_ bad=([],a,true):=by
 unfold jJ;rw[h];exact if_pos hc
theorem rdText_ok{l:List UInt8}{most at_ n a:Nat}{bad:Bool}(h:cV l most at_ bad=(n,a,false))(hc:n≤l.length-a):jJ l most at_ bad=((l.drop a).take n,a+n,false):=by
 unfold jJ;rw[h];exact if_neg (by simp;omega)
def iV(l:List UInt8)(m1 m2:Nat)(s:Nat×Bool):Rf×(Nat×Bool) :=
 let x:=cV l m1 s.1 s.2
 let y:=cV l m2 x.2.1 x.2.2
 (((x.1:Int),(y.1:Int)),y.2)
theorem rdPair_of{l:List UInt8}{m1 m2 at_ n1 a1 n2 a2:Nat}{bad b1 b2:Bool}(h1:cV l m1 at_ bad=(n1,a1,b1))(h2:cV l m2 a1 b1=(n2,a2,b2)):iV l m1 m2 (at_,bad)=(((n1:Int),(n2:Int)),(a2,b2)):=by
 simp only[iV,h1,h2]
def fM(l:List UInt8)(m1 m2:Nat)(s:Nat×Bool):Nat→List Rf×(Nat×Bool)
 |0=>([],s)
 |n+1 =>
  let r:=fM l m1 m2 s n
  let p:=iV l m1 m2 r.2
  (r.1++[p.1],p.2)
theorem pL{l:List UInt8}{m1 m2 n a a':Nat}{s:Nat×Bool}{L:List Rf}{b b':Bool}{r:Rf}(h:fM l m1 m2 s n=(L,(a,b)))(h1:iV l m1 m2 (a,b)=(r,(a',b'))):fM l m1 m2 s (n+1)=(L++[r],(a',b')):=by
 rw[fM,h];simp only[h1]
def rdOp(l:List UInt8)(s:Nat×Bool):OpD×(Nat×Bool) :=
 let k:=cV l 4 s.1 s.2
 let ob:=iV l 1000000 99 k.2
 let key:=jJ l 20 ob.2.1 ob.2.2
 let el:=iV l 1000000 99 key.2
 let ins:=cV l 1 el.2.1 el.2.2
 let vk:=cV l 6 ins.2.1 ins.2.2
 let vn:=nP l vk.2.1 vk.2.2
 let vt:=jJ l 60 vn.2.1 vn.2.2
 let m:=cV l 12 vt.2.1 vt.2.2
 let ps:=fM l 1000000 99 m.2 m.1
 (⟨k.1,ob.1.1,ob.1.2,⟨key.1.toArray⟩,el.1.1,el.1.2,ins.1 == 1,vk.1,vn.1,⟨vt.1.toArray⟩,0,0,none,0,ps.1⟩,ps.2)
def nO(l:List UInt8)(s:Nat×Bool):Nat→List OpD×(Nat×Bool)
 |0=>([],s)
 |n+1 =>
  let r:=nO l s n
  let p:=rdOp l r.2
  (r.1++[p.1],p.2)
theorem rdOps_next{l:List UInt8}{n a a':Nat}{s:Nat×Bool}{L:List OpD}{b b':Bool}{r:OpD}(h:nO l s n=(L,(a,b)))(h1:rdOp l (a,b)=(r,(a',b'))):nO l s (n+1)=(L++[r],(a',b')):=by
 rw[nO,h];simp only[h1]
theorem rdOp_of2{l:List UInt8}{at_ k ak ao akey ae ins ain vk avk avn avt m am aps:Nat}{bad bk bo bkey be bin bvk bvn bvt bm bps:Bool}{on oa en ea vn:Int}{key vt:List UInt8}{ps:List Rf}
 (h1:cV l 4 at_ bad=(k,ak,bk)) (h2:iV l 1000000 99 (ak,bk)=((on,oa),(ao,bo))) (h4:jJ l 20 ao bo=(key,akey,bkey))
 (h5:iV l 1000000 99 (akey,bkey)=((en,ea),(ae,be))) (h7:cV l 1 ae be=(ins,ain,bin)) (h8:cV l 6 ain bin=(vk,avk,bvk))
 (h9:nP l avk bvk=(vn,avn,bvn)) (h10:jJ l 60 avn bvn=(vt,avt,bvt)) (h11:cV l 12 avt bvt=(m,am,bm)) (h12:fM l 1000000 99 (am,bm) m=(ps,(aps,bps))) :
 rdOp l (at_,bad)=(⟨k,on,oa,⟨key.toArray⟩,en,ea,ins == 1,vk,vn,⟨vt.toArray⟩,0,0,none,0,ps⟩,(aps,bps)):=by
 simp only[rdOp,h1,h2,h4,h5,h7,h8,h9,h10,h11,h12]
def base(o:OpD):OpD:={ o with A:=none,c:=0 }
theorem ops_base{a b:List OpD}(h:a.map base=b):b.map base=b:=by
 subst h;rw[vG];rfl
theorem opsE_base:∀ {a b:List OpD},a.map base=b.map base→fI a=fI b
 | [],[],_=>rfl
 | [],_::_,h=>by simp at h
 |_::_,[],h=>by simp at h
 |x::a,y::b,h=>by
  simp only[sT,wM]at h;have e:fC x=fC y:=by
   have h1:fC x=fC (base x):=rfl;have h2:fC y=fC (base y):=rfl;rw[h1,h2,h.1]
  rw[fI,fI,e,opsE_base h.2]
theorem pO{a b:List OpD}(h:a.map base=b.map base):a.length=b.length:=by
 have:=congrArg List.length h
 simpa using this
theorem chgE_base{a s st:Int}{deps:List Rf}{x y:List OpD}(h:x.map base=y.map base):dK a s st deps x=dK a s st deps y:=by
 unfold dK;rw[opsE_base h,pO h]
theorem opB_base:∀ {a b:List OpD},a.map base=b.map base→a.flatMap opB=b.flatMap opB
 | [],[],_=>rfl
 | [],_::_,h=>by simp at h
 |_::_,[],h=>by simp at h
 |x::a,y::b,h=>by
  simp only[sT,wM]at h;have e:opB x=opB y:=by
   have h1:opB x=opB (base x):=rfl;have h2:opB y=opB (base y):=rfl;rw[h1,h2,h.1]
  rw[tM,tM,e,opB_base h.2]
theorem qZ{a s st:Int}{deps:List Rf}{x y:List OpD}(h:x.map base=y.map base):jR a s st deps x=jR a s st deps y:=by
 unfold jR;rw[opB_base h,pO h]
structure Rd where
 a:Nat
 s:Nat
 st:Nat
 deps:List Rf
 ops:List OpD
 at_:Nat
 bad:Bool
def rdAll(l:List UInt8):Rd :=
 let a:=cV l 99 0 false
 let s:=cV l 1000000 a.2.1 a.2.2
 let st:=cV l 1000000 s.2.1 s.2.2
 let n:=cV l 12 st.2.1 st.2.2
 let d:=fM l 99 1000000 n.2 n.1
 let m:=cV l 40 d.2.1 d.2.2
 let o:=nO l m.2 m.1
 ⟨a.1,s.1,st.1,d.1,o.1,o.2.1,o.2.2⟩
theorem rdAll_of{l:List UInt8}{a aa s as_ st ast n an ad m am ao:Nat}{ba bs bst bn bd bm bo:Bool}{deps:List Rf}{ops:List OpD}
 (h1:cV l 99 0 false=(a,aa,ba)) (h2:cV l 1000000 aa ba=(s,as_,bs)) (h3:cV l 1000000 as_ bs=(st,ast,bst)) (h4:cV l 12 ast bst=(n,an,bn)) (h5:fM l 99 1000000 (an,bn) n=(deps,(ad,bd)))
 (h6:cV l 40 ad bd=(m,am,bm)) (h7:nO l (am,bm) m=(ops,(ao,bo))):rdAll l=⟨a,s,st,deps,ops,ao,bo⟩:=by
 simp only[rdAll,h1,h2,h3,h4,h5,h6,h7]
end
section
open Go.RowKit
structure ChD where
 a:Int
 s:Int
 st:Int
 deps:List Rf
 DA:Option Addr
 DC:Nat
 ops:List OpD
 OA:Option Addr
 OC:Nat
def ChD.rf(c:ChD):Rf:=(c.a,c.s)
def ChD.err(c:ChD):Nat:=dK c.a c.s c.st c.deps c.ops
def ChD.enc(c:ChD):List UInt8:=jR c.a c.s c.st c.deps c.ops
def ChD.base(c:ChD):ChD:={ c with DA:=none,DC:=0,ops:=c.ops.map Go.Proofs.YtmpkejflgpodkaaGreatDoor.base,OA:=none,OC:=0 }
abbrev OpI:=OpD×Rf
def dY(a:Int):Int→List OpD→List OpI
 |_,[]=>[]
 |st,o::l=>(o,(st,a))::dY a (st+1) l
def ChD.opsI(c:ChD):List OpI:=dY c.a c.st c.ops
def aB(L:List ChD):List Rf:=L.map ChD.rf
def aP(r q:Rf):Bool:=decide (r.1<q.1∨r.1=q.1∧r.2<q.2)
def eQ(l:List Rf)(r:Rf):List Rf:=if r∈l then l else l.takeWhile (fun x=>aP x r)++r::l.dropWhile (fun x=>aP x r)
def lI(l:List Rf):Prop:=l.Pairwise fun x y=>aP x y=true
def dP:List ChD→List Rf→List Rf
 | [],_=>[]
 |c::L,w=>if c.rf∈w then c.rf::dP L (w++c.deps) else dP L w
def aQ(L:List ChD)(hs:List Rf):List Rf:=dP L.reverse hs
def bX(L:List ChD)(R:List Rf):List OpI:=(L.filter fun c=>decide (c.rf∈R)).flatMap ChD.opsI
def cE(l:List OpI)(n:Rf):Option OpI:=l.find? fun x=>decide (x.2=n)
def eG(x:OpI):Rf:=(x.1.on,x.1.oa)
def elP(x:OpI):Rf:=(x.1.en,x.1.ea)
def dI(x:OpI):Rf:=if x.1.ins then x.2 else elP x
def gF(x y:OpI):Bool:=decide (eG x=eG y)&&decide (x.1.key=y.1.key)&&decide (dI x=dI y)
def eR(x:OpI)(known:List OpI):Option Int :=
 if eG x=(0,0) then some 5 else match cE known (eG x) with
 |some y=>if y.1.k=2 then some y.1.vk else none
 |none=>none
def oQ(x:OpI)(kd:Int):Bool:=!(decide (kd=5)&&decide (x.1.key=⟨#[]⟩)||decide (kd=6)&&decide (x.1.key≠⟨#[]⟩))
def dA(x:OpI)(known:List OpI):Bool :=
 if elP x=(0,0) then true else match cE known (elP x) with
 |some y=>y.1.ins&&decide (eG y=eG x)
 |none=>false
def bM(x:OpI)(known:List OpI)(p:Rf):Bool :=
 match cE known p with
 | some y=>!decide (2<y.1.k)&&gF y x&&!(decide (x.1.k=4)&&(decide (y.1.k≠1)||decide (y.1.vk≠4)))
 |none=>false
def cU(x:OpI)(known:List OpI):Bool :=
 match eR x known with
 |some kd=>oQ x kd&&dA x known&&x.1.l.all (bM x known)
 |none=>false
def dC:List OpI→List OpI→Bool
 | [],_=>true
 |x::l,known=>cU x known&&dC l (known++[x])
def fB(c:ChD)(B:List Rf):Bool:=B.all fun r=>!(decide (r.1=c.a)&&decide (c.s≤r.2))
def iL(c:ChD)(B:List Rf):Bool:=!(decide (1<c.s)&&!B.any fun r=>decide (r.1=c.a)&&decide (r.2=c.s-1))
def eU(L:List ChD)(c:ChD)(B:List Rf):Bool:=fB c B&&iL c B&&(bX L B).all (fun x=>decide (x.2.1<c.st))&&dC c.opsI (bX L B)
def bS(L:List ChD)(c:ChD):Bool:=eU L c (aQ L c.deps)
def bE(L:List ChD)(c:ChD):Bool:=c.deps.all fun d=>decide (d∈aB L)
def gT(p:ChD→Bool):List ChD→Nat→Option (Nat×Rf)→Option (Nat×Rf)
 | [],_,best=>best
 |c::W,i,best=>gT p W (i+1) (if p c&&(match best with|none=>true|some b=>aP c.rf b.2) then some (i,c.rf) else best)
def cF(p:ChD→Bool)(W:List ChD):Option (Nat×Rf):=gT p W 0 none
def bZ:Nat→List ChD→List ChD→List ChD×List ChD
 |0,L,W=>(L,W)
 |n+1,L,W=>match cF (bE L) W with
  |none=>(L,W)
  |some (i,_)=>match W[i]? with
   |none=>(L,W)
   |some x=>if bS L x then bZ n (L++[x]) (W.eraseIdx i) else bZ n L (W.eraseIdx i)
def aW(L:List ChD)(r:Rf):Option ChD:=L.find? fun c=>decide (c.rf=r)
def fT(c d:ChD):Nat:=if c.enc=d.enc then 0 else 8
def aV(L W:List ChD)(c:ChD):(List ChD×List ChD)×Nat :=
 if c.err≠0 then ((L,W),c.err) else
 match aW L c.rf with
 |some d=>((L,W),fT d c)
 |none=>match aW W c.rf with
  |some d=>((L,W),fT d c)
  |none=>if 120≤L.length+W.length then ((L,W),4)
   else if bE L c=false then ((L,W++[c]),0)
   else if bS L c=false then ((L,W),7)
   else (bZ W.length (L++[c]) W,0)
def fW(L out:List ChD)(c:ChD):Bool:=!decide (c.rf∈aB out)&&c.deps.all fun d=>decide (d∈aB out)
def jO(L:List ChD):Nat→List ChD→List ChD
 |0,out=>out
 |n+1,out=>match cF (fW L out) L with
  |none=>out
  |some (i,_)=>match L[i]? with
   |none=>out
   |some c=>jO L n (out++[c])
def lH(L:List ChD):List ChD:=jO L L.length []
inductive Bk:List ChD→Prop
 |nil:Bk []
 |snoc {L:List ChD} {c:ChD} : Bk L→c.err=0→(∀o∈c.ops,(Lit.int .i64 o.vn).wf=true)→c.rf∉aB L→bE L c=true→bS L c=true→Bk (L++[c])
end
section
open Go.RowKit
theorem oT:∀(L:List ChD) {w w':List Rf},(∀r,r∈w↔r∈w')→dP L w=dP L w'
 | [],_,_,_=>rfl
 |c::L,w,w',h=>by
  have h2:∀r,r∈w++c.deps↔r∈w'++c.deps:=fun r=>by rw[sI,sI,h]
  simp only[dP,h,oT L h2,oT L h]
theorem qD:∀ {L:List ChD} {w:List Rf} {r:Rf},r∈dP L w→r∈aB L
 | [],_,_,h=>by simp[dP]at h
 |c::L,w,r,h=>by
  simp only[aB,sT,sK];rw[dP]at h;split at h
  ·rcases sK.1 h with h|h
   ·exact .inl h
   ·exact .inr (qD h)
  ·exact .inr (qD h)
theorem jN:∀(L:List ChD) (u v:List Rf) (r:Rf),r∈dP L (u++v)↔r∈dP L u∨r∈dP L v
 | [],u,v,r=>by simp[dP]
 |c::L,u,v,r=>by
  have e:∀ {a b:List Rf},(∀r,r∈a↔r∈b)→dP L a=dP L b:=fun h=>oT L h
  by_cases hu:c.rf∈u<;>by_cases hv:c.rf∈v
  ·rw[dP,dP,dP,if_pos (by simp[hu]),if_pos hu,if_pos hv,e (b:=(u++c.deps)++(v++c.deps)) (by intro r;simp only[sI];grind)];rw[sK,sK,sK,jN L];constructor
   ·rintro(h|h|h)
    ·exact .inl (.inl h)
    ·exact .inl (.inr h)
    ·exact .inr (.inr h)
   ·rintro((h|h)|(h|h))
    ·exact .inl h
    ·exact .inr (.inl h)
    ·exact .inl h
    ·exact .inr (.inr h)
  ·rw[dP,dP,dP,if_pos (by simp[hu]),if_pos hu,if_neg hv,e (b:=(u++c.deps)++v) (by intro r;simp only[sI];grind)];rw[sK,sK,jN L,or_assoc]
  ·rw[dP,dP,dP,if_pos (by simp[hv]),if_neg hu,if_pos hv,e (b:=u++(v++c.deps)) (by intro r;simp only[sI];grind)];rw[sK,sK,jN L];constructor
   ·rintro(h|h|h)
    ·exact .inr (.inl h)
    ·exact .inl h
    ·exact .inr (.inr h)
   ·rintro(h|h|h)
    ·exact .inr (.inl h)
    ·exact .inl h
    ·exact .inr (.inr h)
  ·rw[dP,dP,dP,if_neg (by simp[hu,hv]),if_neg hu,if_neg hv,jN L]
theorem qE:∀(L:List ChD),dP L []=[]
 | []=>rfl
 |c::L=>by rw[dP,if_neg (by simp),qE L]
theorem rC(L:List ChD)(r:Rf):∀(w:List Rf),r∈dP L w↔∃h∈w,r∈dP L [h]
 | []=>by simp[qE]
 |x::w=>by
  rw[show x::w=[x]++w from rfl,jN,rC L r w];simp
theorem kS:∀ {L:List ChD} {w:List Rf} {r:Rf},r∈w→r∈aB L→r∈dP L w
 | [],_,_,_,h=>by simp[aB]at h
 |c::L,w,r,hw,h=>by
  rw[dP];simp only[aB,sT,sK]at h;split
  ·rcases h with h|h
   ·rw[h];exact tA ..
   ·exact tS _ (kS (tE _ hw) h)
  ·rename_i hc;rcases h with h|h
   ·rw[h]at hw;exact absurd hw hc
   ·exact kS hw h
def TopR:List ChD→Prop
 | []=>True
 |c::L=>(∀d∈c.deps,d∈aB L)∧c.rf∉aB L∧TopR L
theorem cD{L:List ChD}{c:ChD}(h:c∈L):c.rf∈aB L:=tY h
theorem fK:∀ {L:List ChD} {w:List Rf},TopR L→∀ {c:ChD},c∈L→c.rf∈dP L w→∀ {d:Rf},d∈c.deps→d∈dP L w
 | [],_,_,_,h,_,_,_=>by cases h
 |x::L,w,⟨h1,h2,h3⟩,c,hc,hb,d,hd=>by
  rw[dP]at hb ⊢;by_cases hx:x.rf∈w
  ·rw[if_pos hx]at hb ⊢;rcases sK.1 hc with e|hc
   ·subst e;exact tS _ (kS (tT _ hd) (h1 d hd))
   ·rcases sK.1 hb with e|hb
    ·exact absurd (e▸cD hc) h2
    ·exact tS _ (fK h3 hc hb hd)
  ·rw[if_neg hx]at hb ⊢;rcases sK.1 hc with e|hc
   ·subst e;exact absurd (qD hb) h2
   ·exact fK h3 hc hb hd
theorem iH:∀ {L:List ChD} {w:List Rf} (S:Rf→Prop),(∀r∈w,r∈aB L→S r)→(∀c∈L,S c.rf→∀d∈c.deps,d∈aB L→S d)→∀r∈dP L w,S r
 | [],_,_,_,_,r,h=>by simp[dP]at h
 |x::L,w,S,h1,h2,r,h=>by
  have hr:∀ {r},r∈aB L→r∈aB (x::L):=fun h=>by simp only[aB,sT,sK];exact .inr h
  have h2':∀c∈L,S c.rf→∀d∈c.deps,d∈aB L→S d:=fun c hc hs d hd hm=>h2 c (tS _ hc) hs d hd (hr hm)
  rw[dP]at h;split at h
  ·rename_i hx;have hSx:S x.rf:=h1 _ hx (cD (tA ..));rcases sK.1 h with h|h
   ·rw[h];exact hSx
   ·refine iH (L:=L) S (fun r hr' hm=>?_) h2' r h;rcases sI.1 hr' with h'|h'
    ·exact h1 r h' (hr hm)
    ·exact h2 x (tA ..) hSx r h' (hr hm)
  ·exact iH (L:=L) S (fun r hr' hm=>h1 r hr' (hr hm)) h2' r h
theorem back_trans{L:List ChD}{w:List Rf}(ht:TopR L){q:Rf}(hq:q∈dP L w){r:Rf}(hr:r∈dP L [q]):r∈dP L w:=by
 refine iH (fun r=>r∈dP L w) (fun x hx _=>?_) (fun c hc hs d hd _=>fK ht hc hs hd) r hr;rw[sN.1 hx];exact hq
theorem cO(A B:List ChD):aB (A++B)=aB A++aB B:=by simp[aB]
theorem dF(A:List ChD):aB A.reverse=(aB A).reverse:=by simp[aB]
theorem gG{L:List ChD}{c:ChD}(h:bE L c=true):∀d∈c.deps,d∈aB L:=fun d hd=>by
 have:=tP.1 h d hd
 simpa using this
theorem Bk.top{L:List ChD}(h:Bk L):TopR L.reverse:=by
 induction h with
 |nil=>trivial
 | @snoc L c hb _ _ hn hr _ ih =>
   rw[wK];show TopR (c::L.reverse);exact⟨fun d hd=>by rw[dF];exact uK.2 (gG hr d hd),by rw[dF];exact fun h=>hn (uK.1 h),ih⟩
theorem Bk.nodup{L:List ChD}(h:Bk L):(aB L).Nodup:=by
 induction h with
 |nil=>simp[aB]
 | @snoc L c hb _ _ hn hr _ ih =>
   rw[cO,tQ];refine⟨ih,by simp[aB],fun a ha b hb' e=>?_⟩
   simp[aB]at hb';exact hn (by rw[←hb',←e];exact ha)
theorem Bk.err{L:List ChD}(h:Bk L):∀c∈L,c.err=0∧∀o∈c.ops,(Lit.int .i64 o.vn).wf=true:=by
 induction h with
 |nil=>intro c hc;cases hc
 | @snoc L c hb he hw hn hr _ ih =>
   intro x hx;rcases sI.1 hx with hx|hx
   ·exact ih x hx
   ·rw[sN.1 hx];exact⟨he,hw⟩
theorem jY(L:List ChD)(c:ChD)(hs:List Rf):aQ (L++[c]) hs=if c.rf∈hs then c.rf::aQ L (hs++c.deps) else aQ L hs:=by
 unfold aQ;rw[wK];rfl
theorem bQ{L:List ChD}{hs:List Rf}{r:Rf}(h:r∈aQ L hs):r∈aB L:=by
 have:=qD h;rw[dF]at this;exact uK.1 this
theorem mL{L:List ChD}{hs:List Rf}{r:Rf}(h:r∈hs)(hm:r∈aB L):r∈aQ L hs:=kS h (by rw[dF];exact uK.2 hm)
theorem Bk.deps{L:List ChD}(h:Bk L):∀c∈L,∀d∈c.deps,d∈aB L:=by
 induction h with
 |nil=>intro c hc;cases hc
 | @snoc L c hb he hw hn hr _ ih =>
   intro x hx d hd;rw[cO];rcases sI.1 hx with hx|hx
   ·exact tE _ (ih x hx d hd)
   ·rw[sN.1 hx]at hd;exact tE _ (gG hr d hd)
theorem Bk.chain{L:List ChD}(h:Bk L):∀c∈L,∀s,1≤s→s<c.s→(c.a,s)∈aQ L c.deps:=by
 induction h with
 |nil=>intro c hc;cases hc
 | @snoc L c hb he hw hn hr hf ih =>
   intro x hx s h1 hs;have hnot:∀ {hs:List Rf},(∀r∈hs,r∈aB L)→aQ (L++[c]) hs=aQ L hs:=fun hh=>by rw[jY,if_neg (fun e=>hn (hh _ e))]
   rcases sI.1 hx with hx|hx
   ·rw[hnot (hb.deps x hx)];exact ih x hx s h1 hs
   ·obtain rfl:x=c:=sN.1 hx;rw[hnot (gG hr)];have hp:iL x (aQ L x.deps)=true:=by
     simp only[bS,eU,tB]at hf;exact hf.1.1.2
    have h1s:1<x.s:=by omega
    have hq:(x.a,x.s-1)∈aQ L x.deps:=by
     simp only[iL,h1s,decide_true,wG,Bool.not_not,wR,tB,decide_eq_true_eq]at hp;obtain⟨r,hr',e1,e2⟩:=hp
     have:r=(x.a,x.s-1):=by rw[←e1,←e2]
     rw[←this];exact hr'
    by_cases e:s=x.s-1
    ·rw[e];exact hq
    ·obtain⟨y,hy,ey⟩:=sH.1 (bQ hq)
     have ea:y.a=x.a:=congrArg Prod.fst ey;have es:y.s=x.s-1:=congrArg Prod.snd ey;have h2:=ih y hy s h1 (by omega);rw[ea]at h2;have h3:(x.a,s)∈dP L.reverse [y.rf]:=by
      obtain⟨d,hd,h4⟩:=(rC L.reverse _ _).1 h2
      exact back_trans hb.top (fK hb.top (uK.2 hy) (kS (by simp) (by rw[dF];exact uK.2 (cD hy))) hd) h4
     exact back_trans hb.top hq (by rw[←ey];exact h3)
theorem cR{a:Int}: ∀ {l:List OpD} {st:Int} {x:OpI},x∈dY a st l→x.2.2=a∧st≤x.2.1∧x.2.1<st+l.length∧x.1∈l
 | [],_,_,h=>by cases h
 |o::l,st,x,h=>by
  rcases sK.1 h with rfl|h
  ·exact⟨rfl,Int.le_refl _,by simp only[sW];omega,tA ..⟩
  ·obtain⟨h1,h2,h3,h4⟩:=cR h
   exact⟨h1,by omega,by simp only[sW];omega,tS _ h4⟩
theorem iM(a:Int):∀(l:List OpD) (st:Int),((dY a st l).map Prod.snd).Nodup
 | [],_=>by simp[dY]
 |o::l,st=>by
  rw[dY,sT,tN];refine⟨fun h=>?_,iM a l _⟩
  obtain⟨x,hx,e⟩:=sH.1 h
  have:=(cR hx).2.1
  rw[e]at this;simp only at this;omega
theorem Bk.less{L:List ChD}(h:Bk L):∀c∈L,∀b∈L,b.rf∈aQ L c.deps→∀x∈b.opsI,x.2.1<c.st:=by
 induction h with
 |nil=>intro c hc;cases hc
 | @snoc L c hb he hw hn hr hf ih =>
   intro y hy b hbm hbb x hx;have hnot:∀ {hs:List Rf},(∀r∈hs,r∈aB L)→aQ (L++[c]) hs=aQ L hs:=fun hh=>by rw[jY,if_neg (fun e=>hn (hh _ e))]
   have hd:∀d∈y.deps,d∈aB L:=by
    rcases sI.1 hy with hy|hy
    ·exact hb.deps y hy
    ·rw[sN.1 hy];exact gG hr
   rw[hnot hd]at hbb;have hbL:b∈L:=by
    rcases sI.1 hbm with h|h
    ·exact h
    ·rw[sN.1 h]at hbb;exact absurd (bQ hbb) hn
   rcases sI.1 hy with hy|hy
   ·exact ih y hy b hbL hbb x hx
   ·rw[sN.1 hy]at hbb ⊢;have h1:(bX L (aQ L c.deps)).all (fun x=>decide (x.2.1<c.st))=true:=by
     simp only[bS,eU,tB]at hf;exact hf.1.2
    have h2:=tP.1 h1 x (vL.2 ⟨b,uH.2 ⟨hbL,by simpa using hbb⟩,hx⟩);simpa using h2
theorem oS{c:ChD}(h:c.err=0):dZ c.rf=true∧1≤c.st:=by
 unfold ChD.err dK at h;obtain⟨h1,h⟩:=aR h (by omega)
 exact⟨by cases hx:dZ c.rf;exact absurd (Or.inl hx) h1;rfl,by omega⟩
theorem iQ{r:Rf}(h:dZ r=true):(1≤r.1∧r.1≤99)∧1≤r.2∧r.2≤1000000:=by
 simpa[dZ] using h
theorem Bk.ids{L:List ChD}(h:Bk L):((L.flatMap ChD.opsI).map Prod.snd).Nodup:=by
 have key:∀c∈L,∀b∈L,b.a=c.a→b.s<c.s→∀x∈b.opsI,x.2.1<c.st:=fun c hc b hb' ea es x hx=>by
  have h1:=(iQ (oS (h.err b hb').1).1).2.1;have h2:=h.chain c hc b.s h1 es;rw[←ea]at h2;exact h.less c hc b hb' h2 x hx
 have hn:=h.nodup;have:L.Pairwise fun b c=>b.rf≠c.rf:=by
  rw[aB,List.Nodup,uU]at hn;exact hn
 have h2:L.Pairwise fun b c=>b∈L∧c∈L∧b.rf≠c.rf:=this.imp_of_mem fun hb hc hne=>⟨hb,hc,hne⟩
 rw[List.Nodup,uU,List.pairwise_flatMap];refine⟨fun c hc=>?_,h2.imp fun {b c} ⟨hb,hc,hne⟩ x hx y hy e=>?_⟩
 ·have:=iM c.a c.ops c.st
  rw[List.Nodup,uU]at this;exact this
 ·have h3:=cR hx;have h4:=cR hy;have ea:b.a=c.a:=by rw[←h3.1,←h4.1,e]
  have en:x.2.1=y.2.1:=by rw[e]
  rcases Int.lt_trichotomy b.s c.s with hs|hs|hs
  ·have:=key c hc b hb ea hs x hx;omega
  ·exact hne (by unfold ChD.rf;rw[ea,hs])
  ·have:=key b hb c hc ea.symm hs y hy;omega
/-! ### the least of those that may be taken -/
theorem gX{a b c:Rf}(h1:aP a b=true)(h2:aP b c=true):aP a c=true:=by
 simp only[aP,decide_eq_true_eq]at *;omega
theorem dR(a:Rf):aP a a=false:=by simp only[aP,decide_eq_false_iff_not];omega
theorem jB{a b:Rf}(h:a≠b):aP a b=true∨aP b a=true:=by
 obtain⟨a1,a2⟩:=a
 obtain⟨b1,b2⟩:=b
 simp only[aP,decide_eq_true_eq,ne_eq,uT]at *;omega
def LeastOf(p:ChD→Bool)(W:List ChD)(best:Option (Nat×Rf)):Prop :=
 match best with
 |none=>∀c∈W,p c=false
 |some (i,r)=>∃c,W[i]?=some c∧c.rf=r∧p c=true∧∀d∈W,p d=true→aP d.rf r=false
theorem leastGo_of(p:ChD→Bool):∀(W V:List ChD) (best:Option (Nat×Rf)),LeastOf p V best→LeastOf p (V++W) (gT p W V.length best)
 | [],V,best,h=>by simpa[gT] using h
 |c::W,V,best,h=>by
  unfold gT;have e:V++c::W=(V++[c])++W:=by simp
  have el:V.length+1=(V++[c]).length:=by simp
  rw[e,el];refine leastGo_of p W (V++[c]) _ ?_;cases hp:p c with
  |false =>
   simp only[wI,vB,if_false];cases best with
   |none =>
    intro d hd;rcases sI.1 hd with hd|hd
    ·exact h d hd
    ·rw[sN.1 hd];exact hp
   |some b =>
    obtain⟨i,r⟩:=b
    obtain⟨x,h1,h2,h3,h4⟩:=h
    refine⟨x,by rw[tU (sF.1 h1).1];exact h1,h2,h3,fun d hd hpd=>?_⟩
    rcases sI.1 hd with hd|hd
    ·exact h4 d hd hpd
    ·rw[sN.1 hd,hp]at hpd;cases hpd
  |true =>
   cases best with
   |none =>
    simp only[Bool.and_self,if_true];refine⟨c,by simp,rfl,hp,fun d hd hpd=>?_⟩
    rcases sI.1 hd with hd|hd
    ·rw[h d hd]at hpd;cases hpd
    ·rw[sN.1 hd];exact dR _
   |some b =>
    obtain⟨i,r⟩:=b
    obtain⟨x,h1,h2,h3,h4⟩:=h
    simp only[wG];cases ha:aP c.rf r with
    |true =>
     rw[if_pos rfl];refine⟨c,by simp,rfl,hp,fun d hd hpd=>?_⟩
     rcases sI.1 hd with hd|hd
     ·cases hx:aP d.rf c.rf with
      |false=>rfl
      |true=>have:=gX hx ha;rw[h4 d hd hpd]at this;cases this
     ·rw[sN.1 hd];exact dR _
    |false =>
     rw[if_neg (by simp)];refine⟨x,by rw[tU (sF.1 h1).1];exact h1,h2,h3,fun d hd hpd=>?_⟩
     rcases sI.1 hd with hd|hd
     ·exact h4 d hd hpd
     ·rw[sN.1 hd];exact ha
theorem leastAt_of(p:ChD→Bool)(W:List ChD):LeastOf p W (cF p W):=by
 have:=leastGo_of p W [] none (fun c hc=>by cases hc)
 simpa[cF] using this
theorem pP{p:ChD→Bool}{W:List ChD}(h:cF p W=none):∀c∈W,p c=false:=by
 have:=leastAt_of p W;rw[h]at this;exact this
theorem fO{p:ChD→Bool}{W:List ChD}{i:Nat}{r:Rf}(h:cF p W=some (i,r)):∃c,W[i]?=some c∧c.rf=r∧p c=true∧∀d∈W,p d=true→aP d.rf r=false:=by
 have:=leastAt_of p W;rw[h]at this;exact this
theorem leastAt_is{p:ChD→Bool}{W:List ChD}(hn:(aB W).Nodup){i:Nat}{c:ChD}(hi:W[i]?=some c)(hp:p c=true)(hl:∀d∈W,p d=true→aP d.rf c.rf=false):cF p W=some (i,c.rf):=by
 cases h:cF p W with
 |none=>have:=pP h c (sJ hi);rw[hp]at this;cases this
 |some b =>
  obtain⟨j,r⟩:=b
  obtain⟨d,h1,h2,h3,h4⟩:=fO h
  have e:d.rf=c.rf:=by
   by_cases e:d.rf=c.rf
   ·exact e
   ·rcases jB e with h|h
    ·rw[hl d (sJ h1) h3]at h;cases h
    ·rw[←h2]at h4;rw[h4 c (sJ hi) hp]at h;cases h
  have hij:i=j:=by
   have e1:(aB W)[i]?=some c.rf:=by simp[aB,hi]
   have e2:(aB W)[j]?=some c.rf:=by simp[aB,h1,e]
   obtain⟨l1,e1⟩:=sF.1 e1
   obtain⟨l2,e2⟩:=sF.1 e2
   exact(List.getElem_inj hn).1 (e1.trans e2.symm)
  rw[hij,←h2,e]
/-! ### what a book keeps to -/
structure Inv(L W:List ChD):Prop where
 bk:Bk L
 good:∀c∈W,c.err=0∧∀o∈c.ops,(Lit.int .i64 o.vn).wf=true
 nd:(aB W).Nodup
 apart:∀c∈W,c.rf∉aB L
 most:L.length+W.length≤120
theorem Inv.nil:Inv [] []:=⟨.nil,by simp,by simp[aB],by simp,by simp⟩
theorem cC{L:List ChD}{r:Rf}: aW L r=none↔r∉aB L:=by
 unfold aW aB;rw[uR];constructor
 ·intro h hm;obtain⟨c,hc,e⟩:=sH.1 hm
  exact h c hc (by simpa using e)
 ·intro h c hc e;exact h (sH.2 ⟨c,hc,by simpa using e⟩)
theorem cM{L:List ChD}{r:Rf}{c:ChD}(h:aW L r=some c):c∈L∧c.rf=r:=⟨uB h,by simpa using vR h⟩
theorem dJ{α:Type}{l:List α}{i:Nat}{x:α}(h:x∈l.eraseIdx i):x∈l:=(xS _ _).subset h
theorem eraseIdx_refs(W:List ChD)(i:Nat):aB (W.eraseIdx i)=(aB W).eraseIdx i:=by
 unfold aB;induction W generalizing i with
 |nil=>rfl
 |cons x W ih=>cases i with
  |zero=>rfl
  |succ i=>simp only[List.eraseIdx_cons_succ,sT,ih]
theorem erased_not{W:List ChD}(hn:(aB W).Nodup){i:Nat}{x:ChD}(hi:W[i]?=some x):∀c∈W.eraseIdx i,c.rf≠x.rf:=by
 intro c hc e;obtain⟨j,hne,hj⟩:=List.mem_eraseIdx_iff_getElem?.1 hc
 have e1:(aB W)[i]?=some x.rf:=by simp[aB,hi]
 have e2:(aB W)[j]?=some x.rf:=by simp[aB,hj,e]
 obtain⟨l1,e1⟩:=sF.1 e1
 obtain⟨l2,e2⟩:=sF.1 e2
 exact hne ((List.getElem_inj hn).1 (e2.trans e1.symm))
theorem Inv.drop{L W:List ChD}(h:Inv L W)(i:Nat):Inv L (W.eraseIdx i) :=
 ⟨h.bk,fun c hc=>h.good c (dJ hc),by rw[eraseIdx_refs];exact h.nd.sublist (xS _ _),fun c hc=>h.apart c (dJ hc),by
  have:=h.most;have:=List.length_eraseIdx_le W i;omega⟩
theorem Inv.move{L W:List ChD}(h:Inv L W){i:Nat}{x:ChD}(hi:W[i]?=some x)(hr:bE L x=true)(hf:bS L x=true):Inv (L++[x]) (W.eraseIdx i):=by
 have hx:=sJ hi;have hd:=h.drop i;refine⟨.snoc h.bk (h.good x hx).1 (h.good x hx).2 (h.apart x hx) hr hf,hd.good,hd.nd,fun c hc=>?_,?_⟩
 ·rw[cO];intro hm;rcases sI.1 hm with hm|hm
  ·exact hd.apart c hc hm
  ·exact erased_not h.nd hi c hc (by simpa[aB] using hm)
 ·have:=h.most
  have h1:=(sF.1 hi).1;have h2:=vA h1;rw[sG,h2];simp only[sW,wA];omega
theorem oC:∀(n:Nat) {L W:List ChD},Inv L W→Inv (bZ n L W).1 (bZ n L W).2
 |0,_,_,h=>h
 |n+1,L,W,h=>by
  rw[bZ];cases hl:cF (bE L) W with
  |none=>exact h
  |some b =>
   obtain⟨i,r⟩:=b
   obtain⟨x,hi,_,hr,_⟩:=fO hl
   simp only[hi];cases hf:bS L x with
   |true=>rw[if_pos rfl];exact oC n (h.move hi hr hf)
   |false=>rw[if_neg (by simp)];exact oC n (h.drop i)
theorem takeP_inv{L W:List ChD}(h:Inv L W){c:ChD}(hw:∀o∈c.ops,(Lit.int .i64 o.vn).wf=true):Inv (aV L W c).1.1 (aV L W c).1.2:=by
 unfold aV;by_cases he:c.err≠0
 ·rw[if_pos he];exact h
 rw[if_neg he];cases h1:aW L c.rf with
 |some d=>exact h
 |none =>
  simp only;cases h2:aW W c.rf with
  |some d=>exact h
  |none =>
   simp only;by_cases h3:120≤L.length+W.length
   ·rw[if_pos h3];exact h
   rw[if_neg h3];have n1:=cC.1 h1;have n2:=cC.1 h2;have he':c.err=0:=by omega
   cases hr:bE L c with
   |false =>
    rw[if_pos rfl];refine⟨h.bk,fun x hx=>?_,?_,fun x hx=>?_,by simp;omega⟩
    ·rcases sI.1 hx with hx|hx
     ·exact h.good x hx
     ·rw[sN.1 hx];exact⟨he',hw⟩
    ·rw[cO,tQ];refine⟨h.nd,by simp[aB],fun a ha b hb e=>?_⟩
     simp[aB]at hb;exact n2 (by rw[←hb,←e];exact ha)
    ·rcases sI.1 hx with hx|hx
     ·exact h.apart x hx
     ·rw[sN.1 hx];exact n1
   |true =>
    rw[if_neg (by simp)];cases hf:bS L c with
    |false=>rw[if_pos rfl];exact h
    |true =>
     rw[if_neg (by simp)];refine oC _ ⟨.snoc h.bk he' hw n1 hr hf,h.good,h.nd,fun x hx=>?_,by simp;omega⟩;rw[cO];intro hm;rcases sI.1 hm with hm|hm
     ·exact h.apart x hx hm
     ·simp[aB]at hm;exact n2 (by rw[←hm];exact cD hx)
end
section
def ChD.cells(c:ChD):List Value:=[.int .i64 c.a,.int .i64 c.s,.int .i64 c.st,.slice c.DA c.deps.length c.DC,.slice c.OA c.ops.length c.OC]
def ChD.v(c:ChD):Value:=.agg #[.int .i64 c.a,.int .i64 c.s,.int .i64 c.st,.slice c.DA c.deps.length c.DC,.slice c.OA c.ops.length c.OC]
def bP(L:List ChD):List Value:=L.flatMap ChD.cells
theorem jX(a b:List ChD):bP (a++b)=bP a++bP b:=by simp[bP]
theorem aT:∀ {L:List ChD} {k:Nat} {c:ChD},L[k]?=some c→∀i,i<5→(bP L)[k*5+i]?=c.cells[i]?
 | [],k,r,h=>by simp at h
 |x::l,0,o,h=>fun i hi=>by
  simp at h;subst h;simp only[bP,tM,xW,vE];exact tU (by simp only[ChD.cells,sW,wA];omega)
 |x::l,k+1,o,h=>fun i hi=>by
  have ih:=aT (L:=l) (k:=k) (by simpa using h) i hi;have e:bP (x::l)=x.cells++bP l:=by simp[bP]
  have hx:x.cells.length=5:=by simp[ChD.cells]
  rw[e,tR (by rw[hx];omega),hx,show(k+1)*5+i-5=k*5+i from by omega];exact ih
set_option maxRecDepth 100000 in
theorem eq_ref(a b c d:Int)(w:World):(Op.equalIn 10000 77 (.agg #[.int .i64 a,.int .i64 b]) (.agg #[.int .i64 c,.int .i64 d])).run Tryz.prog w=.ok (decide ((a,b)=(c,d))) w:=by
 have hS:Tryz.prog.underlying 77=some (.struct (Tryz.prog.fieldsOf 77)):=by kernel_rfl
 have hp:Tryz.prog.stoodInHeld 77=false:=by kernel_rfl
 rw[show(10000:Nat)=9999+1 from rfl,run_equalIn_agg w 9999 77 _ _ hS hp];simp only[Program.fieldsOf,Tryz.underlying77];go_simp;by_cases h1:a=c<;>by_cases h2:b=d<;>simp[h1,h2]
theorem kK(a s:Int)(v2 v3 v4:Value)(w:World)(h2:v2.oneCell'=true)(h3:v3.oneCell'=true)(h4:v4.oneCell'=true):
 Calls Tryz.prog 27 #[.agg #[.int .i64 a,.int .i64 s,v2,v3,v4]] w fun e w'=>e=.returned (.agg #[.int .i64 a,.int .i64 s])∧Below w.heap.size w w':=by
 have hres:Tryz.f27.results=#[.cell 2 77]:=by kernel_rfl
 go_enter Tryz.func27,Tryz.ntmps27;go_wp2_with fail
 refine bodyPost_ret (v:=.agg #[.int .i64 a,.int .i64 s]) ?_ rfl ⟨rfl,?_⟩
 ·simp only[results,hres];go_simp
 ·exact((sB _ w).alloc (sC _) _).alloc (by simp) _
theorem ahead_any(r q:Rf)(w:World):Calls Tryz.prog 55 #[bB r,bB q] w fun e w'=>e=.returned (.bool (aP r q))∧Below w.heap.size w w':=by
 obtain⟨a,b⟩:=r
 obtain⟨c,d⟩:=q
 simp only[bB,aP];have HB:Hid (Below w.heap.size w ((w.alloc (.cells #[.int .i64 a,.int .i64 b] 77)).alloc (.cells #[.int .i64 c,.int .i64 d] 77))):=((sB _ w).alloc (sC _) _).alloc (by simp) _;by_cases h1:a=c
 ·subst h1;have e:decide (a<a∨a=a∧b<d)=decide (b<d):=by simp
  rw[e];go_enter Tryz.func55,Tryz.ntmps55;go_wp2_with fail
  go_ret;exact⟨rfl,HB.o⟩
 ·have e:decide (a<c∨a=c∧b<d)=decide (a<c):=by simp[h1]
  rw[e];go_enter Tryz.func55,Tryz.ntmps55;go_wp2_with fail
  go_ret;exact⟨rfl,HB.o⟩
theorem has_step{l:List Rf}{k:Nat}{x r:Rf}(hx:l[k]?=some x)(h:r∉l.take k)(hne:x≠r):r∉l.take (k+1):=by
 rw[sS,hx];simp only[uM,sI,sN,not_or];exact⟨h,fun e=>hne e.symm⟩
theorem pG(l:List Rf)(r:Rf)(D:Nat→Prop)(A:Option Addr)(c:Nat)(w:World)(hr:aC D w 2 A l.length (aE l))(hD:∀k,D k→k<w.heap.size)(hl:l.length≤9223372036854775807):
 Calls Tryz.prog 56 #[.slice A l.length c,.agg #[.int .i64 r.1,.int .i64 r.2]] w fun e w'=>e=.returned (.bool (decide (r∈l)))∧Below w.heap.size w w':=by
 obtain⟨n,hn⟩:∃n,l.length=n:=⟨_,rfl⟩
 have HN:=Hi hn;have HR0:=Hi (hr.keep (w':=w.alloc (.cells #[.int .i64 r.1,.int .i64 r.2] 77)) fun k hk=>sO _ _ k (hD k hk));have HB0:Hid (Below w.heap.size w (w.alloc (.cells #[.int .i64 r.1,.int .i64 r.2] 77))):=(sB _ w).alloc (sC _) _;have hQ:=Blk.new w 77 #[.int .i64 r.1,.int .i64 r.2];have HC0:=Hi (And.intro (hQ.cell 0) (hQ.cell 1));rw[hn]at hl ⊢;clear hn hr hD hQ;go_enter Tryz.func56,Tryz.ntmps56;go_wp2_with fail
 generalize w.alloc (.cells #[.int .i64 r.1,.int .i64 r.2] 77)=V at *;go_loopw [5] (fun s5 wr=>∃k:Nat,s5=.int .i64 k∧k≤n∧Hid (r∉l.take k)∧∃m,wr=V.drewN m) (fun s5 _=>n-(intOf s5).toNat)
 case atStart=>exact⟨0,rfl,by omega,by show r∉_;simp,0,rfl⟩
 case round =>
  obtain⟨k,rfl,hk,HI,m,rfl⟩:=hrel
  by_cases hlt:k<n
  ·obtain⟨b1,o1,rfl,-,hc1⟩:=HR0.o.at_ (by rw[HN.o];omega) (by omega)
   obtain⟨x,hx⟩:∃x,l[k]?=some x:=⟨_,sD (by rw[HN.o];exact hlt)⟩
   have x1:V.cell? ⟨b1,o1+k*2,none⟩=some (.int .i64 x.1):=hc1 _ _ (aL hx).1;have x2:V.cell? ⟨b1,o1+k*2+1,none⟩=some (.int .i64 x.2):=hc1 _ _ (aL hx).2;have y1:V.cell? ⟨w.heap.size,0,none⟩=some (.int .i64 r.1):=HC0.o.1;have y2:V.cell? ⟨w.heap.size,1,none⟩=some (.int .i64 r.2):=HC0.o.2;have HX:=Hi hx;have E:=fun w=>eq_ref x.1 x.2 r.1 r.2 w
   by_cases hxr:x=r
   ·have HE:Hid (decide (r∈l)=true):=decide_eq_true (by rw[←hxr];exact sJ hx);have e1:decide ((x.1,x.2)=(r.1,r.2))=true:=decide_eq_true hxr;rw[e1]at E;clear hc1 hx hxr e1;go_wp2_with fail
    go_quiet (fail)
    go_wp2_with fail
    go_ret;exact⟨by rw[HE.o];rfl,by rw[tK];exact aJ HB0.o _⟩
   ·have e1:decide ((x.1,x.2)=(r.1,r.2))=false:=decide_eq_false hxr;rw[e1]at E;have HE:Hid (r∉l.take (k+1)):=has_step hx HI.o hxr;clear hc1 hx hxr e1;go_wp2_with fail
    go_quiet (fail)
    change Exit.then _ _ _ _ ((V.drewN m).drewN nq);have HW:Hid ((V.drewN m).drewN nq=V.drewN (m+nq)):=by show _=_;rw[tK]
    generalize (V.drewN m).drewN nq=w3 at HW ⊢;clear x1 x2 y1 y2;go_wp2_with fail
    go_roundw
    case rel=>exact⟨k+1,by go_num,by omega,HE,_,HW.o⟩
    case measure=>simp[intOf];omega
  ·have HE:Hid (decide (r∈l)=false):=decide_eq_false (by have:=HI.o;rwa [sL (by rw[HN.o];omega)]at this);go_wp2_with fail
   go_ret;exact⟨by rw[HE.o];rfl,aJ HB0.o _⟩
theorem mH{L:List ChD}{k:Nat}{x:ChD}{r:Rf}(hx:L[k]?=some x)(h:r∉aB (L.take k))(hne:x.rf≠r):r∉aB (L.take (k+1)):=by
 rw[sS,hx,cO];simp only[uM,sI,not_or];exact⟨h,fun e=>hne (sN.1 e).symm⟩
theorem find_hit{L:List ChD}{k:Nat}{x:ChD}{r:Rf}(hx:L[k]?=some x)(h:r∉aB (L.take k))(he:x.rf=r):aW L r=some x:=by
 obtain⟨hk,hx'⟩:=sF.1 hx
 have e:L=L.take k++x::L.drop (k+1):=by
  rw[←hx',xQ,uE]
 unfold aW;rw[e,xI];have h1:(L.take k).find? (fun c=>decide (c.rf=r))=none:=cC.2 h;rw[h1];simp[he]
def FindI(L:List ChD)(r:Rf)(i:Int):Prop:=(i=-1∧r∉aB L)∨∃(k:Nat) (c:ChD),i=(k:Int)∧L[k]?=some c∧aW L r=some c
theorem kL(L:List ChD)(r:Rf)(D:Nat→Prop)(A:Option Addr)(c:Nat)(w:World)(hr:aC D w 5 A L.length (bP L))(hD:∀k,D k→k<w.heap.size)(hl:L.length≤9223372036854775807):
 Calls Tryz.prog 26 #[.slice A L.length c,.agg #[.int .i64 r.1,.int .i64 r.2]] w fun e w'=>∃i,e=.returned (.int .i64 i)∧FindI L r i∧Below w.heap.size w w':=by
 obtain⟨n,hn⟩:∃n,L.length=n:=⟨_,rfl⟩
 have HN:=Hi hn;have HR0:=Hi (hr.keep (w':=w.alloc (.cells #[.int .i64 r.1,.int .i64 r.2] 77)) fun k hk=>sO _ _ k (hD k hk));have HB0:Hid (Below w.heap.size w (w.alloc (.cells #[.int .i64 r.1,.int .i64 r.2] 77))):=(sB _ w).alloc (sC _) _;have hQ:=Blk.new w 77 #[.int .i64 r.1,.int .i64 r.2];have HC0:=Hi (And.intro (hQ.cell 0) (hQ.cell 1));rw[hn]at hl ⊢;clear hn hr hD hQ;go_enter Tryz.func26,Tryz.ntmps26;go_wp2_with fail
 generalize w.alloc (.cells #[.int .i64 r.1,.int .i64 r.2] 77)=V at *;go_loopw [5] (fun s5 wr=>∃k:Nat,s5=.int .i64 k∧k≤n∧Hid (r∉aB (L.take k))∧∃m,wr=V.drewN m) (fun s5 _=>n-(intOf s5).toNat)
 case atStart=>exact⟨0,rfl,by omega,by show r∉_;simp[aB],0,rfl⟩
 case round =>
  obtain⟨k,rfl,hk,HI,m,rfl⟩:=hrel
  by_cases hlt:k<n
  ·obtain⟨b1,o1,rfl,-,hc1⟩:=HR0.o.at_ (by rw[HN.o];omega) (by omega)
   obtain⟨x,hx⟩:∃x,L[k]?=some x:=⟨_,sD (by rw[HN.o];exact hlt)⟩
   have x1:V.cell? ⟨b1,o1+k*5,none⟩=some (.int .i64 x.a):=hc1 _ _ (aT hx 0 (by omega));have x2:V.cell? ⟨b1,o1+k*5+1,none⟩=some (.int .i64 x.s):=hc1 _ _ (aT hx 1 (by omega));have y1:V.cell? ⟨w.heap.size,0,none⟩=some (.int .i64 r.1):=HC0.o.1;have y2:V.cell? ⟨w.heap.size,1,none⟩=some (.int .i64 r.2):=HC0.o.2;have HX:=Hi hx;by_cases h1:x.a=r.1
   ·have e1:(x.a == r.1)=true:=by simp[h1]
    by_cases h2:x.s=r.2
    ·have e2:(x.s == r.2)=true:=by simp[h2]
     have HE:=Hi (find_hit hx HI.o (by unfold ChD.rf;rw[h1,h2]));clear hc1 hx h1 h2;go_wp2_with fail
     go_quiet (fail)
     go_wp2_with fail
     go_ret;exact⟨_,rfl,.inr ⟨k,x,rfl,HX.o,HE.o⟩,by rw[tK];exact aJ HB0.o _⟩
    ·have e2:(x.s == r.2)=false:=by simp[h2]
     have HE:Hid (r∉aB (L.take (k+1))):=mH hx HI.o (fun e=>h2 (congrArg Prod.snd e));clear hc1 hx h1 h2;go_wp2_with fail
     go_quiet (fail)
     change Exit.then _ _ _ _ ((V.drewN m).drewN nq);have HW:Hid ((V.drewN m).drewN nq=V.drewN (m+nq)):=by show _=_;rw[tK]
     generalize (V.drewN m).drewN nq=w3 at HW ⊢;clear x1 x2 y1 y2;go_wp2_with fail
     go_roundw
     case rel=>exact⟨k+1,by go_num,by omega,HE,_,HW.o⟩
     case measure=>simp[intOf];omega
   ·have e1:(x.a == r.1)=false:=by simp[h1]
    have HE:Hid (r∉aB (L.take (k+1))):=mH hx HI.o (fun e=>h1 (congrArg Prod.fst e));clear hc1 hx h1;go_wp2_with fail
    go_quiet (fail)
    change Exit.then _ _ _ _ ((V.drewN m).drewN nq);have HW:Hid ((V.drewN m).drewN nq=V.drewN (m+nq)):=by show _=_;rw[tK]
    generalize (V.drewN m).drewN nq=w3 at HW ⊢;clear x1 x2 y1 y2;go_wp2_with fail
    go_roundw
    case rel=>exact⟨k+1,by go_num,by omega,HE,_,HW.o⟩
    case measure=>simp[intOf];omega
  ·have HE:Hid (r∉aB L):=by have:=HI.o;rwa [sL (by rw[HN.o];omega)]at this
   go_wp2_with fail
   go_ret;exact⟨_,rfl,.inl ⟨rfl,HE.o⟩,aJ HB0.o _⟩
end
section
theorem gW:(Tryz.prog.info? 77).map (fun i=>(i.zero,i.size,i.bytes))=some (some (.agg #[.int .i64 0,.int .i64 0]),2,16):=by kernel_rfl
theorem aX(l:List Rf):∀u∈aE l,u.oneCell'=true:=by
 intro u hu;obtain⟨r,_,h⟩:=vL.1 hu
 simp only[sK,tX,or_false]at h;rcases h with rfl|rfl<;>rfl
theorem gB{α:Type}(p:α→Bool):∀(l:List α) (k:Nat),k≤l.length→(∀x∈l.take k,p x=true)→(∀x,l[k]?=some x→p x=false)→l.takeWhile p=l.take k∧l.dropWhile p=l.drop k
 | [],k,_,_,_=>by simp
 |a::l,0,_,_,h2=>by
  have:=h2 a (by simp)
  simp[this]
 |a::l,k+1,hk,h1,h2=>by
  have ha:p a=true:=h1 a (by simp);obtain⟨e1,e2⟩:=gB p l k (by simpa using hk) (fun x hx=>h1 x (by simp[hx])) (fun x hx=>h2 x (by simpa using hx))
  simp[ha,e1,e2]
theorem putR_has{l:List Rf}{r:Rf}(h:r∈l):eQ l r=l:=by unfold eQ;rw[if_pos h]
theorem putR_at{l:List Rf}{r:Rf}(h:r∉l){k:Nat}(hk:k≤l.length)(h1:∀x∈l.take k,aP x r=true)(h2:∀x,l[k]?=some x→aP x r=false):eQ l r=l.take k++r::l.drop k:=by
 unfold eQ;obtain⟨e1,e2⟩:=gB (fun x=>aP x r) l k hk h1 h2
 rw[if_neg h,e1,e2]
theorem jE(l:List Rf)(k:Nat):(aE l).take (k*2)=aE (l.take k):=by
 induction l generalizing k with
 |nil=>simp[aE]
 |cons x l ih=>cases k with
  |zero=>simp[aE]
  |succ k =>
   have e:aE (x::l)=.int .i64 x.1::.int .i64 x.2::aE l:=by simp[aE]
   have e2:aE (x::l.take k)=.int .i64 x.1::.int .i64 x.2::aE (l.take k):=by simp[aE]
   rw[e,show(k+1)*2=k*2+1+1 from by omega,sV,sV,ih,sV,e2]
theorem hZ(l:List Rf)(k:Nat):(aE l).drop (k*2)=aE (l.drop k):=by
 induction l generalizing k with
 |nil=>simp[aE]
 |cons x l ih=>cases k with
  |zero=>simp[aE]
  |succ k =>
   have e:aE (x::l)=.int .i64 x.1::.int .i64 x.2::aE l:=by simp[aE]
   rw[e,show(k+1)*2=k*2+1+1 from by omega,sY,sY,ih,sY]
theorem addr0(g i:Nat):(⟨g,0,none⟩:Addr).add i=⟨g,i,none⟩:=by
 unfold Addr.add;split
 ·rename_i h;rw[h]
 ·simp
theorem sPut_some(l:List Rf)(r:Rf)(base:Nat)(g c:Nat)(w:World)(ho:w.ownsRow base 77 2 (.slice (some ⟨g,0,none⟩) l.length c) l.length (aE l))(hl:l.length≤1000000000)(hbs:base≤w.heap.size):
 Calls Tryz.prog 124 #[.slice (some ⟨g,0,none⟩) l.length c,.agg #[.int .i64 r.1,.int .i64 r.2]] w fun e w'=>∃v',e=.returned v'∧w'.ownsRow base 77 2 v' (eQ l r).length (aE (eQ l r))∧Below w.heap.size w w'∧(r∈l∨w'.ownsRow w.heap.size 77 2 v' (eQ l r).length (aE (eQ l r))):=by
 obtain⟨A,c',hv',hc,hcm,hr0⟩:=aC.of_own ho
 simp only[tZ,true_and]at hv';obtain⟨rfl,rfl⟩:=hv'
 have hr:aC (fun k=>k<w.heap.size) w 2 (some ⟨g,0,none⟩) l.length (aE l):=hr0.more fun k hk=>(aF ho hk).2
 have HO:=Hi ho;have HR0:=Hi (aA hr ((sB _ w).alloc (sC _) (.cells #[.int .i64 r.1,.int .i64 r.2] 77)));have HB0:Hid (Below w.heap.size w (w.alloc (.cells #[.int .i64 r.1,.int .i64 r.2] 77))):=(sB _ w).alloc (sC _) _;have HQ0:=Hi (Blk.new w 77 #[.int .i64 r.1,.int .i64 r.2]);have hsz:(w.alloc (.cells #[.int .i64 r.1,.int .i64 r.2] 77)).heap.size=w.heap.size+1:=by simp
 clear ho hr0 hr;have H1:=fun W c h1 h2 h3=>pG l r (fun k=>k<W.heap.size) (some ⟨g,0,none⟩) c W h1 h2 h3
 go_enter Tryz.func124,Tryz.ntmps124;go_wp2_with fail
 generalize w.alloc (.cells #[.int .i64 r.1,.int .i64 r.2] 77)=V at *;replace H1:=H1 V c HR0.o (fun _ h=>h) (by omega);obtain⟨y1,y2⟩:=ce2 HQ0.o
 go_wp2_with fail
 go_at_call 56;refine H1.mono ?_;rintro e w0 ⟨rfl,hb⟩;have HB1:Hid (Below w.heap.size w w0):=HB0.o.trans (hb.mono HB0.o.size);have HQ1:=Hi (HQ0.o.keep (hb.block _ HQ0.o.lt));have HR1:=Hi (aA HR0.o hb);have hs1:w.heap.size+1≤w0.heap.size:=by rw[←hsz];exact hb.size
 clear hb H1 HR0 HQ0 y1 y2 hsz;by_cases hm:r∈l
 ·have e1:decide (r∈l)=true:=decide_eq_true hm;rw[e1];go_wp2_with fail
  go_ret;rw[putR_has hm];exact⟨_,rfl,aS HO.o HB1.o,HB1.o,.inl hm⟩
 ·have e1:decide (r∈l)=false:=decide_eq_false hm;rw[e1];obtain⟨n,hn⟩:∃n,l.length=n:=⟨_,rfl⟩
  have HN:=Hi hn;rw[hn]at hl hc ⊢;have HM:=Hi hm;clear hn hm e1;go_wp2_with fail
  go_loopw [6] (fun s6 wr=>∃k:Nat,s6=.int .i64 k∧k≤n∧Hid (∀x∈l.take k,aP x r=true)∧Hid (Below w0.heap.size w0 wr)) (fun s6 _=>n-(intOf s6).toNat)
  case atStart=>exact⟨0,rfl,by omega,by show ∀x∈_,_;simp,sB _ _⟩
  case round =>
   obtain⟨k,rfl,hk,HI,HB⟩:=hrel
   obtain⟨y1,y2⟩:=ce2 (HQ1.o.keep (HB.o.block _ HQ1.o.lt))
   by_cases hlt:k<n
   ·obtain⟨b1,o1,hA,-,hc1⟩:=(aA HR1.o HB.o).at_ (by rw[HN.o];omega) (by omega)
    simp only[uA,Addr.mk.injEq,and_true]at hA;obtain⟨rfl,rfl⟩:=hA
    obtain⟨x,hx⟩:∃x,l[k]?=some x:=⟨_,sD (by rw[HN.o];exact hlt)⟩
    have x1:wr.cell? ⟨g,k*2,none⟩=some (.int .i64 x.1):=by have:=hc1 _ _ (aL hx).1;rwa [vE]at this
    have x2:wr.cell? ⟨g,k*2+1,none⟩=some (.int .i64 x.2):=by have:=hc1 _ _ (aL hx).2;rwa [vE]at this
    have g1:decide ((k:Int)<n)=true:=decide_eq_true (by omega);have HX:=Hi hx;clear hc1 hx;go_wp2_with fail
    refine wp_region_still_tail 10 (by kernel_rfl) (by kernel_rfl) ?_;simp only[sV,tG,sY,tH];repeat (first|(refine aK rfl (fun K hK=>?_);go_simp;refine hK _ ?_;clear hK K)|(refine aO rfl ?_;go_frame))
    refine wpStill_nil ?_;change wpList _ _ _ _ _ wr.drew;have HBD:Hid (Below w0.heap.size w0 wr.drew):=HB.o.drew;generalize wr.drew=w2 at HBD ⊢;clear x1 x2 y1 y2 HB;go_wp2_with fail
    go_at_call 55;refine(ahead_any x r w2).mono ?_
    rintro e w3 ⟨rfl,hb⟩;have HB3:Hid (Below w0.heap.size w0 w3):=HBD.o.trans (hb.mono HBD.o.size);clear hb HBD;cases ha:aP x r with
    |true =>
     have HI2:Hid (∀x∈l.take (k+1),aP x r=true):=by
      intro z hz;rw[sS,HX.o]at hz;rcases sI.1 hz with hz|hz
      ·exact HI.o z hz
      ·simp at hz;rw[hz];exact ha
     clear ha;go_wp2_with fail
     go_roundw
     case rel=>exact⟨k+1,by go_num,by omega,HI2,HB3⟩
     case measure=>simp[intOf];omega
    |false =>
     have HP:Hid (eQ l r=l.take k++r::l.drop k):=putR_at HM.o (by rw[HN.o];omega) HI.o (fun z hz=>by rw[HX.o]at hz;cases hz;exact ha);clear ha HX;obtain⟨i0,hi,hz0,hz1,hz2⟩:=info_parts gW
     have HRW:Hid (aC (fun x=>x<w3.heap.size) w3 2 (some ⟨g,0,none⟩) n (aE l)):=by have:=aA HR1.o HB3.o;rwa [HN.o]at this
     have HT:Hid (aC (fun x=>x<w3.heap.size) w3 2 (some ⟨g,0,none⟩) k (aE (l.take k))):=by have:=HRW.o.take hk;rwa [jE]at this
     have HQW:=Hi (HQ1.o.keep (HB3.o.block _ HQ1.o.lt));have HBW:Hid (Below w.heap.size w w3):=HB1.o.trans (HB3.o.mono HB1.o.size);clear HB0 HB1 hs1 HQ1 HI;go_wp2_with (at_builtin;refine aG _ rfl (.tmp 27) (.tmp 30) _ rfl (w3.heap.size) 77 i0 _ 2 16 Tryz.underlying79 hi hz0 hz1 hz2 rfl (by omega) (.slice none 0 0) (0) (aE []) rfl (bT _ _ _ _) _ ((some ⟨g,0,none⟩)) (k) (c) (aE (l.take k)) rfl (HT.o) (aX _) ?c1 ?c2 ?c3 ?_)
     try case c1=>simp only[maxLen];omega
     try case c2=>omega
     try case c3=>exact sC _
     intro v4 w4 ho4 hg4 _;have HB4:Hid (Below w3.heap.size w3 w4):=(sB _ w3).grown hg4 (sC _) (fun g e=>by cases e);replace ho4:w4.ownsRow w3.heap.size 77 2 v4 k (aE (l.take k)):=by simpa[aE] using ho4
     have HO4:=Hi ho4;have hQ4:=HQW.o.keep (HB4.o.block _ HQW.o.lt);obtain⟨y1,y2⟩:=ce2 hQ4
     clear ho4 hg4 hQ4;go_wp2_with (at_builtin;refine bJ 79 77 (.agg #[.int .i64 0,.int .i64 0]) 2 16 Tryz.underlying79 gW rfl (by omega) rfl (.tmp 32) (.tmp 34) rfl (w3.heap.size) (v4) (k) (aE (l.take k)) rfl (HO4.o.alloc _) (w4.heap.size) 1 ([.int .i64 r.1,.int .i64 r.2]) rfl ?d1 ?d2 ?d3 ?d4 ?d5 ?d6 ?_)
     try case d1=>rfl
     try case d2=>intro j u hj;exact eD _ _ _ hj
     try case d3=>first|exact aX [r]|exact⟨rfl,rfl⟩|rfl
     try case d4=>omega
     try case d5=>omega
     try case d6=>first|(have:=HB4.o.size;simp;omega)|(simp;done)
     intro v1 w1 hown1 hg1 hat1;have hb1:Below (w3.heap.size) w3 w1:=(HB4.o.alloc HB4.o.size _).grown hg1 (by have:=HB4.o.size;first|(simp;omega)|(simp;done)) (fun g hg=>(aF (HO4.o) hg).1);clear hat1 hg1 y1 y2;have HO5:=Hi hown1;have HB5:=Hi hb1;have HC:Hid (aC (fun x=>x<w1.heap.size) w1 2 (if c=k then (some ⟨g,0,none⟩) else Option.map (fun x:Addr=>x.add (k*2)) (some ⟨g,0,none⟩)) (n-k) (aE (l.drop k))):=by
      have:=(aA HRW.o HB5.o).cut (cap:=c) hk (by omega)
      rwa [hZ]at this
     clear hown1 hb1 HO4 HB4 HRW HT HQW;have HF:Hid (∀(v':Value) (w':World),w'.ownsRow w3.heap.size 77 2 v' (k+1+(n-k)) (aE (l.take k)++[.int .i64 r.1,.int .i64 r.2]++aE (l.drop k))→w'.ownsRow w.heap.size 77 2 v' (eQ l r).length (aE (eQ l r))):=by
      intro v' w' h;have e1:(eQ l r).length=k+1+(n-k):=by rw[HP.o];simp only[sG,tD,sW,uQ];have:=HN.o;omega
      have e2:aE (eQ l r)=aE (l.take k)++[.int .i64 r.1,.int .i64 r.2]++aE (l.drop k):=by rw[HP.o,bC,sX];rfl
      rw[e1,e2];exact bU h fun g hg=>sR HBW.o.size (aF h hg).1
     by_cases hck:c=k
     ·rw[if_pos hck]at HC;go_wp2_with (at_builtin;refine aG _ rfl (.tmp 36) (.tmp 39) _ rfl (w3.heap.size) 77 i0 _ 2 16 Tryz.underlying79 hi hz0 hz1 hz2 rfl (by omega) (v1) (k+1) (aE (l.take k)++[.int .i64 r.1,.int .i64 r.2]) rfl (HO5.o) _ (_) (_) (_) (aE (l.drop k)) rfl ((by simpa using HC.o)) (aX _) ?c1 ?c2 ?c3 ?_)
      try case c1=>simp only[maxLen];omega
      try case c2=>omega
      try case c3=>exact HB5.o.size
      intro v6 w6 ho6 hg6 _;have HB6:Hid (Below w3.heap.size w3 w6):=HB5.o.grown hg6 HB5.o.size (fun g hg=>(aF HO5.o hg).1);have HO6:Hid (w6.ownsRow w.heap.size 77 2 v6 (eQ l r).length (aE (eQ l r))):=HF.o _ _ (by simpa using ho6);clear ho6 hg6 HF HC HO5 HB5;go_wp2_with fail
      go_ret;exact⟨_,rfl,bU HO6.o (fun g hg=>sR hbs (aF HO6.o hg).1),HBW.o.trans (HB6.o.mono HBW.o.size),.inr HO6.o⟩
     ·rw[if_neg hck]at HC;have HC2:Hid (aC (fun x=>x<w1.heap.size) w1 2 (some ⟨g,k*2,none⟩) (n-k) (aE (l.drop k))):=by have:=HC.o;rw[vK,addr0]at this;exact this
      go_wp2_with (at_builtin;refine aG _ rfl (.tmp 36) (.tmp 39) _ rfl (w3.heap.size) 77 i0 _ 2 16 Tryz.underlying79 hi hz0 hz1 hz2 rfl (by omega) (v1) (k+1) (aE (l.take k)++[.int .i64 r.1,.int .i64 r.2]) rfl (HO5.o) _ (_) (_) (_) (aE (l.drop k)) rfl ((by simpa using HC2.o)) (aX _) ?c1 ?c2 ?c3 ?_)
      try case c1=>simp only[maxLen];omega
      try case c2=>omega
      try case c3=>exact HB5.o.size
      intro v6 w6 ho6 hg6 _;have HB6:Hid (Below w3.heap.size w3 w6):=HB5.o.grown hg6 HB5.o.size (fun g hg=>(aF HO5.o hg).1);have HO6:Hid (w6.ownsRow w.heap.size 77 2 v6 (eQ l r).length (aE (eQ l r))):=HF.o _ _ (by simpa using ho6);clear ho6 hg6 HF HC HO5 HB5;go_wp2_with fail
      go_ret;exact⟨_,rfl,bU HO6.o (fun g hg=>sR hbs (aF HO6.o hg).1),HBW.o.trans (HB6.o.mono HBW.o.size),.inr HO6.o⟩
   ·have g1:decide ((k:Int)<n)=false:=decide_eq_false (by omega);obtain rfl:k=n:=by omega
    have HP:Hid (eQ l r=l.take k++r::l.drop k):=putR_at HM.o (by rw[HN.o];omega) HI.o (fun z hz=>by rw[uF (by rw[HN.o];omega)]at hz;cases hz);clear y1 y2;go_wp2_with fail
    go_quiet (fail)
    change Exit.then _ _ _ _ (wr.drewN nq);have HBD:Hid (Below w0.heap.size w0 (wr.drewN nq)):=aJ HB.o nq;generalize wr.drewN nq=w3 at HBD ⊢;clear HB;obtain⟨i0,hi,hz0,hz1,hz2⟩:=info_parts gW
    have HRW:Hid (aC (fun x=>x<w3.heap.size) w3 2 (some ⟨g,0,none⟩) k (aE l)):=by have:=aA HR1.o HBD.o;rwa [HN.o]at this
    have HT:Hid (aC (fun x=>x<w3.heap.size) w3 2 (some ⟨g,0,none⟩) k (aE (l.take k))):=by have:=HRW.o.take hk;rwa [jE]at this
    have HQW:=Hi (HQ1.o.keep (HBD.o.block _ HQ1.o.lt));have HBW:Hid (Below w.heap.size w w3):=HB1.o.trans (HBD.o.mono HB1.o.size);clear HB0 HB1 hs1 HQ1 HI;go_wp2_with (at_builtin;refine aG _ rfl (.tmp 27) (.tmp 30) _ rfl (w3.heap.size) 77 i0 _ 2 16 Tryz.underlying79 hi hz0 hz1 hz2 rfl (by omega) (.slice none 0 0) (0) (aE []) rfl (bT _ _ _ _) _ ((some ⟨g,0,none⟩)) (k) (c) (aE (l.take k)) rfl (HT.o) (aX _) ?c1 ?c2 ?c3 ?_)
    try case c1=>simp only[maxLen];omega
    try case c2=>omega
    try case c3=>exact sC _
    intro v4 w4 ho4 hg4 _;have HB4:Hid (Below w3.heap.size w3 w4):=(sB _ w3).grown hg4 (sC _) (fun g e=>by cases e);replace ho4:w4.ownsRow w3.heap.size 77 2 v4 k (aE (l.take k)):=by simpa[aE] using ho4
    have HO4:=Hi ho4;have hQ4:=HQW.o.keep (HB4.o.block _ HQW.o.lt);obtain⟨y1,y2⟩:=ce2 hQ4
    clear ho4 hg4 hQ4;go_wp2_with (at_builtin;refine bJ 79 77 (.agg #[.int .i64 0,.int .i64 0]) 2 16 Tryz.underlying79 gW rfl (by omega) rfl (.tmp 32) (.tmp 34) rfl (w3.heap.size) (v4) (k) (aE (l.take k)) rfl (HO4.o.alloc _) (w4.heap.size) 1 ([.int .i64 r.1,.int .i64 r.2]) rfl ?d1 ?d2 ?d3 ?d4 ?d5 ?d6 ?_)
    try case d1=>rfl
    try case d2=>intro j u hj;exact eD _ _ _ hj
    try case d3=>first|exact aX [r]|exact⟨rfl,rfl⟩|rfl
    try case d4=>omega
    try case d5=>omega
    try case d6=>first|(have:=HB4.o.size;simp;omega)|(simp;done)
    intro v1 w1 hown1 hg1 hat1;have hb1:Below (w3.heap.size) w3 w1:=(HB4.o.alloc HB4.o.size _).grown hg1 (by have:=HB4.o.size;first|(simp;omega)|(simp;done)) (fun g hg=>(aF (HO4.o) hg).1);clear hat1 hg1 y1 y2;have HO5:=Hi hown1;have HB5:=Hi hb1;have HC:Hid (aC (fun x=>x<w1.heap.size) w1 2 (if c=k then (some ⟨g,0,none⟩) else Option.map (fun x:Addr=>x.add (k*2)) (some ⟨g,0,none⟩)) (k-k) (aE (l.drop k))):=by
     have:=(aA HRW.o HB5.o).cut (cap:=c) hk (by omega)
     rwa [hZ]at this
    clear hown1 hb1 HO4 HB4 HRW HT HQW;have HF:Hid (∀(v':Value) (w':World),w'.ownsRow w3.heap.size 77 2 v' (k+1+(k-k)) (aE (l.take k)++[.int .i64 r.1,.int .i64 r.2]++aE (l.drop k))→w'.ownsRow w.heap.size 77 2 v' (eQ l r).length (aE (eQ l r))):=by
     intro v' w' h;have e1:(eQ l r).length=k+1+(k-k):=by rw[HP.o];simp only[sG,tD,sW,uQ];have:=HN.o;omega
     have e2:aE (eQ l r)=aE (l.take k)++[.int .i64 r.1,.int .i64 r.2]++aE (l.drop k):=by rw[HP.o,bC,sX];rfl
     rw[e1,e2];exact bU h fun g hg=>sR HBW.o.size (aF h hg).1
    by_cases hck:c=k
    ·rw[if_pos hck]at HC;go_wp2_with (at_builtin;refine aG _ rfl (.tmp 36) (.tmp 39) _ rfl (w3.heap.size) 77 i0 _ 2 16 Tryz.underlying79 hi hz0 hz1 hz2 rfl (by omega) (v1) (k+1) (aE (l.take k)++[.int .i64 r.1,.int .i64 r.2]) rfl (HO5.o) _ (_) (_) (_) (aE (l.drop k)) rfl ((by simpa using HC.o)) (aX _) ?c1 ?c2 ?c3 ?_)
     try case c1=>simp only[maxLen];omega
     try case c2=>omega
     try case c3=>exact HB5.o.size
     intro v6 w6 ho6 hg6 _;have HB6:Hid (Below w3.heap.size w3 w6):=HB5.o.grown hg6 HB5.o.size (fun g hg=>(aF HO5.o hg).1);have HO6:Hid (w6.ownsRow w.heap.size 77 2 v6 (eQ l r).length (aE (eQ l r))):=HF.o _ _ (by simpa using ho6);clear ho6 hg6 HF HC HO5 HB5;go_wp2_with fail
     go_ret;exact⟨_,rfl,bU HO6.o (fun g hg=>sR hbs (aF HO6.o hg).1),HBW.o.trans (HB6.o.mono HBW.o.size),.inr HO6.o⟩
    ·rw[if_neg hck]at HC;have HC2:Hid (aC (fun x=>x<w1.heap.size) w1 2 (some ⟨g,k*2,none⟩) (k-k) (aE (l.drop k))):=by have:=HC.o;rw[vK,addr0]at this;exact this
     go_wp2_with (at_builtin;refine aG _ rfl (.tmp 36) (.tmp 39) _ rfl (w3.heap.size) 77 i0 _ 2 16 Tryz.underlying79 hi hz0 hz1 hz2 rfl (by omega) (v1) (k+1) (aE (l.take k)++[.int .i64 r.1,.int .i64 r.2]) rfl (HO5.o) _ (_) (_) (_) (aE (l.drop k)) rfl ((by simpa using HC2.o)) (aX _) ?c1 ?c2 ?c3 ?_)
     try case c1=>simp only[maxLen];omega
     try case c2=>omega
     try case c3=>exact HB5.o.size
     intro v6 w6 ho6 hg6 _;have HB6:Hid (Below w3.heap.size w3 w6):=HB5.o.grown hg6 HB5.o.size (fun g hg=>(aF HO5.o hg).1);have HO6:Hid (w6.ownsRow w.heap.size 77 2 v6 (eQ l r).length (aE (eQ l r))):=HF.o _ _ (by simpa using ho6);clear ho6 hg6 HF HC HO5 HB5;go_wp2_with fail
     go_ret;exact⟨_,rfl,bU HO6.o (fun g hg=>sR hbs (aF HO6.o hg).1),HBW.o.trans (HB6.o.mono HBW.o.size),.inr HO6.o⟩
theorem sPut_nil(r:Rf)(w:World):
 Calls Tryz.prog 124 #[.slice none 0 0,.agg #[.int .i64 r.1,.int .i64 r.2]] w fun e w'=>∃v',e=.returned v'∧w'.ownsRow w.heap.size 77 2 v' 1 (aE [r])∧Below w.heap.size w w':=by
 have HB0:Hid (Below w.heap.size w (w.alloc (.cells #[.int .i64 r.1,.int .i64 r.2] 77))):=(sB _ w).alloc (sC _) _;have HQ0:=Hi (Blk.new w 77 #[.int .i64 r.1,.int .i64 r.2]);have H1:=fun W=>pG [] r (fun _=>False) none 0 W (aC.none_) (fun _ h=>h.elim) (by simp)
 go_enter Tryz.func124,Tryz.ntmps124;go_wp2_with fail
 generalize w.alloc (.cells #[.int .i64 r.1,.int .i64 r.2] 77)=V at *;replace H1:=H1 V;obtain⟨y1,y2⟩:=ce2 HQ0.o
 go_wp2_with fail
 go_at_call 56;refine H1.mono ?_;rintro e w0 ⟨rfl,hb⟩;have HB1:Hid (Below w.heap.size w w0):=HB0.o.trans (hb.mono HB0.o.size);have HQ1:=Hi (HQ0.o.keep (hb.block _ HQ0.o.lt));clear hb H1 HQ0 y1 y2 HB0;have e1:decide (r∈([]:List Rf))=false:=by simp
 rw[e1];clear e1;go_wp2_with fail
 go_loopw [6] (fun s6 wr=>s6=.int .i64 0∧Hid (Below w0.heap.size w0 wr)) (fun _ _=>0)
 case atStart=>exact⟨rfl,sB _ _⟩
 case round =>
  obtain⟨rfl,HB⟩:=hrel
  go_wp2_with fail
  go_quiet (fail)
  change Exit.then _ _ _ _ (wr.drewN nq);have HBD:Hid (Below w0.heap.size w0 (wr.drewN nq)):=aJ HB.o nq;generalize wr.drewN nq=w3 at HBD ⊢;obtain⟨i0,hi,hz0,hz1,hz2⟩:=info_parts gW
  have HQ3:=Hi (HQ1.o.keep (HBD.o.block _ HQ1.o.lt));have HB3:Hid (Below w.heap.size w w3):=HB1.o.trans (HBD.o.mono HB1.o.size);clear HB HBD HB1 HQ1;go_wp2_with (at_builtin;refine aG _ rfl (.tmp 27) (.tmp 30) _ rfl (w3.heap.size) 77 i0 _ 2 16 Tryz.underlying79 hi hz0 hz1 hz2 rfl (by omega) (.slice none 0 0) (0) (aE []) rfl (bT _ _ _ _) _ (none) (0) (0) (aE []) rfl ((aC.none_ (D:=fun _=>False))) (aX _) ?c1 ?c2 ?c3 ?_)
  try case c1=>simp only[maxLen];omega
  try case c2=>omega
  try case c3=>exact sC _
  intro v4 w4 ho4 hg4 _;have HB4:Hid (Below w3.heap.size w3 w4):=(sB _ w3).grown hg4 (sC _) (fun g e=>by cases e);replace ho4:w4.ownsRow w3.heap.size 77 2 v4 0 (aE []):=by simpa[aE] using ho4
  have HO4:=Hi ho4;have hQ4:=HQ3.o.keep (HB4.o.block _ HQ3.o.lt);obtain⟨y1,y2⟩:=ce2 hQ4
  clear ho4 hg4 hQ4;go_wp2_with (at_builtin;refine bJ 79 77 (.agg #[.int .i64 0,.int .i64 0]) 2 16 Tryz.underlying79 gW rfl (by omega) rfl (.tmp 32) (.tmp 34) rfl (w3.heap.size) (v4) (0) (aE []) rfl (HO4.o.alloc _) (w4.heap.size) 1 ([.int .i64 r.1,.int .i64 r.2]) rfl ?d1 ?d2 ?d3 ?d4 ?d5 ?d6 ?_)
  try case d1=>rfl
  try case d2=>intro j u hj;exact eD _ _ _ hj
  try case d3=>first|exact aX [r]|exact⟨rfl,rfl⟩|rfl
  try case d4=>omega
  try case d5=>omega
  try case d6=>first|(have:=HB4.o.size;simp;omega)|(simp;done)
  intro v1 w1 hown1 hg1 hat1;have hb1:Below (w3.heap.size) w3 w1:=(HB4.o.alloc HB4.o.size _).grown hg1 (by have:=HB4.o.size;first|(simp;omega)|(simp;done)) (fun g hg=>(aF (HO4.o) hg).1);clear hat1 hg1 y1 y2;have HO5:=Hi hown1;have HB5:=Hi hb1;clear hown1 hb1 HO4 HB4 HQ3;go_wp2_with (at_builtin;refine aG _ rfl (.tmp 36) (.tmp 39) _ rfl (w3.heap.size) 77 i0 _ 2 16 Tryz.underlying79 hi hz0 hz1 hz2 rfl (by omega) (v1) (1) (aE []++[.int .i64 r.1,.int .i64 r.2]) rfl (HO5.o) _ (_) (_) (_) (aE []) rfl ((aC.none_ (D:=fun _=>False))) (aX _) ?c1 ?c2 ?c3 ?_)
  try case c1=>simp only[maxLen];omega
  try case c2=>omega
  try case c3=>exact HB5.o.size
  intro v6 w6 ho6 hg6 _;have HB6:Hid (Below w3.heap.size w3 w6):=HB5.o.grown hg6 HB5.o.size (fun g hg=>(aF HO5.o hg).1);have HO6:Hid (w6.ownsRow w.heap.size 77 2 v6 1 (aE [r])):=by
   have h:w6.ownsRow w3.heap.size 77 2 v6 1 (aE [r]):=by simpa[aE] using ho6
   exact bU h fun g hg=>sR HB3.o.size (aF h hg).1
  clear ho6 hg6 HO5 HB5;go_wp2_with fail
  go_ret;exact⟨_,rfl,HO6.o,HB3.o.trans (HB6.o.mono HB3.o.size)⟩
theorem sPut_any(l:List Rf)(r:Rf)(base:Nat)(v:Value)(w:World)(ho:w.ownsRow base 77 2 v l.length (aE l))(hl:l.length≤1000000000)(hbs:base≤w.heap.size):
 Calls Tryz.prog 124 #[v,.agg #[.int .i64 r.1,.int .i64 r.2]] w fun e w'=>∃v',e=.returned v'∧w'.ownsRow base 77 2 v' (eQ l r).length (aE (eQ l r))∧Below w.heap.size w w'∧(r∈l∨w'.ownsRow w.heap.size 77 2 v' (eQ l r).length (aE (eQ l r))):=by
 have ho':=ho;rcases ho.2 with⟨rfl,h0⟩|⟨g,cap,cur,rfl,_⟩
 ·obtain rfl:l=[]:=tV.1 h0;refine(sPut_nil r w).mono ?_
  rintro e w' ⟨v',rfl,h1,h2⟩;exact⟨v',rfl,bU h1 fun g hg=>sR hbs (aF h1 hg).1,h2,.inr h1⟩
 ·exact sPut_some l r base g cap w ho' hl hbs
end
section
theorem pM{l:List Rf}{r x:Rf}: x∈eQ l r↔x∈l∨x=r:=by
 unfold eQ;split
 ·rename_i h;constructor
  ·exact .inl
  ·rintro(h'|rfl)
   ·exact h'
   ·exact h
 ·rw[sI,sK];have:=uV (p:=fun x=>aP x r) (l:=l)
  constructor
  ·rintro(h|h|h)
   ·exact .inl (by rw[←this];exact tE _ h)
   ·exact .inr h
   ·exact .inl (by rw[←this];exact tT _ h)
  ·rintro(h|h)
   ·rw[←this]at h;rcases sI.1 h with h|h
    ·exact .inl h
    ·exact .inr (.inr h)
   ·exact .inr (.inl h)
theorem putR_len{l:List Rf}{r:Rf}(h:r∉l):(eQ l r).length=l.length+1:=by
 unfold eQ;rw[if_neg h,sG,sW];have:=congrArg List.length (uV (p:=fun x=>aP x r) (l:=l))
 rw[sG]at this;omega
theorem nM{α:Type}{p:α→Bool}{l:List α}{x:α}(h:x∈l.takeWhile p):p x=true:=by
 induction l with
 |nil=>cases h
 |cons a l ih =>
  rw[List.takeWhile_cons]at h;split at h
  ·rename_i ha;rcases sK.1 h with rfl|h
   ·exact ha
   ·exact ih h
  ·cases h
theorem putR_asc{l:List Rf}{r:Rf}(h:lI l):lI (eQ l r):=by
 unfold eQ;split
 ·exact h
 ·rename_i hm;have hs:=uV (p:=fun x=>aP x r) (l:=l);have h1:lI (l.takeWhile (fun x=>aP x r)):=h.sublist (List.takeWhile_sublist _);have h2:lI (l.dropWhile (fun x=>aP x r)):=h.sublist (List.dropWhile_sublist _);have h3:∀x∈l.dropWhile (fun x=>aP x r),aP r x=true:=by
   intro x hx;cases hd:l.dropWhile (fun x=>aP x r) with
   |nil=>rw[hd]at hx;cases hx
   |cons a t =>
    have ha:aP a r=false:=by
     have:=List.head_dropWhile_not (fun x=>aP x r) (l:=l) (by rw[hd];simp)
     simp only[hd,List.head_cons]at this;simpa using this
    have hal:a∈l:=by rw[←hs,hd];simp
    have hra:aP r a=true:=by
     rcases jB (a:=a) (b:=r) (fun e=>hm (e▸hal)) with h|h
     ·rw[ha]at h;cases h
     ·exact h
    rw[hd]at hx h2;rcases sK.1 hx with rfl|hx
    ·exact hra
    ·exact gX hra ((vO.1 h2).1 x hx)
  rw[lI,List.pairwise_append];refine⟨h1,vO.2 ⟨h3,h2⟩,fun a ha b hb=>?_⟩
  have har:aP a r=true:=nM (p:=fun x=>aP x r) ha;rcases sK.1 hb with rfl|hb
  ·exact har
  ·exact gX har (h3 b hb)
theorem lI.nodup{l:List Rf}(h:lI l):l.Nodup:=h.imp fun h e=>by rw[e,dR]at h;cases h
theorem lY{l m:List Rf}(hn:l.Nodup)(hs:∀x∈l,x∈m):l.length≤m.length:=by
 induction l generalizing m with
 |nil=>simp
 |cons a l ih =>
  obtain⟨h1,h2⟩:=tN.1 hn
  obtain⟨p,q,rfl⟩:=vH (hs a (by simp))
  have:=ih (m:=p++q) h2 (fun x hx=>by
   have h:=hs x (by simp[hx]);rcases sI.1 h with h|h
   ·exact tE _ h
   ·rcases sK.1 h with rfl|h
    ·exact absurd hx h1
    ·exact tT _ h)
  simp only[sG,sW]at this ⊢;omega
structure BI(L:List ChD)(hs todo out:List Rf)(k:Nat):Prop where
 asc:lI out
 sub:∀r∈out,r∈aQ L hs
 tod:∀r∈todo,r∈aB L→r∈aQ L hs
 hds:∀r∈hs,r∈todo
 don:∀j,j<k→∀r,todo[j]?=some r→r∈out∨r∉aB L
 cls:∀c∈L,c.rf∈out→∀d∈c.deps,d∈todo
 len:todo.length≤hs.length+12*out.length
 kl:k≤todo.length
theorem BI.start(L:List ChD)(hs:List Rf):BI L hs hs [] 0 :=
 ⟨by simp[lI],by simp,fun r hr hm=>mL hr hm,fun r hr=>hr,fun j hj=>by omega,by simp,by simp,by omega⟩
theorem BI.outlen{L:List ChD}{hs todo out:List Rf}{k:Nat}(h:BI L hs todo out k):out.length≤L.length:=by
 have:=lY h.asc.nodup (m:=aB L) (fun x hx=>bQ (h.sub x hx))
 simpa[aB] using this
theorem BI.skip{L:List ChD}{hs todo out:List Rf}{k:Nat}(h:BI L hs todo out k){x:Rf}(hx:todo[k]?=some x)(hm:x∈out∨x∉aB L):BI L hs todo out (k+1) :=
 { h with
  don:=fun j hj r hr=>by
   by_cases e:j=k
   ·subst e;rw[hx]at hr;cases hr;exact hm
   ·exact h.don j (by omega) r hr
  kl:=(sF.1 hx).1 }
theorem BI.put{L:List ChD}(ht:TopR L.reverse){hs todo out:List Rf}{k:Nat}(h:BI L hs todo out k){c:ChD}(hx:todo[k]?=some c.rf)(hc:c∈L)(hn:(aB L).Nodup)(hm:c.rf∉out)(hd:c.deps.length≤12):
 BI L hs (todo++c.deps) (eQ out c.rf) (k+1):=by
 have hkl:=(sF.1 hx).1;have hb:c.rf∈aQ L hs:=h.tod _ (sJ hx) (cD hc);refine⟨putR_asc h.asc,fun r hr=>?_,fun r hr hm=>?_,fun r hr=>tE _ (h.hds r hr),fun j hj r hr=>?_,fun b hbL hbo d hd=>?_,?_,?_⟩
 ·rcases pM.1 hr with hr|rfl
  ·exact h.sub r hr
  ·exact hb
 ·rcases sI.1 hr with hr|hr
  ·exact h.tod r hr hm
  ·exact fK ht (uK.2 hc) hb hr
 ·rw[tU (by omega)]at hr;by_cases e:j=k
  ·subst e;rw[hx]at hr;cases hr;exact .inl (pM.2 (.inr rfl))
  ·rcases h.don j (by omega) r hr with h|h
   ·exact .inl (pM.2 (.inl h))
   ·exact .inr h
 ·rcases pM.1 hbo with hbo|hbo
  ·exact tE _ (h.cls b hbL hbo d hd)
  ·have:b=c:=by
    rw[aB,List.Nodup,uU]at hn;by_cases e:b=c
    ·exact e
    ·exact absurd hbo (by
      have h2:∀ {l:List ChD},l.Pairwise (fun x y=>x.rf≠y.rf)→b∈l→c∈l→b.rf≠c.rf:=by
       intro l;induction l with
       |nil=>intro _ h;cases h
       |cons a l ih =>
        intro hp hb hc;obtain⟨h1,h2⟩:=vO.1 hp
        rcases sK.1 hb with e1|hb
        ·rcases sK.1 hc with e2|hc
         ·exact absurd (e1.trans e2.symm) e
         ·rw[e1];exact h1 c hc
        ·rcases sK.1 hc with e2|hc
         ·rw[e2];exact(h1 b hb).symm
         ·exact ih h2 hb hc
      exact h2 hn hbL hc)
   rw[this]at hd;exact tT _ hd
 ·rw[putR_len hm,sG];have:=h.len;omega
 ·rw[sG];omega
theorem BI.done{L:List ChD}{hs todo out:List Rf}(h:BI L hs todo out todo.length):∀r,r∈out↔r∈aQ L hs:=by
 have hall:∀r∈todo,r∈aB L→r∈out:=fun r hr hm=>by
  obtain⟨j,hj⟩:=xH hr
  rcases h.don j (sF.1 hj).1 r hj with h|h
  ·exact h
  ·exact absurd hm h
 intro r;refine⟨h.sub r,fun hr=>?_⟩
 refine iH (fun r=>r∈out) (fun r hr hm=>hall r (h.hds r hr) ?_) (fun c hc hs d hd hm=>hall d (h.cls c (uK.1 hc) hs d hd) ?_) r hr
 ·rw[dF]at hm;exact uK.1 hm
 ·rw[dF]at hm;exact uK.1 hm
structure ChIn(D:Nat→Prop)(w:World)(c:ChD):Prop where
 hd:aC D w 2 c.DA c.deps.length (aE c.deps)
 hdl:c.deps.length≤9223372036854775807
 ho:aC D w 13 c.OA c.ops.length (gY c.ops)
 hol:c.ops.length≤9223372036854775807
 hp:∀o∈c.ops,aC D w 2 o.A o.l.length (aE o.l)∧o.l.length≤9223372036854775807
theorem ChIn.keep{D:Nat→Prop}{w w':World}{c:ChD}(h:ChIn D w c)(hk:dS D w w'):ChIn D w' c :=
 ⟨h.hd.keep hk,h.hdl,h.ho.keep hk,h.hol,fun o ho=>⟨(h.hp o ho).1.keep hk,(h.hp o ho).2⟩⟩
theorem ChIn.chm{D:Nat→Prop}{w:World}{c:ChD}(h:ChIn D w c)(hD:∀k,D k→k<w.heap.size):ChM w c.deps c.DA c.ops c.OA :=
 ⟨h.hd.more hD,h.hdl,h.ho.more hD,h.hol,fun o ho=>⟨(h.hp o ho).1.more hD,(h.hp o ho).2⟩⟩
theorem ChIn.more{D D':Nat→Prop}{w:World}{c:ChD}(h:ChIn D w c)(hD:∀k,D k→D' k):ChIn D' w c :=
 ⟨h.hd.more hD,h.hdl,h.ho.more hD,h.hol,fun o ho=>⟨(h.hp o ho).1.more hD,(h.hp o ho).2⟩⟩
structure ChsIn(D:Nat→Prop)(w:World)(A:Option Addr)(L:List ChD):Prop where
 row:aC D w 5 A L.length (bP L)
 each:∀c∈L,ChIn D w c
theorem ChsIn.keep{D:Nat→Prop}{w w':World}{A:Option Addr}{L:List ChD}(h:ChsIn D w A L)(hk:dS D w w'):ChsIn D w' A L :=
 ⟨h.row.keep hk,fun c hc=>(h.each c hc).keep hk⟩
theorem ChsIn.below{w w':World}{A:Option Addr}{L:List ChD}(h:ChsIn (fun k=>k<w.heap.size) w A L)(hb:Below w.heap.size w w'):ChsIn (fun k=>k<w'.heap.size) w' A L :=
 ⟨aA h.row hb,fun c hc=>((h.each c hc).keep fun k hk=>hb.block k hk).more fun _ hk=>sE hk hb.size⟩
theorem sBehind_any(L:List ChD)(hs:List Rf)(A:Option Addr)(c:Nat)(H:Option Addr)(hc:Nat)(w:World)(hL:ChsIn (fun k=>k<w.heap.size) w A L)(hr:aC (fun k=>k<w.heap.size) w 2 H hs.length (aE hs))
 (ht:TopR L.reverse) (hn:(aB L).Nodup) (hd:∀c∈L,c.deps.length≤12) (hl:L.length≤120) (hhl:hs.length≤100000000) :
 Calls Tryz.prog 81 #[.slice A L.length c,.slice H hs.length hc] w fun e w'=>∃v out,e=.returned v∧w'.ownsRow w.heap.size 77 2 v out.length (aE out)∧lI out∧(∀r,r∈out↔r∈aQ L hs)∧out.length≤120∧Below w.heap.size w w':=by
 obtain⟨nh,hnh⟩:∃n,hs.length=n:=⟨_,rfl⟩
 obtain⟨n,hnn⟩:∃n,L.length=n:=⟨_,rfl⟩
 have HNH:=Hi hnh;have HN:=Hi hnn;have HL:=Hi hL;have HT:=Hi ht;have HD:=Hi hd;have HND:=Hi hn;have HLL:=Hi hl;rw[hnh]at hhl hr ⊢;rw[hnn]at hl ⊢;have HR:=Hi hr;clear hr hL ht hd hn hnh hnn;obtain⟨i0,hi,hz0,hz1,hz2⟩:=info_parts gW
 go_enter Tryz.func81,Tryz.ntmps81;go_wp2_with (at_builtin;refine aG _ rfl (.tmp 10) (.tmp 11) _ rfl (w.heap.size) 77 i0 _ 2 16 Tryz.underlying79 hi hz0 hz1 hz2 rfl (by omega) (.slice none 0 0) (0) (aE []) rfl (bT _ _ _ _) _ (H) (nh) (hc) (aE hs) rfl (HR.o) (aX _) ?c1 ?c2 ?c3 ?_)
 try case c1=>simp only[maxLen];omega
 try case c2=>omega
 try case c3=>exact sC _
 intro v1 w1 ho1 hg1 _;have HB1:Hid (Below w.heap.size w w1):=(sB _ w).grown hg1 (sC _) (fun g e=>by cases e);have HO1:Hid (w1.ownsRow w.heap.size 77 2 v1 hs.length (aE hs)):=by show w1.ownsRow _ _ _ _ _ _;rw[HNH.o];simpa[aE] using ho1
 clear ho1 hg1 HR;go_wp2_with fail
 go_loopw [5,6,7,8,9] (fun s5 s6 s7 _ _ wr=>∃(k:Nat) (todo out:List Rf),s7=.int .i64 k∧Hid (BI L hs todo out k)∧Hid (wr.ownsRow w.heap.size 77 2 s5 out.length (aE out))∧Hid (wr.ownsRow w.heap.size 77 2 s6 todo.length (aE todo)) ∧
  Hid (∀g,s5.ownBlock=some g→s6.ownBlock≠some g)∧Hid (Below w.heap.size w wr)) (fun _ _ s7 _ _ _=>nh+1440-(intOf s7).toNat)
 case atStart=>exact⟨0,hs,[],rfl,BI.start L hs,bT _ _ _ _,HO1.o,(by show ∀g,_→_;intro g e;cases e),HB1.o⟩
 case round =>
  obtain⟨k,todo,out,rfl,HI,HO,HTD,HNE,HB⟩:=hrel
  obtain⟨Ao,co,rfl,hco1,hco2,hro⟩:=aC.of_own HO.o
  obtain⟨At,ct,rfl,hct1,hct2,hrt⟩:=aC.of_own HTD.o
  have hol:out.length≤120:=sR HI.o.outlen HLL.o;have htl:todo.length≤nh+1440:=by have:=HI.o.len;have:=HNH.o;omega
  have hkt:=HI.o.kl;have HRO:=Hi (hro.more (fun k hk=>(aF HO.o hk).2));have HRT:=Hi (hrt.more (fun k hk=>(aF HTD.o hk).2));have H1:=fun W (r:Rf) h1 h2=>pG out r (fun k=>k<W.heap.size) Ao co W h1 (fun _ h=>h) h2
  have H2:=fun W (r:Rf) h1 h2=>kL L r (fun k=>k<W.heap.size) A c W h1 (fun _ h=>h) h2
  have H3:=fun W (r:Rf) h1 h2 h3=>sPut_any out r w.heap.size (.slice Ao out.length co) W h1 h2 h3
  obtain⟨no,hno⟩:∃no,out.length=no:=⟨_,rfl⟩
  obtain⟨m,hm⟩:∃m,todo.length=m:=⟨_,rfl⟩
  have HNO:=Hi hno;have HM:=Hi hm;rw[hno]at H1 H3 hol hco1 HRO HNE ⊢;rw[hm]at htl hkt hct1 HRT HNE ⊢;rw[HN.o]at H2;clear hro hrt hno hm;by_cases hlt:k<m
  ·obtain⟨b1,o1,rfl,-,hc1⟩:=HRT.o.at_ (by omega) (by omega)
   obtain⟨x,hx⟩:∃x,todo[k]?=some x:=⟨_,sD (by rw[HM.o];exact hlt)⟩
   have x1:wr.cell? ⟨b1,o1+k*2,none⟩=some (.int .i64 x.1):=hc1 _ _ (aL hx).1;have x2:wr.cell? ⟨b1,o1+k*2+1,none⟩=some (.int .i64 x.2):=hc1 _ _ (aL hx).2;have HX:=Hi hx;replace H1:=H1 wr x HRO.o (by omega);clear hc1 hx;go_wp2_with fail
   go_at_call 56;refine H1.mono ?_;rintro e w2 ⟨rfl,hb⟩;have HW2:=Hi hb;have hrt2:=(aA HRT.o hb);obtain⟨b2,o2,e2,-,hc1⟩:=hrt2.at_ (by omega) (by omega)
   simp only[uA,Addr.mk.injEq,and_true]at e2;obtain⟨rfl,rfl⟩:=e2
   have y1:w2.cell? ⟨b1,o1+k*2,none⟩=some (.int .i64 x.1):=hc1 _ _ (aL HX.o).1;have y2:w2.cell? ⟨b1,o1+k*2+1,none⟩=some (.int .i64 x.2):=hc1 _ _ (aL HX.o).2;have HL2:=Hi (HL.o.below (HB.o.trans (hb.mono HB.o.size)));replace H2:=H2 w2 x (by rw[←HN.o];exact HL2.o.row) (by omega);clear hb H1 x1 x2 hrt2 hc1;go_wp2_with fail
   go_at_call 26;refine H2.mono ?_;rintro e w3 ⟨i,rfl,hfi,hb⟩;have HW3:Hid (Below wr.heap.size wr w3):=HW2.o.trans (hb.mono HW2.o.size);have HFI:=Hi hfi;clear hb H2 y1 y2 HL2 hfi HW2;have HB3:Hid (Below w.heap.size w w3):=HB.o.trans (HW3.o.mono HB.o.size);have HO3:=Hi (aS HO.o HW3.o);have HTD3:=Hi (aS HTD.o HW3.o);rw[HNO.o]at HO3;rw[HM.o]at HTD3;by_cases hxo:x∈out
   ·have e1:decide (x∈out)=true:=decide_eq_true hxo;have HI2:=Hi (HI.o.skip HX.o (.inl hxo));rw[e1];clear e1 hxo H3;go_wp2_with fail
    go_roundw
    case rel=>exact⟨k+1,todo,out,by go_num,HI2,by rw[HNO.o];exact HO3,by rw[HM.o];exact HTD3,HNE,HB3⟩
    case measure=>simp[intOf];omega
   ·have e1:decide (x∈out)=false:=decide_eq_false hxo;rw[e1];rcases HFI.o with⟨rfl,hno⟩|⟨j,y,rfl,hyj,hfc⟩
    ·have HI2:=Hi (HI.o.skip HX.o (.inr hno));clear e1 hxo H3 hno;go_wp2_with fail
     go_roundw
     case rel=>exact⟨k+1,todo,out,by go_num,HI2,by rw[HNO.o];exact HO3,by rw[HM.o];exact HTD3,HNE,HB3⟩
     case measure=>simp[intOf];omega
    ·obtain⟨hyL,hyr⟩:=cM hfc
     subst hyr;have HY:=Hi hyL;have HYJ:=Hi hyj;have hjn:j<n:=by rw[←HN.o];exact(sF.1 hyj).1
     have HI2:=Hi (HI.o.put HT.o HX.o hyL HND.o hxo (HD.o y hyL));have hrt3:=aA HRT.o HW3.o;obtain⟨b2,o2,e2,-,hc1⟩:=hrt3.at_ (by omega) (by omega)
     simp only[uA,Addr.mk.injEq,and_true]at e2;obtain⟨rfl,rfl⟩:=e2
     have y1:w3.cell? ⟨b1,o1+k*2,none⟩=some (.int .i64 y.rf.1):=hc1 _ _ (aL HX.o).1;have y2:w3.cell? ⟨b1,o1+k*2+1,none⟩=some (.int .i64 y.rf.2):=hc1 _ _ (aL HX.o).2;replace H3:=H3 w3 y.rf (by first|exact HO3.o|(rw[HNO.o];exact HO3.o)) (by omega) HB3.o.size;have HXO:=Hi hxo;clear e1 hxo hc1 hrt3 hfc hyL hyj;go_wp2_with fail
     go_at_call 124;refine H3.mono ?_;rintro e w4 ⟨v4,rfl,ho4,hb4,hor⟩;have HB4:Hid (Below w.heap.size w w4):=HB3.o.trans (hb4.mono HB3.o.size);have ho4':=hor.resolve_left HXO.o;have HO4:=Hi ho4;have HTD4:=Hi (aS HTD3.o hb4);have HNE4:Hid (∀g,v4.ownBlock=some g→(Value.slice (some ⟨b1,o1,none⟩) m ct).ownBlock≠some g):=by
      intro g hg e;have h1:=(aF ho4' hg).1;have h2:=(aF HTD3.o e).2;omega
     have HL4:=Hi (HL.o.below HB4.o);have hLy:=HL4.o.each y HY.o;obtain⟨b3,o3,hA3,-,hc3⟩:=HL4.o.row.at_ (by rw[HN.o];omega) (by omega)
     subst hA3;have y3:w4.cell? ⟨b3,o3+j*5+3,none⟩=some (.slice y.DA y.deps.length y.DC):=by
      have:=hc3 _ _ (aT HYJ.o 3 (by omega))
      rw[←tL]at this;exact this
     have HRD:=Hi hLy.hd;have hdl:=HD.o y HY.o;have hb4s:w.heap.size≤w4.heap.size:=HB4.o.size;clear hb4 hor ho4 ho4' H3 y1 y2 hc3 hLy HB3 HL4;go_wp2_with (at_builtin;refine aG _ rfl (.tmp 42) (.tmp 47) _ rfl (w.heap.size) 77 i0 _ 2 16 Tryz.underlying79 hi hz0 hz1 hz2 rfl (by omega) (.slice (some ⟨b1,o1,none⟩) m ct) (m) (aE todo) rfl (HTD4.o) _ (y.DA) (y.deps.length) (y.DC) (aE y.deps) rfl (HRD.o) (aX _) ?c1 ?c2 ?c3 ?_)
     try case c1=>simp only[maxLen];omega
     try case c2=>omega
     try case c3=>exact hb4s
     intro v5 w5 ho5 hg5 hat5;have HB5:Hid (Below w.heap.size w w5):=HB4.o.grown hg5 HB4.o.size (fun g hg=>(aF HTD4.o hg).1);have HO5:Hid (w5.ownsRow w.heap.size 77 2 v4 (eQ out y.rf).length (aE (eQ out y.rf))):=aU HO4.o fun g hg=>hg5.block g (aF HO4.o hg).2 (fun e=>HNE4.o g hg e.symm)
     have HT5:Hid (w5.ownsRow w.heap.size 77 2 v5 (todo++y.deps).length (aE (todo++y.deps))):=by
      show w5.ownsRow _ _ _ _ _ _;rw[sG,HM.o,bC];exact ho5
     have HNE5:Hid (∀g,v4.ownBlock=some g→v5.ownBlock≠some g):=by
      intro g hg e;rcases hat5 with h|h
      ·exact HNE4.o g hg (h▸e)
      ·rw[h]at e;have:=(aF HO4.o hg).2
       simp only[uA]at e;omega
     clear ho5 hg5 hat5 HO4 HTD4 HNE4 HRD y3 HTD3 HO3 HB4;go_wp2_with fail
     go_roundw
     case rel=>exact⟨k+1,todo++y.deps,eQ out y.rf,by go_num,HI2,HO5,HT5,HNE5,HB5⟩
     case measure=>simp[intOf];omega
  ·have hkm:k=m:=by omega
   have HF:Hid (lI out∧(∀r,r∈out↔r∈aQ L hs)):=⟨HI.o.asc,BI.done (by have:=HI.o;rwa [hkm,←HM.o]at this)⟩;clear H1 H2 H3;go_wp2_with fail
   go_ret;exact⟨_,out,rfl,by have:=HO.o;rwa [HNO.o]at this ⊢,HF.o.1,HF.o.2,by rw[HNO.o];exact hol,HB.o⟩
end
section
def opIC(x:OpI):List Value:=opC x.1++[.int .i64 x.2.1,.int .i64 x.2.2]
def jK(x:OpI):Value:=.agg #[.int .i64 x.1.k,.int .i64 x.1.on,.int .i64 x.1.oa,.string x.1.key,.int .i64 x.1.en,.int .i64 x.1.ea,.bool x.1.ins,.int .i64 x.1.vk,.int .i64 x.1.vn,.string x.1.vt,.int .i64 x.1.va,.int .i64 x.1.vb,.slice x.1.A x.1.l.length x.1.c,.int .i64 x.2.1,.int .i64 x.2.2]
def cN(l:List OpI):List Value:=l.flatMap opIC
theorem lX(x:OpI):(opIC x).length=15:=by simp[opIC,opC]
theorem kZ(a b:List OpI):cN (a++b)=cN a++cN b:=by simp[cN]
theorem lV:∀ {L:List OpI} {k:Nat} {c:OpI},L[k]?=some c→∀i,i<15→(cN L)[k*15+i]?=(opIC c)[i]?
 | [],k,r,h=>by simp at h
 |x::l,0,o,h=>fun i hi=>by
  simp at h;subst h;simp only[cN,tM,xW,vE];exact tU (by rw[lX];omega)
 |x::l,k+1,o,h=>fun i hi=>by
  have ih:=lV (L:=l) (k:=k) (by simpa using h) i hi;have e:cN (x::l)=opIC x++cN l:=by simp[cN]
  rw[e,tR (by rw[lX];omega),lX,show(k+1)*15+i-15=k*15+i from by omega];exact ih
theorem qS(l:List OpI):∀u∈cN l,u.oneCell'=true:=by
 intro u hu;obtain⟨r,_,h⟩:=vL.1 hu
 simp only[opIC,opC,sI,sK,tX,or_false]at h;rcases h with(rfl|rfl|rfl|rfl|rfl|rfl|rfl|rfl|rfl|rfl|rfl|rfl|rfl)|(rfl|rfl)<;>rfl
theorem look_none{l:List OpI}{n:Rf}: cE l n=none↔∀x∈l,x.2≠n:=by
 unfold cE;rw[uR];simp
theorem look_none_step{L:List OpI}{k:Nat}{x:OpI}{r:Rf}(hx:L[k]?=some x)(h:cE (L.take k) r=none)(hne:x.2≠r):cE (L.take (k+1)) r=none:=by
 rw[look_none]at *;rw[sS,hx];intro y hy;rcases sI.1 hy with hy|hy
 ·exact h y hy
 ·simp at hy;rw[hy];exact hne
theorem look_hit{L:List OpI}{k:Nat}{x:OpI}{r:Rf}(hx:L[k]?=some x)(h:cE (L.take k) r=none)(he:x.2=r):cE L r=some x:=by
 obtain⟨hk,hx'⟩:=sF.1 hx
 have e:L=L.take k++x::L.drop (k+1):=by
  rw[←hx',xQ,uE]
 unfold cE at *;rw[e,xI,h];simp[he]
def LookI(L:List OpI)(r:Rf)(i:Int):Prop:=(i=-1∧cE L r=none)∨∃(k:Nat) (c:OpI),i=(k:Int)∧L[k]?=some c∧cE L r=some c
theorem slook_any(L:List OpI)(r:Rf)(D:Nat→Prop)(A:Option Addr)(c:Nat)(w:World)(hr:aC D w 15 A L.length (cN L))(hD:∀k,D k→k<w.heap.size)(hl:L.length≤9223372036854775807):
 Calls Tryz.prog 31 #[.slice A L.length c,.agg #[.int .i64 r.1,.int .i64 r.2]] w fun e w'=>∃i,e=.returned (.int .i64 i)∧LookI L r i∧Below w.heap.size w w':=by
 obtain⟨n,hn⟩:∃n,L.length=n:=⟨_,rfl⟩
 have HN:=Hi hn;have HR0:=Hi (hr.keep (w':=w.alloc (.cells #[.int .i64 r.1,.int .i64 r.2] 24)) fun k hk=>sO _ _ k (hD k hk));have HB0:Hid (Below w.heap.size w (w.alloc (.cells #[.int .i64 r.1,.int .i64 r.2] 24))):=(sB _ w).alloc (sC _) _;have hQ:=Blk.new w 24 #[.int .i64 r.1,.int .i64 r.2];have HC0:=Hi (And.intro (hQ.cell 0) (hQ.cell 1));rw[hn]at hl ⊢;clear hn hr hD hQ;go_enter Tryz.func31,Tryz.ntmps31;go_wp2_with fail
 generalize w.alloc (.cells #[.int .i64 r.1,.int .i64 r.2] 24)=V at *;go_loopw [5] (fun s5 wr=>∃k:Nat,s5=.int .i64 k∧k≤n∧Hid (cE (L.take k) r=none)∧∃m,wr=V.drewN m) (fun s5 _=>n-(intOf s5).toNat)
 case atStart=>exact⟨0,rfl,by omega,by show cE _ _=_;simp[cE],0,rfl⟩
 case round =>
  obtain⟨k,rfl,hk,HI,m,rfl⟩:=hrel
  by_cases hlt:k<n
  ·obtain⟨b1,o1,rfl,-,hc1⟩:=HR0.o.at_ (by rw[HN.o];omega) (by omega)
   obtain⟨x,hx⟩:∃x,L[k]?=some x:=⟨_,sD (by rw[HN.o];exact hlt)⟩
   have x1:V.cell? ⟨b1,o1+k*15+13,none⟩=some (.int .i64 x.2.1):=by have:=hc1 _ _ (lV hx 13 (by omega));rw[←tL]at this;exact this
   have x2:V.cell? ⟨b1,o1+k*15+13+1,none⟩=some (.int .i64 x.2.2):=by have:=hc1 _ _ (lV hx 14 (by omega));rw[←tL]at this;exact this
   have y1:V.cell? ⟨w.heap.size,0,none⟩=some (.int .i64 r.1):=HC0.o.1;have y2:V.cell? ⟨w.heap.size,1,none⟩=some (.int .i64 r.2):=HC0.o.2;have HX:=Hi hx;have E:=fun w=>iS x.2.1 x.2.2 r.1 r.2 w
   by_cases hxr:x.2=r
   ·have HE:=Hi (look_hit hx HI.o hxr);have e1:(x.2.1 == r.1&&x.2.2 == r.2)=true:=by rw[←hxr];simp
    rw[e1]at E;clear hc1 hx hxr e1;go_wp2_with fail
    go_quiet (fail)
    go_wp2_with fail
    go_ret;exact⟨_,rfl,.inr ⟨k,x,rfl,HX.o,HE.o⟩,by rw[tK];exact aJ HB0.o _⟩
   ·have e1:(x.2.1 == r.1&&x.2.2 == r.2)=false:=by
     cases h:(x.2.1 == r.1&&x.2.2 == r.2) with
     |false=>rfl
     |true=>simp at h;exact absurd (Prod.ext h.1 h.2) hxr
    rw[e1]at E;have HE:=Hi (look_none_step hx HI.o hxr);clear hc1 hx hxr e1;go_wp2_with fail
    go_quiet (fail)
    change Exit.then _ _ _ _ ((V.drewN m).drewN nq);have HW:Hid ((V.drewN m).drewN nq=V.drewN (m+nq)):=by show _=_;rw[tK]
    generalize (V.drewN m).drewN nq=w3 at HW ⊢;clear x1 x2 y1 y2;go_wp2_with fail
    go_roundw
    case rel=>exact⟨k+1,by go_num,by omega,HE,_,HW.o⟩
    case measure=>simp[intOf];omega
  ·have HE:Hid (cE L r=none):=by have:=HI.o;rwa [sL (by rw[HN.o];omega)]at this
   go_wp2_with fail
   go_ret;exact⟨_,rfl,.inl ⟨rfl,HE.o⟩,aJ HB0.o _⟩
theorem eN(a b c d:Int):decide ((a,b)=(c,d))=(a == c&&b == d):=by
 by_cases h1:a=c<;>by_cases h2:b=d<;>simp[h1,h2]
theorem dec_key(a b:ByteArray):decide (a=b)=decide (a.toList=b.toList):=by
 have:a=b↔a.toList=b.toList:=⟨fun h=>by rw[h],fun h=>bytes_inj (by rw[←xL,←xL];exact h)⟩
 by_cases h:a=b
 ·rw[decide_eq_true h,decide_eq_true (this.1 h)]
 ·rw[decide_eq_false h,decide_eq_false (fun e=>h (this.2 e))]
theorem selem_any(x:OpI)(w:World):
 Calls Tryz.prog 62 #[jK x] w fun e w'=>e=.returned (.agg #[.int .i64 (dI x).1,.int .i64 (dI x).2])∧Below w.heap.size w w':=by
 have hres:Tryz.f62.results=#[.cell 2 24]:=by kernel_rfl
 unfold jK dI elP;have HB:∀u v:Value,Hid (Below w.heap.size w ((w.alloc (.cells #[.int .i64 x.1.k,.int .i64 x.1.on,.int .i64 x.1.oa,.string x.1.key,.int .i64 x.1.en,.int .i64 x.1.ea,.bool x.1.ins,.int .i64 x.1.vk,.int .i64 x.1.vn,.string x.1.vt,.int .i64 x.1.va,.int .i64 x.1.vb,.slice x.1.A x.1.l.length x.1.c,.int .i64 x.2.1,.int .i64 x.2.2] 90)).alloc (.cells #[u,v] 24))):=fun u v=>((sB _ w).alloc (sC _) _).alloc (by simp) _
 obtain⟨b,hb⟩:∃b,x.1.ins=b:=⟨_,rfl⟩
 rw[hb]at HB ⊢;clear hb;cases b with
 |true =>
  go_enter Tryz.func62,Tryz.ntmps62;go_wp2_with fail
  refine bodyPost_ret (v:=.agg #[.int .i64 x.2.1,.int .i64 x.2.2]) ?_ rfl ⟨rfl,(HB _ _).out⟩;simp only[results,hres];go_simp
 |false =>
  go_enter Tryz.func62,Tryz.ntmps62;go_wp2_with fail
  refine bodyPost_ret (v:=.agg #[.int .i64 x.1.en,.int .i64 x.1.ea]) ?_ rfl ⟨rfl,(HB _ _).out⟩;simp only[results,hres];go_simp
theorem splace_any(x y:OpI)(w:World):
 Calls Tryz.prog 36 #[jK x,jK y] w fun e w'=>e=.returned (.bool (gF x y))∧Below w.heap.size w w':=by
 have H1:=fun W=>selem_any x W
 have H2:=fun W=>selem_any y W
 unfold jK at *;have HQ1:=Hi (Blk.new w 90 #[.int .i64 x.1.k,.int .i64 x.1.on,.int .i64 x.1.oa,.string x.1.key,.int .i64 x.1.en,.int .i64 x.1.ea,.bool x.1.ins,.int .i64 x.1.vk,.int .i64 x.1.vn,.string x.1.vt,.int .i64 x.1.va,.int .i64 x.1.vb,.slice x.1.A x.1.l.length x.1.c,.int .i64 x.2.1,.int .i64 x.2.2]);have HQ2:=Hi (Blk.new (w.alloc (.cells #[.int .i64 x.1.k,.int .i64 x.1.on,.int .i64 x.1.oa,.string x.1.key,.int .i64 x.1.en,.int .i64 x.1.ea,.bool x.1.ins,.int .i64 x.1.vk,.int .i64 x.1.vn,.string x.1.vt,.int .i64 x.1.va,.int .i64 x.1.vb,.slice x.1.A x.1.l.length x.1.c,.int .i64 x.2.1,.int .i64 x.2.2] 90)) 90 #[.int .i64 y.1.k,.int .i64 y.1.on,.int .i64 y.1.oa,.string y.1.key,.int .i64 y.1.en,.int .i64 y.1.ea,.bool y.1.ins,.int .i64 y.1.vk,.int .i64 y.1.vn,.string y.1.vt,.int .i64 y.1.va,.int .i64 y.1.vb,.slice y.1.A y.1.l.length y.1.c,.int .i64 y.2.1,.int .i64 y.2.2]);have HB2:Hid (Below w.heap.size w ((w.alloc (.cells #[.int .i64 x.1.k,.int .i64 x.1.on,.int .i64 x.1.oa,.string x.1.key,.int .i64 x.1.en,.int .i64 x.1.ea,.bool x.1.ins,.int .i64 x.1.vk,.int .i64 x.1.vn,.string x.1.vt,.int .i64 x.1.va,.int .i64 x.1.vb,.slice x.1.A x.1.l.length x.1.c,.int .i64 x.2.1,.int .i64 x.2.2] 90)).alloc (.cells #[.int .i64 y.1.k,.int .i64 y.1.on,.int .i64 y.1.oa,.string y.1.key,.int .i64 y.1.en,.int .i64 y.1.ea,.bool y.1.ins,.int .i64 y.1.vk,.int .i64 y.1.vn,.string y.1.vt,.int .i64 y.1.va,.int .i64 y.1.vb,.slice y.1.A y.1.l.length y.1.c,.int .i64 y.2.1,.int .i64 y.2.2] 90))):=((sB _ w).alloc (sC _) _).alloc (by simp) _;rw[World.size_alloc]at HQ2;go_enter Tryz.func36,Tryz.ntmps36;go_wp2_with fail
 go_at_call 62;refine(H1 _).mono ?_
 rintro e w3 ⟨rfl,hb⟩;replace HQ1:=Hi ((HQ1.o.keep (sO _ (.cells #[.int .i64 y.1.k,.int .i64 y.1.on,.int .i64 y.1.oa,.string y.1.key,.int .i64 y.1.en,.int .i64 y.1.ea,.bool y.1.ins,.int .i64 y.1.vk,.int .i64 y.1.vn,.string y.1.vt,.int .i64 y.1.va,.int .i64 y.1.vb,.slice y.1.A y.1.l.length y.1.c,.int .i64 y.2.1,.int .i64 y.2.2] 90) _ HQ1.o.lt)).keep (hb.block _ (by rw[World.size_alloc];exact Nat.lt_succ_of_lt HQ1.o.lt)));replace HQ2:=Hi (HQ2.o.keep (hb.block _ HQ2.o.lt));have HB3:Hid (Below w.heap.size w w3):=HB2.o.trans (hb.mono HB2.o.size);have hs3:w.heap.size+1+1≤w3.heap.size:=by have:=hb.size;rwa [World.size_alloc,World.size_alloc]at this
 clear hb H1 HB2;obtain⟨y0,y1,y2,y3,y4,y5,y6,y7,y8,y9,y10,y11,y12,y13,y14⟩:=ce15 HQ2.o
 have hn1:w.heap.size+1<w3.heap.size:=by omega
 go_wp2_with fail
 clear y0 y1 y2 y3 y4 y5 y6 y7 y8 y9 y10 y11 y12 y13 y14;go_at_call 62;refine(H2 _).mono ?_
 rintro e w4 ⟨rfl,hb⟩;generalize hex:dI x=ex at *;generalize hey:dI y=ey at *;have HEX:=Hi hex;have HEY:=Hi hey;clear hex hey;have hbE:=sO w3 (.cells #[.int .i64 ex.1,.int .i64 ex.2] 24);have hlt:∀j,j<w3.heap.size→w4.heap[j]?=w3.heap[j]?:=fun j hj=>(hb.block j (by rw[World.size_alloc];omega)).trans (hbE j hj)
 replace HQ1:=Hi (HQ1.o.keep (hlt _ HQ1.o.lt));replace HQ2:=Hi (HQ2.o.keep (hlt _ HQ2.o.lt));have HE1:=Hi ((Blk.new w3 24 #[.int .i64 ex.1,.int .i64 ex.2]).keep (hb.block _ (by simp)));have HB4:Hid (Below w.heap.size w w4):=(HB3.o.alloc HB3.o.size _).trans (hb.mono (by rw[World.size_alloc];omega));have hs4:w3.heap.size+1≤w4.heap.size:=by have:=hb.size;rwa [World.size_alloc]at this
 clear hb hbE hlt H2 HB3;have HB5:Hid (Below w.heap.size w (w4.alloc (.cells #[.int .i64 ey.1,.int .i64 ey.2] 24))):=HB4.o.alloc HB4.o.size _;have x1:=cZ HQ1.o 1 rfl;have x2:=cZ HQ1.o 2 rfl;have x3:=cZ HQ1.o 3 rfl;have y1:=cZ HQ2.o 1 rfl;have y2:=cZ HQ2.o 2 rfl;have y3:=cZ HQ2.o 3 rfl;obtain⟨z0,z1⟩:=ce2 HE1.o
 have hn2:w.heap.size<w4.heap.size:=by omega
 have hn3:w.heap.size+1<w4.heap.size:=by omega
 have hn4:w3.heap.size<w4.heap.size:=by omega
 have E1:=fun w=>iS x.1.on x.1.oa y.1.on y.1.oa w
 have E2:=fun w=>iS ex.1 ex.2 ey.1 ey.2 w
 have HPL:Hid (gF x y=(((x.1.on == y.1.on&&x.1.oa == y.1.oa)&&(decide (x.1.key.toList=y.1.key.toList)))&&(ex.1 == ey.1&&ex.2 == ey.2))):=by
  show gF x y=_;unfold gF eG;rw[HEX.o,HEY.o,eN,dec_key,show decide (ex=ey)=_ from eN ex.1 ex.2 ey.1 ey.2]
 generalize (x.1.on == y.1.on&&x.1.oa == y.1.oa)=b1 at *;generalize (ex.1 == ey.1&&ex.2 == ey.2)=b3 at *;cases b1
 ·go_wp2_with fail
  go_ret;exact⟨by rw[HPL.o];rfl,HB5.o⟩
 ·by_cases hk:x.1.key.toList=y.1.key.toList
  ·rw[decide_eq_true hk]at HPL;go_wp2_with fail
   go_ret;exact⟨by rw[HPL.o];rfl,HB5.o⟩
  ·rw[decide_eq_false hk]at HPL;go_wp2_with fail
   go_ret;exact⟨by rw[HPL.o];rfl,HB5.o⟩
end
end Go.Proofs.YtmpkejflgpodkaaGreatDoor
