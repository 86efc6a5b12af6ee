/- The program's writer, in the words of a growing row. -/
import Derived.Test.YtjhkcbideddlgaaGreatP9
import Derived.Lib.Strings
import Derived.Test.YtjhkcbideddlgaaGreatP0
import Derived.Test.YtjhkcbideddlgaaGreatP8
import Derived.StillTailTactics
import Derived.Maps.RangeWalk
import Derived.Test.YtjhkcbideddlgaaGreatP5
set_option maxHeartbeats 8000000
set_option maxRecDepth 20000
set_option linter.unusedVariables false
set_option linter.unusedSimpArgs false
namespace Go.Proofs.YtjhkcbideddlgaaGreat
open Go.ChangeShapes Go.WideShapes Go.ChangeAt Go.RowKit
section
end
section
end
section
theorem rS:(Tryz.prog.info? 48).map (fun i=>(i.zero,i.size,i.bytes))=some (some (.agg #[.int .i64 0,.int .i64 0]),2,16):=by kernel_rfl
theorem oQ(l:List Rf):∀u∈aF l,u.oneCell'=true:=by
 intro u hu;simp only[aF,vG]at hu;obtain⟨r,_,hu⟩:=hu
 simp at hu;rcases hu with rfl|rfl<;>rfl
theorem aR{c:Prop}[Decidable c]{a b:Nat}(h:(if c then a else b)=0)(ha:a≠0):¬c∧b=0:=by
 by_cases hc:c
 ·rw[tA hc]at h;exact absurd h ha
 ·rw[sT hc]at h;exact⟨hc,h⟩
theorem rV{a b:Int}(h:idB a b=true):iA a∧iA b:=by
 simp only[idB,bD,cJ,oU,iZ,wX,tJ,tL]at h;unfold iA;omega
theorem real_nat{a b:Int}(h:cJ a b=true):iA a∧iA b:=rV (by rw[idB,h,Bool.or_true])
theorem value_good{k n:Int}{t:ByteArray}{a b:Int}(h:aE k n t a b=true):iA k∧t.size≤60:=by
 have he:∀t:ByteArray,t.toList.isEmpty=true→t.size≤60:=fun t ht=>by
  rw[Lib.toList_data]at ht;have h0:t.data.toList=[]:=by simpa using ht
  have:t.data.toList.length=0:=by rw[h0];rfl
  rw[vB]at this;rw[ByteArray.size];omega
 unfold aE at h;split at h
 ·subst_vars;exact⟨⟨by omega,by omega⟩,he t (by simp[bU]at h ⊢;exact h.1.1)⟩
 split at h
 ·subst_vars;exact⟨⟨by omega,by omega⟩,he t (by simp[bU]at h ⊢;exact h.1.1)⟩
 split at h
 ·rename_i hk;exact⟨⟨by omega,by omega⟩,he t (by simp[bU]at h ⊢;exact h.1)⟩
 split at h
 ·subst_vars;exact⟨⟨by omega,by omega⟩,by simp at h;exact h.2⟩
 split at h
 ·rename_i hk;exact⟨⟨by omega,by omega⟩,he t (by simp at h ⊢;exact h.1.2)⟩
 ·cases h
theorem tail_value{k:Int}{kn root ins pe v kb:Bool}(h:lS k kn root ins pe v kb=0):v=true:=by
 unfold lS at h;have h1:=(aR h (by omega)).2;have h2:=(aR h1 (by omega)).1;simpa using h2
theorem op_good{o:OpD}(h:eP o=0)(hv:(Lit.int .i64 o.vn).wf=true):OpG o:=by
 unfold eP opE at h;obtain⟨h1,h⟩:=aR h (by omega)
 obtain⟨h2,h⟩:=aR h (by omega)
 obtain⟨h3,h⟩:=aR h (by omega)
 by_cases h4:eQ o.l≠0
 ·rw[tA h4]at h;exact absurd h h4
 rw[sT h4]at h;have hI:idB o.on o.oa=true:=by
  cases hx:idB o.on o.oa
  ·exact absurd (Or.inr (Or.inr (Or.inl hx))) h1
  ·rfl
 have hJ:idB o.en o.ea=true:=by
  cases hx:idB o.en o.ea
  ·exact absurd (Or.inr (Or.inr (Or.inr hx))) h1
  ·rfl
 have hV:=value_good (tail_value h);have hL:o.l.length≤12:=by
  have:eQ o.l=0:=by omega
  unfold eQ at this;have:=(aR this (by omega)).1
  omega
 refine⟨?_,(rV hI).1,(rV hI).2,by omega,(rV hJ).1,(rV hJ).2,hV.1,hv,hV.2,hL,fun r hr=>?_⟩
 ·have:¬o.k<1∧¬4<o.k:=⟨fun hx=>h1 (Or.inl hx),fun hx=>h1 (Or.inr (Or.inl hx))⟩
  exact⟨by omega,by omega⟩
 ·have:o.l.all (fun r=>cJ r.1 r.2)=true:=by simpa using h2
  exact real_nat (tR.1 this r hr)
theorem ops_good:∀ {l:List OpD},eR l=0→(∀o∈l,(Lit.int .i64 o.vn).wf=true)→∀o∈l,OpG o
 | [],_,_,_,h=>by cases h
 |x::l,h,hv,o,ho=>by
  have hx:eP x=0:=by
   by_cases h0:eP x=0
   ·exact h0
   ·simp only[eR,sT h0]at h;exact absurd h h0
  have hr:eR l=0:=by simp only[eR,tA hx]at h;exact h
  rcases sO.1 ho with rfl|ho
  ·exact op_good hx (hv _ (by simp))
  ·exact ops_good hr (fun o ho=>hv o (by simp[ho])) o ho
theorem refs_good:∀ {l:List Rf} {p:Int},cF p l=0→∀r∈l,iA r.1∧iA r.2
 | [],_,_,_,h=>by cases h
 |x::l,p,h,r,hr=>by
  simp only[cF]at h;obtain⟨h1,h⟩:=aR h (by omega)
  obtain⟨_,h⟩:=aR h (by omega)
  rcases sO.1 hr with rfl|hr
  ·have:dT r=true:=by simpa using h1
   simp only[dT,tJ,tL]at this;unfold iA;omega
  ·exact refs_good h r hr
theorem chg_good{a s st:Int}{deps:List Rf}{ops:List OpD}(h:dK a s st deps ops=0)(hv:∀o∈ops,(Lit.int .i64 o.vn).wf=true):EncG a s st deps ops∧1≤st∧st≤1000000:=by
 unfold dK at h;obtain⟨h1,h⟩:=aR h (by omega)
 obtain⟨h2,h⟩:=aR h (by omega)
 by_cases h3:cF 0 deps≠0
 ·rw[tA h3]at h;exact absurd h h3
 rw[sT h3]at h;obtain⟨h4,h⟩:=aR h (by omega)
 obtain⟨h5,h⟩:=aR h (by omega)
 have hr:dT (a,s)=true:=by
  cases hx:dT (a,s)
  ·exact absurd (Or.inl hx) h1
  ·rfl
 simp only[dT,tJ,tL]at hr;have hs:¬st<1∧¬1000000<st:=⟨fun hx=>h1 (Or.inr (Or.inl hx)),fun hx=>h1 (Or.inr (Or.inr hx))⟩;refine⟨⟨⟨by omega,by omega⟩,⟨by omega,by omega⟩,⟨by omega,by omega⟩,by omega,refs_good (p:=0) (by omega),by omega,ops_good h hv⟩,by omega,by omega⟩
end
section
def iG(l:List UInt8)(most at_:Nat)(bad:Bool):List UInt8×Nat×Bool :=
 match cQ l most at_ bad with
 |(n,a,b)=>if b=true∨l.length-a<n then ([],a,true) else ((l.drop a).take n,a+n,false)
theorem rdText_no{l:List UInt8}{most at_ n a:Nat}{bad b:Bool}(h:cQ l most at_ bad=(n,a,b))(hc:b=true∨l.length-a<n):iG l most at_ bad=([],a,true):=by
 unfold iG;rw[h];exact tA hc
theorem rdText_ok{l:List UInt8}{most at_ n a:Nat}{bad:Bool}(h:cQ l most at_ bad=(n,a,false))(hc:n≤l.length-a):iG l most at_ bad=((l.drop a).take n,a+n,false):=by
 unfold iG;rw[h];exact sT (by simp;omega)
def gX(l:List UInt8)(m1 m2:Nat)(s:Nat×Bool):Rf×(Nat×Bool) :=
 let x:=cQ l m1 s.1 s.2
 let y:=cQ l m2 x.2.1 x.2.2
 (((x.1:Int),(y.1:Int)),y.2)
theorem rdPair_of{l:List UInt8}{m1 m2 at_ n1 a1 n2 a2:Nat}{bad b1 b2:Bool}(h1:cQ l m1 at_ bad=(n1,a1,b1))(h2:cQ l m2 a1 b1=(n2,a2,b2)):gX l m1 m2 (at_,bad)=(((n1:Int),(n2:Int)),(a2,b2)):=by
 simp only[gX,h1,h2]
def fA(l:List UInt8)(m1 m2:Nat)(s:Nat×Bool):Nat→List Rf×(Nat×Bool)
 |0=>([],s)
 |n+1 =>
  let r:=fA l m1 m2 s n
  let p:=gX l m1 m2 r.2
  (r.1++[p.1],p.2)
theorem mZ{l:List UInt8}{m1 m2 n a a':Nat}{s:Nat×Bool}{L:List Rf}{b b':Bool}{r:Rf}(h:fA l m1 m2 s n=(L,(a,b)))(h1:gX l m1 m2 (a,b)=(r,(a',b'))):fA l m1 m2 s (n+1)=(L++[r],(a',b')):=by
 rw[fA,h];simp only[h1]
def rdOp(l:List UInt8)(s:Nat×Bool):OpD×(Nat×Bool) :=
 let k:=cQ l 4 s.1 s.2
 let ob:=gX l 1000000 99 k.2
 let key:=iG l 20 ob.2.1 ob.2.2
 let el:=gX l 1000000 99 key.2
 let ins:=cQ l 1 el.2.1 el.2.2
 let vk:=cQ l 6 ins.2.1 ins.2.2
 let vn:=lU l vk.2.1 vk.2.2
 let vt:=iG l 60 vn.2.1 vn.2.2
 let m:=cQ l 12 vt.2.1 vt.2.2
 let ps:=fA l 1000000 99 m.2 m.1
 (⟨k.1,ob.1.1,ob.1.2,⟨key.1.toArray⟩,el.1.1,el.1.2,ins.1 == 1,vk.1,vn.1,⟨vt.1.toArray⟩,0,0,none,0,ps.1⟩,ps.2)
def lT(l:List UInt8)(s:Nat×Bool):Nat→List OpD×(Nat×Bool)
 |0=>([],s)
 |n+1 =>
  let r:=lT l s n
  let p:=rdOp l r.2
  (r.1++[p.1],p.2)
theorem rD{l:List UInt8}{n a a':Nat}{s:Nat×Bool}{L:List OpD}{b b':Bool}{r:OpD}(h:lT l s n=(L,(a,b)))(h1:rdOp l (a,b)=(r,(a',b'))):lT l s (n+1)=(L++[r],(a',b')):=by
 rw[lT,h];simp only[h1]
theorem rdOp_of2{l:List UInt8}{at_ k ak ao akey ae ins ain vk avk avn avt m am aps:Nat}{bad bk bo bkey be bin bvk bvn bvt bm bps:Bool}{on oa en ea vn:Int}{key vt:List UInt8}{ps:List Rf}
 (h1:cQ l 4 at_ bad=(k,ak,bk)) (h2:gX l 1000000 99 (ak,bk)=((on,oa),(ao,bo))) (h4:iG l 20 ao bo=(key,akey,bkey))
 (h5:gX l 1000000 99 (akey,bkey)=((en,ea),(ae,be))) (h7:cQ l 1 ae be=(ins,ain,bin)) (h8:cQ l 6 ain bin=(vk,avk,bvk))
 (h9:lU l avk bvk=(vn,avn,bvn)) (h10:iG l 60 avn bvn=(vt,avt,bvt)) (h11:cQ l 12 avt bvt=(m,am,bm)) (h12:fA l 1000000 99 (am,bm) m=(ps,(aps,bps))) :
 rdOp l (at_,bad)=(⟨k,on,oa,⟨key.toArray⟩,en,ea,ins == 1,vk,vn,⟨vt.toArray⟩,0,0,none,0,ps⟩,(aps,bps)):=by
 simp only[rdOp,h1,h2,h4,h5,h7,h8,h9,h10,h11,h12]
def base(o:OpD):OpD:={ o with A:=none,c:=0 }
theorem ops_base{a b:List OpD}(h:a.map base=b):b.map base=b:=by
 subst h;rw[List.map_map];rfl
theorem opsE_base:∀ {a b:List OpD},a.map base=b.map base→eR a=eR b
 | [],[],_=>rfl
 | [],_::_,h=>by simp at h
 |_::_,[],h=>by simp at h
 |x::a,y::b,h=>by
  simp only[tU,wH]at h;have e:eP x=eP y:=by
   have h1:eP x=eP (base x):=rfl;have h2:eP y=eP (base y):=rfl;rw[h1,h2,h.1]
  rw[eR,eR,e,opsE_base h.2]
theorem nE{a b:List OpD}(h:a.map base=b.map base):a.length=b.length:=by
 have:=congrArg List.length h
 simpa using this
theorem chgE_base{a s st:Int}{deps:List Rf}{x y:List OpD}(h:x.map base=y.map base):dK a s st deps x=dK a s st deps y:=by
 unfold dK;rw[opsE_base h,nE h]
theorem opB_base:∀ {a b:List OpD},a.map base=b.map base→a.flatMap opB=b.flatMap opB
 | [],[],_=>rfl
 | [],_::_,h=>by simp at h
 |_::_,[],h=>by simp at h
 |x::a,y::b,h=>by
  simp only[tU,wH]at h;have e:opB x=opB y:=by
   have h1:opB x=opB (base x):=rfl;have h2:opB y=opB (base y):=rfl;rw[h1,h2,h.1]
  rw[tQ,tQ,e,opB_base h.2]
theorem oZ{a s st:Int}{deps:List Rf}{x y:List OpD}(h:x.map base=y.map base):gZ a s st deps x=gZ a s st deps y:=by
 unfold gZ;rw[opB_base h,nE h]
structure Rd where
 a:Nat
 s:Nat
 st:Nat
 deps:List Rf
 ops:List OpD
 at_:Nat
 bad:Bool
def rdAll(l:List UInt8):Rd :=
 let a:=cQ l 99 0 false
 let s:=cQ l 1000000 a.2.1 a.2.2
 let st:=cQ l 1000000 s.2.1 s.2.2
 let n:=cQ l 12 st.2.1 st.2.2
 let d:=fA l 99 1000000 n.2 n.1
 let m:=cQ l 40 d.2.1 d.2.2
 let o:=lT l m.2 m.1
 ⟨a.1,s.1,st.1,d.1,o.1,o.2.1,o.2.2⟩
theorem rdAll_of{l:List UInt8}{a aa s as_ st ast n an ad m am ao:Nat}{ba bs bst bn bd bm bo:Bool}{deps:List Rf}{ops:List OpD}
 (h1:cQ l 99 0 false=(a,aa,ba)) (h2:cQ l 1000000 aa ba=(s,as_,bs)) (h3:cQ l 1000000 as_ bs=(st,ast,bst)) (h4:cQ l 12 ast bst=(n,an,bn)) (h5:fA l 99 1000000 (an,bn) n=(deps,(ad,bd)))
 (h6:cQ l 40 ad bd=(m,am,bm)) (h7:lT l (am,bm) m=(ops,(ao,bo))):rdAll l=⟨a,s,st,deps,ops,ao,bo⟩:=by
 simp only[rdAll,h1,h2,h3,h4,h5,h6,h7]
end
section
open Go.RowKit
structure ChD where
 a:Int
 s:Int
 st:Int
 deps:List Rf
 DA:Option Addr
 DC:Nat
 ops:List OpD
 OA:Option Addr
 OC:Nat
def ChD.rf(c:ChD):Rf:=(c.a,c.s)
def ChD.err(c:ChD):Nat:=dK c.a c.s c.st c.deps c.ops
def ChD.enc(c:ChD):List UInt8:=gZ c.a c.s c.st c.deps c.ops
def ChD.base(c:ChD):ChD:={ c with DA:=none,DC:=0,ops:=c.ops.map Go.Proofs.YtjhkcbideddlgaaGreat.base,OA:=none,OC:=0 }
abbrev OpI:=OpD×Rf
def cC(a:Int):Int→List OpD→List OpI
 |_,[]=>[]
 |st,o::l=>(o,(st,a))::cC a (st+1) l
def ChD.opsI(c:ChD):List OpI:=cC c.a c.st c.ops
def aB(L:List ChD):List Rf:=L.map ChD.rf
def aM(r q:Rf):Bool:=decide (r.1<q.1∨r.1=q.1∧r.2<q.2)
def cV(l:List Rf)(r:Rf):List Rf:=if r∈l then l else l.takeWhile (fun x=>aM x r)++r::l.dropWhile (fun x=>aM x r)
def jA(l:List Rf):Prop:=l.Pairwise fun x y=>aM x y=true
def dM:List ChD→List Rf→List Rf
 | [],_=>[]
 |c::L,w=>if c.rf∈w then c.rf::dM L (w++c.deps) else dM L w
def aP(L:List ChD)(hs:List Rf):List Rf:=dM L.reverse hs
def bV(L:List ChD)(R:List Rf):List OpI:=(L.filter fun c=>decide (c.rf∈R)).flatMap ChD.opsI
def cX(l:List OpI)(n:Rf):Option OpI:=l.find? fun x=>decide (x.2=n)
def fQ(x:OpI):Rf:=(x.1.on,x.1.oa)
def elP(x:OpI):Rf:=(x.1.en,x.1.ea)
def eV(x:OpI):Rf:=if x.1.ins then x.2 else elP x
def fY(x y:OpI):Bool:=decide (fQ x=fQ y)&&decide (x.1.key=y.1.key)&&decide (eV x=eV y)
def eS(x:OpI)(known:List OpI):Option Int :=
 if fQ x=(0,0) then some 5 else match cX known (fQ x) with
 |some y=>if y.1.k=2 then some y.1.vk else none
 |none=>none
def kW(x:OpI)(kd:Int):Bool:=!(decide (kd=5)&&decide (x.1.key=⟨#[]⟩)||decide (kd=6)&&decide (x.1.key≠⟨#[]⟩))
def dA(x:OpI)(known:List OpI):Bool :=
 if elP x=(0,0) then true else match cX known (elP x) with
 |some y=>y.1.ins&&decide (fQ y=fQ x)
 |none=>false
def bJ(x:OpI)(known:List OpI)(p:Rf):Bool :=
 match cX known p with
 | some y=>!decide (2<y.1.k)&&fY y x&&!(decide (x.1.k=4)&&(decide (y.1.k≠1)||decide (y.1.vk≠4)))
 |none=>false
def cY(x:OpI)(known:List OpI):Bool :=
 match eS x known with
 |some kd=>kW x kd&&dA x known&&x.1.l.all (bJ x known)
 |none=>false
def dD:List OpI→List OpI→Bool
 | [],_=>true
 |x::l,known=>cY x known&&dD l (known++[x])
def eN(c:ChD)(B:List Rf):Bool:=B.all fun r=>!(decide (r.1=c.a)&&decide (c.s≤r.2))
def fX(c:ChD)(B:List Rf):Bool:=!(decide (1<c.s)&&!B.any fun r=>decide (r.1=c.a)&&decide (r.2=c.s-1))
def eO(L:List ChD)(c:ChD)(B:List Rf):Bool:=eN c B&&fX c B&&(bV L B).all (fun x=>decide (x.2.1<c.st))&&dD c.opsI (bV L B)
def bR(L:List ChD)(c:ChD):Bool:=eO L c (aP L c.deps)
def aU(L:List ChD)(c:ChD):Bool:=c.deps.all fun d=>decide (d∈aB L)
def gB(p:ChD→Bool):List ChD→Nat→Option (Nat×Rf)→Option (Nat×Rf)
 | [],_,best=>best
 |c::W,i,best=>gB p W (i+1) (if p c&&(match best with|none=>true|some b=>aM c.rf b.2) then some (i,c.rf) else best)
def bN(p:ChD→Bool)(W:List ChD):Option (Nat×Rf):=gB p W 0 none
def bO:Nat→List ChD→List ChD→List ChD×List ChD
 |0,L,W=>(L,W)
 |n+1,L,W=>match bN (aU L) W with
  |none=>(L,W)
  |some (i,_)=>match W[i]? with
   |none=>(L,W)
   |some x=>if bR L x then bO n (L++[x]) (W.eraseIdx i) else bO n L (W.eraseIdx i)
def aV(L:List ChD)(r:Rf):Option ChD:=L.find? fun c=>decide (c.rf=r)
def fF(c d:ChD):Nat:=if c.enc=d.enc then 0 else 8
def aS(L W:List ChD)(c:ChD):(List ChD×List ChD)×Nat :=
 if c.err≠0 then ((L,W),c.err) else
 match aV L c.rf with
 |some d=>((L,W),fF d c)
 |none=>match aV W c.rf with
  |some d=>((L,W),fF d c)
  |none=>if 120≤L.length+W.length then ((L,W),4)
   else if aU L c=false then ((L,W++[c]),0)
   else if bR L c=false then ((L,W),7)
   else (bO W.length (L++[c]) W,0)
def dG(L out:List ChD)(c:ChD):Bool:=!decide (c.rf∈aB out)&&c.deps.all fun d=>decide (d∈aB out)
def fJ(L:List ChD):Nat→List ChD→List ChD
 |0,out=>out
 |n+1,out=>match bN (dG L out) L with
  |none=>out
  |some (i,_)=>match L[i]? with
   |none=>out
   |some c=>fJ L n (out++[c])
def dU(L:List ChD):List ChD:=fJ L L.length []
def eJ(L:List ChD):List Rf:=L.foldl (fun out c=>cV out c.rf) []
def onP(L:List ChD)(r:Rf):Bool:=L.any fun c=>decide (r∈c.deps)
def gY(L:List ChD):List Rf:=L.foldl (fun out c=>if onP L c.rf then out else cV out c.rf) []
inductive Bk:List ChD→Prop
 |nil:Bk []
 |snoc {L:List ChD} {c:ChD} : Bk L→c.err=0→(∀o∈c.ops,(Lit.int .i64 o.vn).wf=true)→c.rf∉aB L→aU L c=true→bR L c=true→Bk (L++[c])
end
section
open Go.RowKit
theorem mQ:∀(L:List ChD) {w w':List Rf},(∀r,r∈w↔r∈w')→dM L w=dM L w'
 | [],_,_,_=>rfl
 |c::L,w,w',h=>by
  have h2:∀r,r∈w++c.deps↔r∈w'++c.deps:=fun r=>by rw[sG,sG,h]
  simp only[dM,h,mQ L h2,mQ L h]
theorem nZ:∀ {L:List ChD} {w:List Rf} {r:Rf},r∈dM L w→r∈aB L
 | [],_,_,h=>by simp[dM]at h
 |c::L,w,r,h=>by
  simp only[aB,tU,sO];rw[dM]at h;split at h
  ·rcases sO.1 h with h|h
   ·exact .inl h
   ·exact .inr (nZ h)
  ·exact .inr (nZ h)
theorem iK:∀(L:List ChD) (u v:List Rf) (r:Rf),r∈dM L (u++v)↔r∈dM L u∨r∈dM L v
 | [],u,v,r=>by simp[dM]
 |c::L,u,v,r=>by
  have e:∀ {a b:List Rf},(∀r,r∈a↔r∈b)→dM L a=dM L b:=fun h=>mQ L h
  by_cases hu:c.rf∈u<;>by_cases hv:c.rf∈v
  ·rw[dM,dM,dM,tA (by simp[hu]),tA hu,tA hv,e (b:=(u++c.deps)++(v++c.deps)) (by intro r;simp only[sG];grind)];rw[sO,sO,sO,iK L];constructor
   ·rintro(h|h|h)
    ·exact .inl (.inl h)
    ·exact .inl (.inr h)
    ·exact .inr (.inr h)
   ·rintro((h|h)|(h|h))
    ·exact .inl h
    ·exact .inr (.inl h)
    ·exact .inl h
    ·exact .inr (.inr h)
  ·rw[dM,dM,dM,tA (by simp[hu]),tA hu,sT hv,e (b:=(u++c.deps)++v) (by intro r;simp only[sG];grind)];rw[sO,sO,iK L,or_assoc]
  ·rw[dM,dM,dM,tA (by simp[hv]),sT hu,tA hv,e (b:=u++(v++c.deps)) (by intro r;simp only[sG];grind)];rw[sO,sO,iK L];constructor
   ·rintro(h|h|h)
    ·exact .inr (.inl h)
    ·exact .inl h
    ·exact .inr (.inr h)
   ·rintro(h|h|h)
    ·exact .inr (.inl h)
    ·exact .inl h
    ·exact .inr (.inr h)
  ·rw[dM,dM,dM,sT (by simp[hu,hv]),sT hu,sT hv,iK L]
theorem oA:∀(L:List ChD),dM L []=[]
 | []=>rfl
 |c::L=>by rw[dM,sT (by simp),oA L]
theorem pB(L:List ChD)(r:Rf):∀(w:List Rf),r∈dM L w↔∃h∈w,r∈dM L [h]
 | []=>by simp[oA]
 |x::w=>by
  rw[show x::w=[x]++w from rfl,iK,pB L r w];simp
theorem jO:∀ {L:List ChD} {w:List Rf} {r:Rf},r∈w→r∈aB L→r∈dM L w
 | [],_,_,_,h=>by simp[aB]at h
 |c::L,w,r,hw,h=>by
  rw[dM];simp only[aB,tU,sO]at h;split
  ·rcases h with h|h
   ·rw[h];exact tM ..
   ·exact uO _ (jO (tI _ hw) h)
  ·rename_i hc;rcases h with h|h
   ·rw[h]at hw;exact absurd hw hc
   ·exact jO hw h
def TopR:List ChD→Prop
 | []=>True
 |c::L=>(∀d∈c.deps,d∈aB L)∧c.rf∉aB L∧TopR L
theorem bX{L:List ChD}{c:ChD}(h:c∈L):c.rf∈aB L:=vQ h
theorem eW:∀ {L:List ChD} {w:List Rf},TopR L→∀ {c:ChD},c∈L→c.rf∈dM L w→∀ {d:Rf},d∈c.deps→d∈dM L w
 | [],_,_,_,h,_,_,_=>by cases h
 |x::L,w,⟨h1,h2,h3⟩,c,hc,hb,d,hd=>by
  rw[dM]at hb ⊢;by_cases hx:x.rf∈w
  ·rw[tA hx]at hb ⊢;rcases sO.1 hc with e|hc
   ·subst e;exact uO _ (jO (tX _ hd) (h1 d hd))
   ·rcases sO.1 hb with e|hb
    ·exact absurd (e▸bX hc) h2
    ·exact uO _ (eW h3 hc hb hd)
  ·rw[sT hx]at hb ⊢;rcases sO.1 hc with e|hc
   ·subst e;exact absurd (nZ hb) h2
   ·exact eW h3 hc hb hd
theorem gN:∀ {L:List ChD} {w:List Rf} (S:Rf→Prop),(∀r∈w,r∈aB L→S r)→(∀c∈L,S c.rf→∀d∈c.deps,d∈aB L→S d)→∀r∈dM L w,S r
 | [],_,_,_,_,r,h=>by simp[dM]at h
 |x::L,w,S,h1,h2,r,h=>by
  have hr:∀ {r},r∈aB L→r∈aB (x::L):=fun h=>by simp only[aB,tU,sO];exact .inr h
  have h2':∀c∈L,S c.rf→∀d∈c.deps,d∈aB L→S d:=fun c hc hs d hd hm=>h2 c (uO _ hc) hs d hd (hr hm)
  rw[dM]at h;split at h
  ·rename_i hx;have hSx:S x.rf:=h1 _ hx (bX (tM ..));rcases sO.1 h with h|h
   ·rw[h];exact hSx
   ·refine gN (L:=L) S (fun r hr' hm=>?_) h2' r h;rcases sG.1 hr' with h'|h'
    ·exact h1 r h' (hr hm)
    ·exact h2 x (tM ..) hSx r h' (hr hm)
  ·exact gN (L:=L) S (fun r hr' hm=>h1 r hr' (hr hm)) h2' r h
theorem back_trans{L:List ChD}{w:List Rf}(ht:TopR L){q:Rf}(hq:q∈dM L w){r:Rf}(hr:r∈dM L [q]):r∈dM L w:=by
 refine gN (fun r=>r∈dM L w) (fun x hx _=>?_) (fun c hc hs d hd _=>eW ht hc hs hd) r hr;rw[sP.1 hx];exact hq
theorem bZ(A B:List ChD):aB (A++B)=aB A++aB B:=by simp[aB]
theorem dF(A:List ChD):aB A.reverse=(aB A).reverse:=by simp[aB]
theorem eZ{L:List ChD}{c:ChD}(h:aU L c=true):∀d∈c.deps,d∈aB L:=fun d hd=>by
 have:=tR.1 h d hd
 simpa using this
theorem Bk.top{L:List ChD}(h:Bk L):TopR L.reverse:=by
 induction h with
 |nil=>trivial
 | @snoc L c hb _ _ hn hr _ ih =>
   rw[vP];show TopR (c::L.reverse);exact⟨fun d hd=>by rw[dF];exact uN.2 (eZ hr d hd),by rw[dF];exact fun h=>hn (uN.1 h),ih⟩
theorem Bk.nodup{L:List ChD}(h:Bk L):(aB L).Nodup:=by
 induction h with
 |nil=>simp[aB]
 | @snoc L c hb _ _ hn hr _ ih =>
   rw[bZ,uM];refine⟨ih,by simp[aB],fun a ha b hb' e=>?_⟩
   simp[aB]at hb';exact hn (by rw[←hb',←e];exact ha)
theorem Bk.err{L:List ChD}(h:Bk L):∀c∈L,c.err=0∧∀o∈c.ops,(Lit.int .i64 o.vn).wf=true:=by
 induction h with
 |nil=>intro c hc;cases hc
 | @snoc L c hb he hw hn hr _ ih =>
   intro x hx;rcases sG.1 hx with hx|hx
   ·exact ih x hx
   ·rw[sP.1 hx];exact⟨he,hw⟩
theorem iT(L:List ChD)(c:ChD)(hs:List Rf):aP (L++[c]) hs=if c.rf∈hs then c.rf::aP L (hs++c.deps) else aP L hs:=by
 unfold aP;rw[vP];rfl
theorem bL{L:List ChD}{hs:List Rf}{r:Rf}(h:r∈aP L hs):r∈aB L:=by
 have:=nZ h;rw[dF]at this;exact uN.1 this
theorem lA{L:List ChD}{hs:List Rf}{r:Rf}(h:r∈hs)(hm:r∈aB L):r∈aP L hs:=jO h (by rw[dF];exact uN.2 hm)
theorem Bk.deps{L:List ChD}(h:Bk L):∀c∈L,∀d∈c.deps,d∈aB L:=by
 induction h with
 |nil=>intro c hc;cases hc
 | @snoc L c hb he hw hn hr _ ih =>
   intro x hx d hd;rw[bZ];rcases sG.1 hx with hx|hx
   ·exact tI _ (ih x hx d hd)
   ·rw[sP.1 hx]at hd;exact tI _ (eZ hr d hd)
theorem Bk.chain{L:List ChD}(h:Bk L):∀c∈L,∀s,1≤s→s<c.s→(c.a,s)∈aP L c.deps:=by
 induction h with
 |nil=>intro c hc;cases hc
 | @snoc L c hb he hw hn hr hf ih =>
   intro x hx s h1 hs;have hnot:∀ {hs:List Rf},(∀r∈hs,r∈aB L)→aP (L++[c]) hs=aP L hs:=fun hh=>by rw[iT,sT (fun e=>hn (hh _ e))]
   rcases sG.1 hx with hx|hx
   ·rw[hnot (hb.deps x hx)];exact ih x hx s h1 hs
   ·obtain rfl:x=c:=sP.1 hx;rw[hnot (eZ hr)];have hp:fX x (aP L x.deps)=true:=by
     simp only[bR,eO,tJ]at hf;exact hf.1.1.2
    have h1s:1<x.s:=by omega
    have hq:(x.a,x.s-1)∈aP L x.deps:=by
     simp only[fX,h1s,decide_true,vL,Bool.not_not,wM,tJ,tL]at hp;obtain⟨r,hr',e1,e2⟩:=hp
     have:r=(x.a,x.s-1):=by rw[←e1,←e2]
     rw[←this];exact hr'
    by_cases e:s=x.s-1
    ·rw[e];exact hq
    ·obtain⟨y,hy,ey⟩:=sW.1 (bL hq)
     have ea:y.a=x.a:=congrArg Prod.fst ey;have es:y.s=x.s-1:=congrArg Prod.snd ey;have h2:=ih y hy s h1 (by omega);rw[ea]at h2;have h3:(x.a,s)∈dM L.reverse [y.rf]:=by
      obtain⟨d,hd,h4⟩:=(pB L.reverse _ _).1 h2
      exact back_trans hb.top (eW hb.top (uN.2 hy) (jO (by simp) (by rw[dF];exact uN.2 (bX hy))) hd) h4
     exact back_trans hb.top hq (by rw[←ey];exact h3)
theorem bQ{a:Int}: ∀ {l:List OpD} {st:Int} {x:OpI},x∈cC a st l→x.2.2=a∧st≤x.2.1∧x.2.1<st+l.length∧x.1∈l
 | [],_,_,h=>by cases h
 |o::l,st,x,h=>by
  rcases sO.1 h with rfl|h
  ·exact⟨rfl,Int.le_refl _,by simp only[sV];omega,tM ..⟩
  ·obtain⟨h1,h2,h3,h4⟩:=bQ h
   exact⟨h1,by omega,by simp only[sV];omega,uO _ h4⟩
theorem fH(a:Int):∀(l:List OpD) (st:Int),((cC a st l).map Prod.snd).Nodup
 | [],_=>by simp[cC]
 |o::l,st=>by
  rw[cC,tU,uI];refine⟨fun h=>?_,fH a l _⟩
  obtain⟨x,hx,e⟩:=sW.1 h
  have:=(bQ hx).2.1
  rw[e]at this;simp only at this;omega
theorem Bk.less{L:List ChD}(h:Bk L):∀c∈L,∀b∈L,b.rf∈aP L c.deps→∀x∈b.opsI,x.2.1<c.st:=by
 induction h with
 |nil=>intro c hc;cases hc
 | @snoc L c hb he hw hn hr hf ih =>
   intro y hy b hbm hbb x hx;have hnot:∀ {hs:List Rf},(∀r∈hs,r∈aB L)→aP (L++[c]) hs=aP L hs:=fun hh=>by rw[iT,sT (fun e=>hn (hh _ e))]
   have hd:∀d∈y.deps,d∈aB L:=by
    rcases sG.1 hy with hy|hy
    ·exact hb.deps y hy
    ·rw[sP.1 hy];exact eZ hr
   rw[hnot hd]at hbb;have hbL:b∈L:=by
    rcases sG.1 hbm with h|h
    ·exact h
    ·rw[sP.1 h]at hbb;exact absurd (bL hbb) hn
   rcases sG.1 hy with hy|hy
   ·exact ih y hy b hbL hbb x hx
   ·rw[sP.1 hy]at hbb ⊢;have h1:(bV L (aP L c.deps)).all (fun x=>decide (x.2.1<c.st))=true:=by
     simp only[bR,eO,tJ]at hf;exact hf.1.2
    have h2:=tR.1 h1 x (vG.2 ⟨b,vT.2 ⟨hbL,by simpa using hbb⟩,hx⟩);simpa using h2
theorem iX{c:ChD}(h:c.err=0):dT c.rf=true∧1≤c.st:=by
 unfold ChD.err dK at h;obtain⟨h1,h⟩:=aR h (by omega)
 exact⟨by cases hx:dT c.rf;exact absurd (Or.inl hx) h1;rfl,by omega⟩
theorem eU{r:Rf}(h:dT r=true):(1≤r.1∧r.1≤99)∧1≤r.2∧r.2≤1000000:=by
 simpa[dT] using h
theorem Bk.ids{L:List ChD}(h:Bk L):((L.flatMap ChD.opsI).map Prod.snd).Nodup:=by
 have key:∀c∈L,∀b∈L,b.a=c.a→b.s<c.s→∀x∈b.opsI,x.2.1<c.st:=fun c hc b hb' ea es x hx=>by
  have h1:=(eU (iX (h.err b hb').1).1).2.1;have h2:=h.chain c hc b.s h1 es;rw[←ea]at h2;exact h.less c hc b hb' h2 x hx
 have hn:=h.nodup;have:L.Pairwise fun b c=>b.rf≠c.rf:=by
  rw[aB,List.Nodup,vY]at hn;exact hn
 have h2:L.Pairwise fun b c=>b∈L∧c∈L∧b.rf≠c.rf:=this.imp_of_mem fun hb hc hne=>⟨hb,hc,hne⟩
 rw[List.Nodup,vY,List.pairwise_flatMap];refine⟨fun c hc=>?_,h2.imp fun {b c} ⟨hb,hc,hne⟩ x hx y hy e=>?_⟩
 ·have:=fH c.a c.ops c.st
  rw[List.Nodup,vY]at this;exact this
 ·have h3:=bQ hx;have h4:=bQ hy;have ea:b.a=c.a:=by rw[←h3.1,←h4.1,e]
  have en:x.2.1=y.2.1:=by rw[e]
  rcases Int.lt_trichotomy b.s c.s with hs|hs|hs
  ·have:=key c hc b hb ea hs x hx;omega
  ·exact hne (by unfold ChD.rf;rw[ea,hs])
  ·have:=key b hb c hc ea.symm hs y hy;omega
/-! ### the least of those that may be taken -/
theorem fB{a b c:Rf}(h1:aM a b=true)(h2:aM b c=true):aM a c=true:=by
 simp only[aM,tL]at *;omega
theorem dZ(a:Rf):aM a a=false:=by simp only[aM,decide_eq_false_iff_not];omega
theorem hZ{a b:Rf}(h:a≠b):aM a b=true∨aM b a=true:=by
 obtain⟨a1,a2⟩:=a
 obtain⟨b1,b2⟩:=b
 simp only[aM,tL,ne_eq,uV]at *;omega
def LeastOf(p:ChD→Bool)(W:List ChD)(best:Option (Nat×Rf)):Prop :=
 match best with
 |none=>∀c∈W,p c=false
 |some (i,r)=>∃c,W[i]?=some c∧c.rf=r∧p c=true∧∀d∈W,p d=true→aM d.rf r=false
theorem rN(p:ChD→Bool):∀(W V:List ChD) (best:Option (Nat×Rf)),LeastOf p V best→LeastOf p (V++W) (gB p W V.length best)
 | [],V,best,h=>by simpa[gB] using h
 |c::W,V,best,h=>by
  unfold gB;have e:V++c::W=(V++[c])++W:=by simp
  have el:V.length+1=(V++[c]).length:=by simp
  rw[e,el];refine rN p W (V++[c]) _ ?_;cases hp:p c with
  |false =>
   simp only[vN,uT,if_false];cases best with
   |none =>
    intro d hd;rcases sG.1 hd with hd|hd
    ·exact h d hd
    ·rw[sP.1 hd];exact hp
   |some b =>
    obtain⟨i,r⟩:=b
    obtain⟨x,h1,h2,h3,h4⟩:=h
    refine⟨x,by rw[uD (sE.1 h1).1];exact h1,h2,h3,fun d hd hpd=>?_⟩
    rcases sG.1 hd with hd|hd
    ·exact h4 d hd hpd
    ·rw[sP.1 hd,hp]at hpd;cases hpd
  |true =>
   cases best with
   |none =>
    simp only[Bool.and_self,if_true];refine⟨c,by simp,rfl,hp,fun d hd hpd=>?_⟩
    rcases sG.1 hd with hd|hd
    ·rw[h d hd]at hpd;cases hpd
    ·rw[sP.1 hd];exact dZ _
   |some b =>
    obtain⟨i,r⟩:=b
    obtain⟨x,h1,h2,h3,h4⟩:=h
    simp only[vL];cases ha:aM c.rf r with
    |true =>
     rw[tA rfl];refine⟨c,by simp,rfl,hp,fun d hd hpd=>?_⟩
     rcases sG.1 hd with hd|hd
     ·cases hx:aM d.rf c.rf with
      |false=>rfl
      |true=>have:=fB hx ha;rw[h4 d hd hpd]at this;cases this
     ·rw[sP.1 hd];exact dZ _
    |false =>
     rw[sT (by simp)];refine⟨x,by rw[uD (sE.1 h1).1];exact h1,h2,h3,fun d hd hpd=>?_⟩
     rcases sG.1 hd with hd|hd
     ·exact h4 d hd hpd
     ·rw[sP.1 hd];exact ha
theorem rO(p:ChD→Bool)(W:List ChD):LeastOf p W (bN p W):=by
 have:=rN p W [] none (fun c hc=>by cases hc)
 simpa[bN] using this
theorem gC{p:ChD→Bool}{W:List ChD}(h:bN p W=none):∀c∈W,p c=false:=by
 have:=rO p W;rw[h]at this;exact this
theorem dL{p:ChD→Bool}{W:List ChD}{i:Nat}{r:Rf}(h:bN p W=some (i,r)):∃c,W[i]?=some c∧c.rf=r∧p c=true∧∀d∈W,p d=true→aM d.rf r=false:=by
 have:=rO p W;rw[h]at this;exact this
theorem mM{p:ChD→Bool}{W:List ChD}(hn:(aB W).Nodup){i:Nat}{c:ChD}(hi:W[i]?=some c)(hp:p c=true)(hl:∀d∈W,p d=true→aM d.rf c.rf=false):bN p W=some (i,c.rf):=by
 cases h:bN p W with
 |none=>have:=gC h c (sJ hi);rw[hp]at this;cases this
 |some b =>
  obtain⟨j,r⟩:=b
  obtain⟨d,h1,h2,h3,h4⟩:=dL h
  have e:d.rf=c.rf:=by
   by_cases e:d.rf=c.rf
   ·exact e
   ·rcases hZ e with h|h
    ·rw[hl d (sJ h1) h3]at h;cases h
    ·rw[←h2]at h4;rw[h4 c (sJ hi) hp]at h;cases h
  have hij:i=j:=by
   have e1:(aB W)[i]?=some c.rf:=by simp[aB,hi]
   have e2:(aB W)[j]?=some c.rf:=by simp[aB,h1,e]
   obtain⟨l1,e1⟩:=sE.1 e1
   obtain⟨l2,e2⟩:=sE.1 e2
   exact(List.getElem_inj hn).1 (e1.trans e2.symm)
  rw[hij,←h2,e]
/-! ### what a book keeps to -/
structure Inv(L W:List ChD):Prop where
 bk:Bk L
 good:∀c∈W,c.err=0∧∀o∈c.ops,(Lit.int .i64 o.vn).wf=true
 nd:(aB W).Nodup
 apart:∀c∈W,c.rf∉aB L
 most:L.length+W.length≤120
theorem Inv.nil:Inv [] []:=⟨.nil,by simp,by simp[aB],by simp,by simp⟩
theorem bW{L:List ChD}{r:Rf}: aV L r=none↔r∉aB L:=by
 unfold aV aB;rw[wP];constructor
 ·intro h hm;obtain⟨c,hc,e⟩:=sW.1 hm
  exact h c hc (by simpa using e)
 ·intro h c hc e;exact h (sW.2 ⟨c,hc,by simpa using e⟩)
theorem cK{L:List ChD}{r:Rf}{c:ChD}(h:aV L r=some c):c∈L∧c.rf=r:=⟨vE h,by simpa using wW h⟩
theorem dJ{α:Type}{l:List α}{i:Nat}{x:α}(h:x∈l.eraseIdx i):x∈l:=(wT _ _).subset h
theorem eraseIdx_refs(W:List ChD)(i:Nat):aB (W.eraseIdx i)=(aB W).eraseIdx i:=by
 unfold aB;induction W generalizing i with
 |nil=>rfl
 |cons x W ih=>cases i with
  |zero=>rfl
  |succ i=>simp only[List.eraseIdx_cons_succ,tU,ih]
theorem erased_not{W:List ChD}(hn:(aB W).Nodup){i:Nat}{x:ChD}(hi:W[i]?=some x):∀c∈W.eraseIdx i,c.rf≠x.rf:=by
 intro c hc e;obtain⟨j,hne,hj⟩:=List.mem_eraseIdx_iff_getElem?.1 hc
 have e1:(aB W)[i]?=some x.rf:=by simp[aB,hi]
 have e2:(aB W)[j]?=some x.rf:=by simp[aB,hj,e]
 obtain⟨l1,e1⟩:=sE.1 e1
 obtain⟨l2,e2⟩:=sE.1 e2
 exact hne ((List.getElem_inj hn).1 (e2.trans e1.symm))
theorem Inv.drop{L W:List ChD}(h:Inv L W)(i:Nat):Inv L (W.eraseIdx i) :=
 ⟨h.bk,fun c hc=>h.good c (dJ hc),by rw[eraseIdx_refs];exact h.nd.sublist (wT _ _),fun c hc=>h.apart c (dJ hc),by
  have:=h.most;have:=List.length_eraseIdx_le W i;omega⟩
theorem Inv.move{L W:List ChD}(h:Inv L W){i:Nat}{x:ChD}(hi:W[i]?=some x)(hr:aU L x=true)(hf:bR L x=true):Inv (L++[x]) (W.eraseIdx i):=by
 have hx:=sJ hi;have hd:=h.drop i;refine⟨.snoc h.bk (h.good x hx).1 (h.good x hx).2 (h.apart x hx) hr hf,hd.good,hd.nd,fun c hc=>?_,?_⟩
 ·rw[bZ];intro hm;rcases sG.1 hm with hm|hm
  ·exact hd.apart c hc hm
  ·exact erased_not h.nd hi c hc (by simpa[aB] using hm)
 ·have:=h.most
  have h1:=(sE.1 hi).1;have h2:=uP h1;rw[sF,h2];simp only[sV,vU];omega
theorem mA:∀(n:Nat) {L W:List ChD},Inv L W→Inv (bO n L W).1 (bO n L W).2
 |0,_,_,h=>h
 |n+1,L,W,h=>by
  rw[bO];cases hl:bN (aU L) W with
  |none=>exact h
  |some b =>
   obtain⟨i,r⟩:=b
   obtain⟨x,hi,_,hr,_⟩:=dL hl
   simp only[hi];cases hf:bR L x with
   |true=>rw[tA rfl];exact mA n (h.move hi hr hf)
   |false=>rw[sT (by simp)];exact mA n (h.drop i)
theorem jC{L W:List ChD}(h:Inv L W){c:ChD}(hw:∀o∈c.ops,(Lit.int .i64 o.vn).wf=true):Inv (aS L W c).1.1 (aS L W c).1.2:=by
 unfold aS;by_cases he:c.err≠0
 ·rw[tA he];exact h
 rw[sT he];cases h1:aV L c.rf with
 |some d=>exact h
 |none =>
  simp only;cases h2:aV W c.rf with
  |some d=>exact h
  |none =>
   simp only;by_cases h3:120≤L.length+W.length
   ·rw[tA h3];exact h
   rw[sT h3];have n1:=bW.1 h1;have n2:=bW.1 h2;have he':c.err=0:=by omega
   cases hr:aU L c with
   |false =>
    rw[tA rfl];refine⟨h.bk,fun x hx=>?_,?_,fun x hx=>?_,by simp;omega⟩
    ·rcases sG.1 hx with hx|hx
     ·exact h.good x hx
     ·rw[sP.1 hx];exact⟨he',hw⟩
    ·rw[bZ,uM];refine⟨h.nd,by simp[aB],fun a ha b hb e=>?_⟩
     simp[aB]at hb;exact n2 (by rw[←hb,←e];exact ha)
    ·rcases sG.1 hx with hx|hx
     ·exact h.apart x hx
     ·rw[sP.1 hx];exact n1
   |true =>
    rw[sT (by simp)];cases hf:bR L c with
    |false=>rw[tA rfl];exact h
    |true =>
     rw[sT (by simp)];refine mA _ ⟨.snoc h.bk he' hw n1 hr hf,h.good,h.nd,fun x hx=>?_,by simp;omega⟩;rw[bZ];intro hm;rcases sG.1 hm with hm|hm
     ·exact h.apart x hx hm
     ·simp[aB]at hm;exact n2 (by rw[←hm];exact bX hx)
end
section
def ChD.cells(c:ChD):List Value:=[.int .i64 c.a,.int .i64 c.s,.int .i64 c.st,.slice c.DA c.deps.length c.DC,.slice c.OA c.ops.length c.OC]
def ChD.v(c:ChD):Value:=.agg #[.int .i64 c.a,.int .i64 c.s,.int .i64 c.st,.slice c.DA c.deps.length c.DC,.slice c.OA c.ops.length c.OC]
def aW(L:List ChD):List Value:=L.flatMap ChD.cells
theorem gT(a b:List ChD):aW (a++b)=aW a++aW b:=by simp[aW]
theorem aI:∀ {L:List ChD} {k:Nat} {c:ChD},L[k]?=some c→∀i,i<5→(aW L)[k*5+i]?=c.cells[i]?
 | [],k,r,h=>by simp at h
 |x::l,0,o,h=>fun i hi=>by
  simp at h;subst h;simp only[aW,tQ,Nat.zero_mul,uX];exact uD (by simp only[ChD.cells,sV,vU];omega)
 |x::l,k+1,o,h=>fun i hi=>by
  have ih:=aI (L:=l) (k:=k) (by simpa using h) i hi;have e:aW (x::l)=x.cells++aW l:=by simp[aW]
  have hx:x.cells.length=5:=by simp[ChD.cells]
  rw[e,uS (by rw[hx];omega),hx,show(k+1)*5+i-5=k*5+i from by omega];exact ih
set_option maxRecDepth 100000 in
theorem eq_ref(a b c d:Int)(w:World):(Op.equalIn 10000 45 (.agg #[.int .i64 a,.int .i64 b]) (.agg #[.int .i64 c,.int .i64 d])).run Tryz.prog w=.ok (decide ((a,b)=(c,d))) w:=by
 have hS:Tryz.prog.underlying 45=some (.struct (Tryz.prog.fieldsOf 45)):=by kernel_rfl
 have hp:Tryz.prog.stoodInHeld 45=false:=by kernel_rfl
 rw[show(10000:Nat)=9999+1 from rfl,run_equalIn_agg w 9999 45 _ _ hS hp];simp only[Program.fieldsOf,Tryz.underlying45];go_simp;by_cases h1:a=c<;>by_cases h2:b=d<;>simp[h1,h2]
theorem eI(a s:Int)(v2 v3 v4:Value)(w:World)(h2:v2.oneCell'=true)(h3:v3.oneCell'=true)(h4:v4.oneCell'=true):
 Calls Tryz.prog 55 #[.agg #[.int .i64 a,.int .i64 s,v2,v3,v4]] w fun e w'=>e=.returned (.agg #[.int .i64 a,.int .i64 s])∧Below w.heap.size w w':=by
 have hres:Tryz.f55.results=#[.cell 2 45]:=by kernel_rfl
 go_enter Tryz.func55,Tryz.ntmps55;go_wp2_with fail
 refine bodyPost_ret (v:=.agg #[.int .i64 a,.int .i64 s]) ?_ rfl ⟨rfl,?_⟩
 ·simp only[results,hres];go_simp
 ·exact((sA _ w).alloc (sB _) _).alloc (by simp) _
theorem pC(r q:Rf)(w:World):Calls Tryz.prog 76 #[dB r,dB q] w fun e w'=>e=.returned (.bool (aM r q))∧Below w.heap.size w w':=by
 obtain⟨a,b⟩:=r
 obtain⟨c,d⟩:=q
 simp only[dB,aM];have HB:Hid (Below w.heap.size w ((w.alloc (.cells #[.int .i64 a,.int .i64 b] 45)).alloc (.cells #[.int .i64 c,.int .i64 d] 45))):=((sA _ w).alloc (sB _) _).alloc (by simp) _;by_cases h1:a=c
 ·subst h1;have e:decide (a<a∨a=a∧b<d)=decide (b<d):=by simp
  rw[e];go_enter Tryz.func76,Tryz.ntmps76;go_wp2_with fail
  go_ret;exact⟨rfl,HB.o⟩
 ·have e:decide (a<c∨a=c∧b<d)=decide (a<c):=by simp[h1]
  rw[e];go_enter Tryz.func76,Tryz.ntmps76;go_wp2_with fail
  go_ret;exact⟨rfl,HB.o⟩
theorem has_step{l:List Rf}{k:Nat}{x r:Rf}(hx:l[k]?=some x)(h:r∉l.take k)(hne:x≠r):r∉l.take (k+1):=by
 rw[sQ,hx];simp only[uH,sG,sP,not_or];exact⟨h,fun e=>hne e.symm⟩
theorem jE(l:List Rf)(r:Rf)(D:Nat→Prop)(A:Option Addr)(c:Nat)(w:World)(hr:aC D w 2 A l.length (aF l))(hD:∀k,D k→k<w.heap.size)(hl:l.length≤9223372036854775807):
 Calls Tryz.prog 18 #[.slice A l.length c,.agg #[.int .i64 r.1,.int .i64 r.2]] w fun e w'=>e=.returned (.bool (decide (r∈l)))∧Below w.heap.size w w':=by
 obtain⟨n,hn⟩:∃n,l.length=n:=⟨_,rfl⟩
 have HN:=Hi hn;have HR0:=Hi (hr.keep (w':=w.alloc (.cells #[.int .i64 r.1,.int .i64 r.2] 45)) fun k hk=>sM _ _ k (hD k hk));have HB0:Hid (Below w.heap.size w (w.alloc (.cells #[.int .i64 r.1,.int .i64 r.2] 45))):=(sA _ w).alloc (sB _) _;have hQ:=Blk.new w 45 #[.int .i64 r.1,.int .i64 r.2];have HC0:=Hi (And.intro (hQ.cell 0) (hQ.cell 1));rw[hn]at hl ⊢;clear hn hr hD hQ;go_enter Tryz.func18,Tryz.ntmps18;go_wp2_with fail
 generalize w.alloc (.cells #[.int .i64 r.1,.int .i64 r.2] 45)=V at *;go_loopw [5] (fun s5 wr=>∃k:Nat,s5=.int .i64 k∧k≤n∧Hid (r∉l.take k)∧∃m,wr=V.drewN m) (fun s5 _=>n-(intOf s5).toNat)
 case atStart=>exact⟨0,rfl,by omega,by show r∉_;simp,0,rfl⟩
 case round =>
  obtain⟨k,rfl,hk,HI,m,rfl⟩:=hrel
  by_cases hlt:k<n
  ·obtain⟨b1,o1,rfl,-,hc1⟩:=HR0.o.at_ (by rw[HN.o];omega) (by omega)
   obtain⟨x,hx⟩:∃x,l[k]?=some x:=⟨_,sC (by rw[HN.o];exact hlt)⟩
   have x1:V.cell? ⟨b1,o1+k*2,none⟩=some (.int .i64 x.1):=hc1 _ _ (aN hx).1;have x2:V.cell? ⟨b1,o1+k*2+1,none⟩=some (.int .i64 x.2):=hc1 _ _ (aN hx).2;have y1:V.cell? ⟨w.heap.size,0,none⟩=some (.int .i64 r.1):=HC0.o.1;have y2:V.cell? ⟨w.heap.size,1,none⟩=some (.int .i64 r.2):=HC0.o.2;have HX:=Hi hx;have E:=fun w=>eq_ref x.1 x.2 r.1 r.2 w
   by_cases hxr:x=r
   ·have HE:Hid (decide (r∈l)=true):=sH (by rw[←hxr];exact sJ hx);have e1:decide ((x.1,x.2)=(r.1,r.2))=true:=sH hxr;rw[e1]at E;clear hc1 hx hxr e1;go_wp2_with fail
    go_quiet (fail)
    go_wp2_with fail
    go_ret;exact⟨by rw[HE.o];rfl,by rw[tV];exact aH HB0.o _⟩
   ·have e1:decide ((x.1,x.2)=(r.1,r.2))=false:=sI hxr;rw[e1]at E;have HE:Hid (r∉l.take (k+1)):=has_step hx HI.o hxr;clear hc1 hx hxr e1;go_wp2_with fail
    go_quiet (fail)
    change Exit.then _ _ _ _ ((V.drewN m).drewN nq);have HW:Hid ((V.drewN m).drewN nq=V.drewN (m+nq)):=by show _=_;rw[tV]
    generalize (V.drewN m).drewN nq=w3 at HW ⊢;clear x1 x2 y1 y2;go_wp2_with fail
    go_roundw
    case rel=>exact⟨k+1,by go_num,by omega,HE,_,HW.o⟩
    case measure=>simp[intOf];omega
  ·have HE:Hid (decide (r∈l)=false):=sI (by have:=HI.o;rwa [sL (by rw[HN.o];omega)]at this);go_wp2_with fail
   go_ret;exact⟨by rw[HE.o];rfl,aH HB0.o _⟩
theorem kZ{L:List ChD}{k:Nat}{x:ChD}{r:Rf}(hx:L[k]?=some x)(h:r∉aB (L.take k))(hne:x.rf≠r):r∉aB (L.take (k+1)):=by
 rw[sQ,hx,bZ];simp only[uH,sG,not_or];exact⟨h,fun e=>hne (sP.1 e).symm⟩
theorem find_hit{L:List ChD}{k:Nat}{x:ChD}{r:Rf}(hx:L[k]?=some x)(h:r∉aB (L.take k))(he:x.rf=r):aV L r=some x:=by
 obtain⟨hk,hx'⟩:=sE.1 hx
 have e:L=L.take k++x::L.drop (k+1):=by
  rw[←hx',wO,uL]
 unfold aV;rw[e,List.find?_append];have h1:(L.take k).find? (fun c=>decide (c.rf=r))=none:=bW.2 h;rw[h1];simp[he]
def FindI(L:List ChD)(r:Rf)(i:Int):Prop:=(i=-1∧r∉aB L)∨∃(k:Nat) (c:ChD),i=(k:Int)∧L[k]?=some c∧aV L r=some c
theorem jD(L:List ChD)(r:Rf)(D:Nat→Prop)(A:Option Addr)(c:Nat)(w:World)(hr:aC D w 5 A L.length (aW L))(hD:∀k,D k→k<w.heap.size)(hl:L.length≤9223372036854775807):
 Calls Tryz.prog 75 #[.slice A L.length c,.agg #[.int .i64 r.1,.int .i64 r.2]] w fun e w'=>∃i,e=.returned (.int .i64 i)∧FindI L r i∧Below w.heap.size w w':=by
 obtain⟨n,hn⟩:∃n,L.length=n:=⟨_,rfl⟩
 have HN:=Hi hn;have HR0:=Hi (hr.keep (w':=w.alloc (.cells #[.int .i64 r.1,.int .i64 r.2] 45)) fun k hk=>sM _ _ k (hD k hk));have HB0:Hid (Below w.heap.size w (w.alloc (.cells #[.int .i64 r.1,.int .i64 r.2] 45))):=(sA _ w).alloc (sB _) _;have hQ:=Blk.new w 45 #[.int .i64 r.1,.int .i64 r.2];have HC0:=Hi (And.intro (hQ.cell 0) (hQ.cell 1));rw[hn]at hl ⊢;clear hn hr hD hQ;go_enter Tryz.func75,Tryz.ntmps75;go_wp2_with fail
 generalize w.alloc (.cells #[.int .i64 r.1,.int .i64 r.2] 45)=V at *;go_loopw [5] (fun s5 wr=>∃k:Nat,s5=.int .i64 k∧k≤n∧Hid (r∉aB (L.take k))∧∃m,wr=V.drewN m) (fun s5 _=>n-(intOf s5).toNat)
 case atStart=>exact⟨0,rfl,by omega,by show r∉_;simp[aB],0,rfl⟩
 case round =>
  obtain⟨k,rfl,hk,HI,m,rfl⟩:=hrel
  by_cases hlt:k<n
  ·obtain⟨b1,o1,rfl,-,hc1⟩:=HR0.o.at_ (by rw[HN.o];omega) (by omega)
   obtain⟨x,hx⟩:∃x,L[k]?=some x:=⟨_,sC (by rw[HN.o];exact hlt)⟩
   have x1:V.cell? ⟨b1,o1+k*5,none⟩=some (.int .i64 x.a):=hc1 _ _ (aI hx 0 (by omega));have x2:V.cell? ⟨b1,o1+k*5+1,none⟩=some (.int .i64 x.s):=hc1 _ _ (aI hx 1 (by omega));have y1:V.cell? ⟨w.heap.size,0,none⟩=some (.int .i64 r.1):=HC0.o.1;have y2:V.cell? ⟨w.heap.size,1,none⟩=some (.int .i64 r.2):=HC0.o.2;have HX:=Hi hx;by_cases h1:x.a=r.1
   ·have e1:(x.a == r.1)=true:=by simp[h1]
    by_cases h2:x.s=r.2
    ·have e2:(x.s == r.2)=true:=by simp[h2]
     have HE:=Hi (find_hit hx HI.o (by unfold ChD.rf;rw[h1,h2]));clear hc1 hx h1 h2;go_wp2_with fail
     go_quiet (fail)
     go_wp2_with fail
     go_ret;exact⟨_,rfl,.inr ⟨k,x,rfl,HX.o,HE.o⟩,by rw[tV];exact aH HB0.o _⟩
    ·have e2:(x.s == r.2)=false:=by simp[h2]
     have HE:Hid (r∉aB (L.take (k+1))):=kZ hx HI.o (fun e=>h2 (congrArg Prod.snd e));clear hc1 hx h1 h2;go_wp2_with fail
     go_quiet (fail)
     change Exit.then _ _ _ _ ((V.drewN m).drewN nq);have HW:Hid ((V.drewN m).drewN nq=V.drewN (m+nq)):=by show _=_;rw[tV]
     generalize (V.drewN m).drewN nq=w3 at HW ⊢;clear x1 x2 y1 y2;go_wp2_with fail
     go_roundw
     case rel=>exact⟨k+1,by go_num,by omega,HE,_,HW.o⟩
     case measure=>simp[intOf];omega
   ·have e1:(x.a == r.1)=false:=by simp[h1]
    have HE:Hid (r∉aB (L.take (k+1))):=kZ hx HI.o (fun e=>h1 (congrArg Prod.fst e));clear hc1 hx h1;go_wp2_with fail
    go_quiet (fail)
    change Exit.then _ _ _ _ ((V.drewN m).drewN nq);have HW:Hid ((V.drewN m).drewN nq=V.drewN (m+nq)):=by show _=_;rw[tV]
    generalize (V.drewN m).drewN nq=w3 at HW ⊢;clear x1 x2 y1 y2;go_wp2_with fail
    go_roundw
    case rel=>exact⟨k+1,by go_num,by omega,HE,_,HW.o⟩
    case measure=>simp[intOf];omega
  ·have HE:Hid (r∉aB L):=by have:=HI.o;rwa [sL (by rw[HN.o];omega)]at this
   go_wp2_with fail
   go_ret;exact⟨_,rfl,.inl ⟨rfl,HE.o⟩,aH HB0.o _⟩
end
section
theorem gD:(Tryz.prog.info? 45).map (fun i=>(i.zero,i.size,i.bytes))=some (some (.agg #[.int .i64 0,.int .i64 0]),2,16):=by kernel_rfl
theorem aY(l:List Rf):∀u∈aF l,u.oneCell'=true:=by
 intro u hu;obtain⟨r,_,h⟩:=vG.1 hu
 simp only[sO,uB,or_false]at h;rcases h with rfl|rfl<;>rfl
theorem fL{α:Type}(p:α→Bool):∀(l:List α) (k:Nat),k≤l.length→(∀x∈l.take k,p x=true)→(∀x,l[k]?=some x→p x=false)→l.takeWhile p=l.take k∧l.dropWhile p=l.drop k
 | [],k,_,_,_=>by simp
 |a::l,0,_,_,h2=>by
  have:=h2 a (by simp)
  simp[this]
 |a::l,k+1,hk,h1,h2=>by
  have ha:p a=true:=h1 a (by simp);obtain⟨e1,e2⟩:=fL p l k (by simpa using hk) (fun x hx=>h1 x (by simp[hx])) (fun x hx=>h2 x (by simpa using hx))
  simp[ha,e1,e2]
theorem putR_has{l:List Rf}{r:Rf}(h:r∈l):cV l r=l:=by unfold cV;rw[tA h]
theorem putR_at{l:List Rf}{r:Rf}(h:r∉l){k:Nat}(hk:k≤l.length)(h1:∀x∈l.take k,aM x r=true)(h2:∀x,l[k]?=some x→aM x r=false):cV l r=l.take k++r::l.drop k:=by
 unfold cV;obtain⟨e1,e2⟩:=fL (fun x=>aM x r) l k hk h1 h2
 rw[sT h,e1,e2]
theorem jF(l:List Rf)(k:Nat):(aF l).take (k*2)=aF (l.take k):=by
 induction l generalizing k with
 |nil=>simp[aF]
 |cons x l ih=>cases k with
  |zero=>simp[aF]
  |succ k =>
   have e:aF (x::l)=.int .i64 x.1::.int .i64 x.2::aF l:=by simp[aF]
   have e2:aF (x::l.take k)=.int .i64 x.1::.int .i64 x.2::aF (l.take k):=by simp[aF]
   rw[e,show(k+1)*2=k*2+1+1 from by omega,tE,tE,ih,tE,e2]
theorem iB(l:List Rf)(k:Nat):(aF l).drop (k*2)=aF (l.drop k):=by
 induction l generalizing k with
 |nil=>simp[aF]
 |cons x l ih=>cases k with
  |zero=>simp[aF]
  |succ k =>
   have e:aF (x::l)=.int .i64 x.1::.int .i64 x.2::aF l:=by simp[aF]
   rw[e,show(k+1)*2=k*2+1+1 from by omega,tG,tG,ih,tG]
theorem addr0(g i:Nat):(⟨g,0,none⟩:Addr).add i=⟨g,i,none⟩:=by
 unfold Addr.add;split
 ·rename_i h;rw[h]
 ·simp
theorem sPut_some(l:List Rf)(r:Rf)(base:Nat)(g c:Nat)(w:World)(ho:w.ownsRow base 45 2 (.slice (some ⟨g,0,none⟩) l.length c) l.length (aF l))(hl:l.length≤1000000000)(hbs:base≤w.heap.size):
 Calls Tryz.prog 54 #[.slice (some ⟨g,0,none⟩) l.length c,.agg #[.int .i64 r.1,.int .i64 r.2]] w fun e w'=>∃v',e=.returned v'∧w'.ownsRow base 45 2 v' (cV l r).length (aF (cV l r))∧Below w.heap.size w w'∧(r∈l∨w'.ownsRow w.heap.size 45 2 v' (cV l r).length (aF (cV l r))):=by
 obtain⟨A,c',hv',hc,hcm,hr0⟩:=aC.of_own ho
 simp only[tS,true_and]at hv';obtain⟨rfl,rfl⟩:=hv'
 have hr:aC (fun k=>k<w.heap.size) w 2 (some ⟨g,0,none⟩) l.length (aF l):=hr0.more fun k hk=>(aD ho hk).2
 have HO:=Hi ho;have HR0:=Hi (aA hr ((sA _ w).alloc (sB _) (.cells #[.int .i64 r.1,.int .i64 r.2] 45)));have HB0:Hid (Below w.heap.size w (w.alloc (.cells #[.int .i64 r.1,.int .i64 r.2] 45))):=(sA _ w).alloc (sB _) _;have HQ0:=Hi (Blk.new w 45 #[.int .i64 r.1,.int .i64 r.2]);have hsz:(w.alloc (.cells #[.int .i64 r.1,.int .i64 r.2] 45)).heap.size=w.heap.size+1:=by simp
 clear ho hr0 hr;have H1:=fun W c h1 h2 h3=>jE l r (fun k=>k<W.heap.size) (some ⟨g,0,none⟩) c W h1 h2 h3
 go_enter Tryz.func54,Tryz.ntmps54;go_wp2_with fail
 generalize w.alloc (.cells #[.int .i64 r.1,.int .i64 r.2] 45)=V at *;replace H1:=H1 V c HR0.o (fun _ h=>h) (by omega);obtain⟨y1,y2⟩:=ce2 HQ0.o
 go_wp2_with fail
 go_at_call 18;refine H1.mono ?_;rintro e w0 ⟨rfl,hb⟩;have HB1:Hid (Below w.heap.size w w0):=HB0.o.trans (hb.mono HB0.o.size);have HQ1:=Hi (HQ0.o.keep (hb.block _ HQ0.o.lt));have HR1:=Hi (aA HR0.o hb);have hs1:w.heap.size+1≤w0.heap.size:=by rw[←hsz];exact hb.size
 clear hb H1 HR0 HQ0 y1 y2 hsz;by_cases hm:r∈l
 ·have e1:decide (r∈l)=true:=sH hm;rw[e1];go_wp2_with fail
  go_ret;rw[putR_has hm];exact⟨_,rfl,aO HO.o HB1.o,HB1.o,.inl hm⟩
 ·have e1:decide (r∈l)=false:=sI hm;rw[e1];obtain⟨n,hn⟩:∃n,l.length=n:=⟨_,rfl⟩
  have HN:=Hi hn;rw[hn]at hl hc ⊢;have HM:=Hi hm;clear hn hm e1;go_wp2_with fail
  go_loopw [6] (fun s6 wr=>∃k:Nat,s6=.int .i64 k∧k≤n∧Hid (∀x∈l.take k,aM x r=true)∧Hid (Below w0.heap.size w0 wr)) (fun s6 _=>n-(intOf s6).toNat)
  case atStart=>exact⟨0,rfl,by omega,by show ∀x∈_,_;simp,sA _ _⟩
  case round =>
   obtain⟨k,rfl,hk,HI,HB⟩:=hrel
   obtain⟨y1,y2⟩:=ce2 (HQ1.o.keep (HB.o.block _ HQ1.o.lt))
   by_cases hlt:k<n
   ·obtain⟨b1,o1,hA,-,hc1⟩:=(aA HR1.o HB.o).at_ (by rw[HN.o];omega) (by omega)
    simp only[tW,Addr.mk.injEq,and_true]at hA;obtain⟨rfl,rfl⟩:=hA
    obtain⟨x,hx⟩:∃x,l[k]?=some x:=⟨_,sC (by rw[HN.o];exact hlt)⟩
    have x1:wr.cell? ⟨g,k*2,none⟩=some (.int .i64 x.1):=by have:=hc1 _ _ (aN hx).1;rwa [uX]at this
    have x2:wr.cell? ⟨g,k*2+1,none⟩=some (.int .i64 x.2):=by have:=hc1 _ _ (aN hx).2;rwa [uX]at this
    have g1:decide ((k:Int)<n)=true:=sH (by omega);have HX:=Hi hx;clear hc1 hx;go_wp2_with fail
    refine wp_region_still_tail 10 (by kernel_rfl) (by kernel_rfl) ?_;simp only[tE,tO,tG,tT];repeat (first|(refine aQ rfl (fun K hK=>?_);go_simp;refine hK _ ?_;clear hK K)|(refine wpStill_skip rfl ?_;go_frame))
    refine wpStill_nil ?_;change wpList _ _ _ _ _ wr.drew;have HBD:Hid (Below w0.heap.size w0 wr.drew):=HB.o.drew;generalize wr.drew=w2 at HBD ⊢;clear x1 x2 y1 y2 HB;go_wp2_with fail
    go_at_call 76;refine(pC x r w2).mono ?_
    rintro e w3 ⟨rfl,hb⟩;have HB3:Hid (Below w0.heap.size w0 w3):=HBD.o.trans (hb.mono HBD.o.size);clear hb HBD;cases ha:aM x r with
    |true =>
     have HI2:Hid (∀x∈l.take (k+1),aM x r=true):=by
      intro z hz;rw[sQ,HX.o]at hz;rcases sG.1 hz with hz|hz
      ·exact HI.o z hz
      ·simp at hz;rw[hz];exact ha
     clear ha;go_wp2_with fail
     go_roundw
     case rel=>exact⟨k+1,by go_num,by omega,HI2,HB3⟩
     case measure=>simp[intOf];omega
    |false =>
     have HP:Hid (cV l r=l.take k++r::l.drop k):=putR_at HM.o (by rw[HN.o];omega) HI.o (fun z hz=>by rw[HX.o]at hz;cases hz;exact ha);clear ha HX;obtain⟨i0,hi,hz0,hz1,hz2⟩:=info_parts gD
     have HRW:Hid (aC (fun x=>x<w3.heap.size) w3 2 (some ⟨g,0,none⟩) n (aF l)):=by have:=aA HR1.o HB3.o;rwa [HN.o]at this
     have HT:Hid (aC (fun x=>x<w3.heap.size) w3 2 (some ⟨g,0,none⟩) k (aF (l.take k))):=by have:=HRW.o.take hk;rwa [jF]at this
     have HQW:=Hi (HQ1.o.keep (HB3.o.block _ HQ1.o.lt));have HBW:Hid (Below w.heap.size w w3):=HB1.o.trans (HB3.o.mono HB1.o.size);clear HB0 HB1 hs1 HQ1 HI;go_wp2_with (at_builtin;refine aG _ rfl (.tmp 27) (.tmp 30) _ rfl (w3.heap.size) 45 i0 _ 2 16 Tryz.underlying30 hi hz0 hz1 hz2 rfl (by omega) (.slice none 0 0) (0) (aF []) rfl (bB _ _ _ _) _ ((some ⟨g,0,none⟩)) (k) (c) (aF (l.take k)) rfl (HT.o) (aY _) ?c1 ?c2 ?c3 ?_)
     try case c1=>simp only[maxLen];omega
     try case c2=>omega
     try case c3=>exact sB _
     intro v4 w4 ho4 hg4 _;have HB4:Hid (Below w3.heap.size w3 w4):=(sA _ w3).grown hg4 (sB _) (fun g e=>by cases e);replace ho4:w4.ownsRow w3.heap.size 45 2 v4 k (aF (l.take k)):=by simpa[aF] using ho4
     have HO4:=Hi ho4;have hQ4:=HQW.o.keep (HB4.o.block _ HQW.o.lt);obtain⟨y1,y2⟩:=ce2 hQ4
     clear ho4 hg4 hQ4;go_wp2_with (at_builtin;refine aX 30 45 (.agg #[.int .i64 0,.int .i64 0]) 2 16 Tryz.underlying30 gD rfl (by omega) rfl (.tmp 32) (.tmp 34) rfl (w3.heap.size) (v4) (k) (aF (l.take k)) rfl (HO4.o.alloc _) (w4.heap.size) 1 ([.int .i64 r.1,.int .i64 r.2]) rfl ?d1 ?d2 ?d3 ?d4 ?d5 ?d6 ?_)
     try case d1=>rfl
     try case d2=>intro j u hj;exact dN _ _ _ hj
     try case d3=>first|exact aY [r]|exact⟨rfl,rfl⟩|rfl
     try case d4=>omega
     try case d5=>omega
     try case d6=>first|(have:=HB4.o.size;simp;omega)|(simp;done)
     intro v1 w1 hown1 hg1 hat1;have hb1:Below (w3.heap.size) w3 w1:=(HB4.o.alloc HB4.o.size _).grown hg1 (by have:=HB4.o.size;first|(simp;omega)|(simp;done)) (fun g hg=>(aD (HO4.o) hg).1);clear hat1 hg1 y1 y2;have HO5:=Hi hown1;have HB5:=Hi hb1;have HC:Hid (aC (fun x=>x<w1.heap.size) w1 2 (if c=k then (some ⟨g,0,none⟩) else Option.map (fun x:Addr=>x.add (k*2)) (some ⟨g,0,none⟩)) (n-k) (aF (l.drop k))):=by
      have:=(aA HRW.o HB5.o).cut (cap:=c) hk (by omega)
      rwa [iB]at this
     clear hown1 hb1 HO4 HB4 HRW HT HQW;have HF:Hid (∀(v':Value) (w':World),w'.ownsRow w3.heap.size 45 2 v' (k+1+(n-k)) (aF (l.take k)++[.int .i64 r.1,.int .i64 r.2]++aF (l.drop k))→w'.ownsRow w.heap.size 45 2 v' (cV l r).length (aF (cV l r))):=by
      intro v' w' h;have e1:(cV l r).length=k+1+(n-k):=by rw[HP.o];simp only[sF,tD,sV,uG];have:=HN.o;omega
      have e2:aF (cV l r)=aF (l.take k)++[.int .i64 r.1,.int .i64 r.2]++aF (l.drop k):=by rw[HP.o,bH,sX];rfl
      rw[e1,e2];exact bG h fun g hg=>sY HBW.o.size (aD h hg).1
     by_cases hck:c=k
     ·rw[tA hck]at HC;go_wp2_with (at_builtin;refine aG _ rfl (.tmp 36) (.tmp 39) _ rfl (w3.heap.size) 45 i0 _ 2 16 Tryz.underlying30 hi hz0 hz1 hz2 rfl (by omega) (v1) (k+1) (aF (l.take k)++[.int .i64 r.1,.int .i64 r.2]) rfl (HO5.o) _ (_) (_) (_) (aF (l.drop k)) rfl ((by simpa using HC.o)) (aY _) ?c1 ?c2 ?c3 ?_)
      try case c1=>simp only[maxLen];omega
      try case c2=>omega
      try case c3=>exact HB5.o.size
      intro v6 w6 ho6 hg6 _;have HB6:Hid (Below w3.heap.size w3 w6):=HB5.o.grown hg6 HB5.o.size (fun g hg=>(aD HO5.o hg).1);have HO6:Hid (w6.ownsRow w.heap.size 45 2 v6 (cV l r).length (aF (cV l r))):=HF.o _ _ (by simpa using ho6);clear ho6 hg6 HF HC HO5 HB5;go_wp2_with fail
      go_ret;exact⟨_,rfl,bG HO6.o (fun g hg=>sY hbs (aD HO6.o hg).1),HBW.o.trans (HB6.o.mono HBW.o.size),.inr HO6.o⟩
     ·rw[sT hck]at HC;have HC2:Hid (aC (fun x=>x<w1.heap.size) w1 2 (some ⟨g,k*2,none⟩) (n-k) (aF (l.drop k))):=by have:=HC.o;rw[vC,addr0]at this;exact this
      go_wp2_with (at_builtin;refine aG _ rfl (.tmp 36) (.tmp 39) _ rfl (w3.heap.size) 45 i0 _ 2 16 Tryz.underlying30 hi hz0 hz1 hz2 rfl (by omega) (v1) (k+1) (aF (l.take k)++[.int .i64 r.1,.int .i64 r.2]) rfl (HO5.o) _ (_) (_) (_) (aF (l.drop k)) rfl ((by simpa using HC2.o)) (aY _) ?c1 ?c2 ?c3 ?_)
      try case c1=>simp only[maxLen];omega
      try case c2=>omega
      try case c3=>exact HB5.o.size
      intro v6 w6 ho6 hg6 _;have HB6:Hid (Below w3.heap.size w3 w6):=HB5.o.grown hg6 HB5.o.size (fun g hg=>(aD HO5.o hg).1);have HO6:Hid (w6.ownsRow w.heap.size 45 2 v6 (cV l r).length (aF (cV l r))):=HF.o _ _ (by simpa using ho6);clear ho6 hg6 HF HC HO5 HB5;go_wp2_with fail
      go_ret;exact⟨_,rfl,bG HO6.o (fun g hg=>sY hbs (aD HO6.o hg).1),HBW.o.trans (HB6.o.mono HBW.o.size),.inr HO6.o⟩
   ·have g1:decide ((k:Int)<n)=false:=sI (by omega);obtain rfl:k=n:=by omega
    have HP:Hid (cV l r=l.take k++r::l.drop k):=putR_at HM.o (by rw[HN.o];omega) HI.o (fun z hz=>by rw[vA (by rw[HN.o];omega)]at hz;cases hz);clear y1 y2;go_wp2_with fail
    go_quiet (fail)
    change Exit.then _ _ _ _ (wr.drewN nq);have HBD:Hid (Below w0.heap.size w0 (wr.drewN nq)):=aH HB.o nq;generalize wr.drewN nq=w3 at HBD ⊢;clear HB;obtain⟨i0,hi,hz0,hz1,hz2⟩:=info_parts gD
    have HRW:Hid (aC (fun x=>x<w3.heap.size) w3 2 (some ⟨g,0,none⟩) k (aF l)):=by have:=aA HR1.o HBD.o;rwa [HN.o]at this
    have HT:Hid (aC (fun x=>x<w3.heap.size) w3 2 (some ⟨g,0,none⟩) k (aF (l.take k))):=by have:=HRW.o.take hk;rwa [jF]at this
    have HQW:=Hi (HQ1.o.keep (HBD.o.block _ HQ1.o.lt));have HBW:Hid (Below w.heap.size w w3):=HB1.o.trans (HBD.o.mono HB1.o.size);clear HB0 HB1 hs1 HQ1 HI;go_wp2_with (at_builtin;refine aG _ rfl (.tmp 27) (.tmp 30) _ rfl (w3.heap.size) 45 i0 _ 2 16 Tryz.underlying30 hi hz0 hz1 hz2 rfl (by omega) (.slice none 0 0) (0) (aF []) rfl (bB _ _ _ _) _ ((some ⟨g,0,none⟩)) (k) (c) (aF (l.take k)) rfl (HT.o) (aY _) ?c1 ?c2 ?c3 ?_)
    try case c1=>simp only[maxLen];omega
    try case c2=>omega
    try case c3=>exact sB _
    intro v4 w4 ho4 hg4 _;have HB4:Hid (Below w3.heap.size w3 w4):=(sA _ w3).grown hg4 (sB _) (fun g e=>by cases e);replace ho4:w4.ownsRow w3.heap.size 45 2 v4 k (aF (l.take k)):=by simpa[aF] using ho4
    have HO4:=Hi ho4;have hQ4:=HQW.o.keep (HB4.o.block _ HQW.o.lt);obtain⟨y1,y2⟩:=ce2 hQ4
    clear ho4 hg4 hQ4;go_wp2_with (at_builtin;refine aX 30 45 (.agg #[.int .i64 0,.int .i64 0]) 2 16 Tryz.underlying30 gD rfl (by omega) rfl (.tmp 32) (.tmp 34) rfl (w3.heap.size) (v4) (k) (aF (l.take k)) rfl (HO4.o.alloc _) (w4.heap.size) 1 ([.int .i64 r.1,.int .i64 r.2]) rfl ?d1 ?d2 ?d3 ?d4 ?d5 ?d6 ?_)
    try case d1=>rfl
    try case d2=>intro j u hj;exact dN _ _ _ hj
    try case d3=>first|exact aY [r]|exact⟨rfl,rfl⟩|rfl
    try case d4=>omega
    try case d5=>omega
    try case d6=>first|(have:=HB4.o.size;simp;omega)|(simp;done)
    intro v1 w1 hown1 hg1 hat1;have hb1:Below (w3.heap.size) w3 w1:=(HB4.o.alloc HB4.o.size _).grown hg1 (by have:=HB4.o.size;first|(simp;omega)|(simp;done)) (fun g hg=>(aD (HO4.o) hg).1);clear hat1 hg1 y1 y2;have HO5:=Hi hown1;have HB5:=Hi hb1;have HC:Hid (aC (fun x=>x<w1.heap.size) w1 2 (if c=k then (some ⟨g,0,none⟩) else Option.map (fun x:Addr=>x.add (k*2)) (some ⟨g,0,none⟩)) (k-k) (aF (l.drop k))):=by
     have:=(aA HRW.o HB5.o).cut (cap:=c) hk (by omega)
     rwa [iB]at this
    clear hown1 hb1 HO4 HB4 HRW HT HQW;have HF:Hid (∀(v':Value) (w':World),w'.ownsRow w3.heap.size 45 2 v' (k+1+(k-k)) (aF (l.take k)++[.int .i64 r.1,.int .i64 r.2]++aF (l.drop k))→w'.ownsRow w.heap.size 45 2 v' (cV l r).length (aF (cV l r))):=by
     intro v' w' h;have e1:(cV l r).length=k+1+(k-k):=by rw[HP.o];simp only[sF,tD,sV,uG];have:=HN.o;omega
     have e2:aF (cV l r)=aF (l.take k)++[.int .i64 r.1,.int .i64 r.2]++aF (l.drop k):=by rw[HP.o,bH,sX];rfl
     rw[e1,e2];exact bG h fun g hg=>sY HBW.o.size (aD h hg).1
    by_cases hck:c=k
    ·rw[tA hck]at HC;go_wp2_with (at_builtin;refine aG _ rfl (.tmp 36) (.tmp 39) _ rfl (w3.heap.size) 45 i0 _ 2 16 Tryz.underlying30 hi hz0 hz1 hz2 rfl (by omega) (v1) (k+1) (aF (l.take k)++[.int .i64 r.1,.int .i64 r.2]) rfl (HO5.o) _ (_) (_) (_) (aF (l.drop k)) rfl ((by simpa using HC.o)) (aY _) ?c1 ?c2 ?c3 ?_)
     try case c1=>simp only[maxLen];omega
     try case c2=>omega
     try case c3=>exact HB5.o.size
     intro v6 w6 ho6 hg6 _;have HB6:Hid (Below w3.heap.size w3 w6):=HB5.o.grown hg6 HB5.o.size (fun g hg=>(aD HO5.o hg).1);have HO6:Hid (w6.ownsRow w.heap.size 45 2 v6 (cV l r).length (aF (cV l r))):=HF.o _ _ (by simpa using ho6);clear ho6 hg6 HF HC HO5 HB5;go_wp2_with fail
     go_ret;exact⟨_,rfl,bG HO6.o (fun g hg=>sY hbs (aD HO6.o hg).1),HBW.o.trans (HB6.o.mono HBW.o.size),.inr HO6.o⟩
    ·rw[sT hck]at HC;have HC2:Hid (aC (fun x=>x<w1.heap.size) w1 2 (some ⟨g,k*2,none⟩) (k-k) (aF (l.drop k))):=by have:=HC.o;rw[vC,addr0]at this;exact this
     go_wp2_with (at_builtin;refine aG _ rfl (.tmp 36) (.tmp 39) _ rfl (w3.heap.size) 45 i0 _ 2 16 Tryz.underlying30 hi hz0 hz1 hz2 rfl (by omega) (v1) (k+1) (aF (l.take k)++[.int .i64 r.1,.int .i64 r.2]) rfl (HO5.o) _ (_) (_) (_) (aF (l.drop k)) rfl ((by simpa using HC2.o)) (aY _) ?c1 ?c2 ?c3 ?_)
     try case c1=>simp only[maxLen];omega
     try case c2=>omega
     try case c3=>exact HB5.o.size
     intro v6 w6 ho6 hg6 _;have HB6:Hid (Below w3.heap.size w3 w6):=HB5.o.grown hg6 HB5.o.size (fun g hg=>(aD HO5.o hg).1);have HO6:Hid (w6.ownsRow w.heap.size 45 2 v6 (cV l r).length (aF (cV l r))):=HF.o _ _ (by simpa using ho6);clear ho6 hg6 HF HC HO5 HB5;go_wp2_with fail
     go_ret;exact⟨_,rfl,bG HO6.o (fun g hg=>sY hbs (aD HO6.o hg).1),HBW.o.trans (HB6.o.mono HBW.o.size),.inr HO6.o⟩
theorem sPut_nil(r:Rf)(w:World):
 Calls Tryz.prog 54 #[.slice none 0 0,.agg #[.int .i64 r.1,.int .i64 r.2]] w fun e w'=>∃v',e=.returned v'∧w'.ownsRow w.heap.size 45 2 v' 1 (aF [r])∧Below w.heap.size w w':=by
 have HB0:Hid (Below w.heap.size w (w.alloc (.cells #[.int .i64 r.1,.int .i64 r.2] 45))):=(sA _ w).alloc (sB _) _;have HQ0:=Hi (Blk.new w 45 #[.int .i64 r.1,.int .i64 r.2]);have H1:=fun W=>jE [] r (fun _=>False) none 0 W (aC.none_) (fun _ h=>h.elim) (by simp)
 go_enter Tryz.func54,Tryz.ntmps54;go_wp2_with fail
 generalize w.alloc (.cells #[.int .i64 r.1,.int .i64 r.2] 45)=V at *;replace H1:=H1 V;obtain⟨y1,y2⟩:=ce2 HQ0.o
 go_wp2_with fail
 go_at_call 18;refine H1.mono ?_;rintro e w0 ⟨rfl,hb⟩;have HB1:Hid (Below w.heap.size w w0):=HB0.o.trans (hb.mono HB0.o.size);have HQ1:=Hi (HQ0.o.keep (hb.block _ HQ0.o.lt));clear hb H1 HQ0 y1 y2 HB0;have e1:decide (r∈([]:List Rf))=false:=by simp
 rw[e1];clear e1;go_wp2_with fail
 go_loopw [6] (fun s6 wr=>s6=.int .i64 0∧Hid (Below w0.heap.size w0 wr)) (fun _ _=>0)
 case atStart=>exact⟨rfl,sA _ _⟩
 case round =>
  obtain⟨rfl,HB⟩:=hrel
  go_wp2_with fail
  go_quiet (fail)
  change Exit.then _ _ _ _ (wr.drewN nq);have HBD:Hid (Below w0.heap.size w0 (wr.drewN nq)):=aH HB.o nq;generalize wr.drewN nq=w3 at HBD ⊢;obtain⟨i0,hi,hz0,hz1,hz2⟩:=info_parts gD
  have HQ3:=Hi (HQ1.o.keep (HBD.o.block _ HQ1.o.lt));have HB3:Hid (Below w.heap.size w w3):=HB1.o.trans (HBD.o.mono HB1.o.size);clear HB HBD HB1 HQ1;go_wp2_with (at_builtin;refine aG _ rfl (.tmp 27) (.tmp 30) _ rfl (w3.heap.size) 45 i0 _ 2 16 Tryz.underlying30 hi hz0 hz1 hz2 rfl (by omega) (.slice none 0 0) (0) (aF []) rfl (bB _ _ _ _) _ (none) (0) (0) (aF []) rfl ((aC.none_ (D:=fun _=>False))) (aY _) ?c1 ?c2 ?c3 ?_)
  try case c1=>simp only[maxLen];omega
  try case c2=>omega
  try case c3=>exact sB _
  intro v4 w4 ho4 hg4 _;have HB4:Hid (Below w3.heap.size w3 w4):=(sA _ w3).grown hg4 (sB _) (fun g e=>by cases e);replace ho4:w4.ownsRow w3.heap.size 45 2 v4 0 (aF []):=by simpa[aF] using ho4
  have HO4:=Hi ho4;have hQ4:=HQ3.o.keep (HB4.o.block _ HQ3.o.lt);obtain⟨y1,y2⟩:=ce2 hQ4
  clear ho4 hg4 hQ4;go_wp2_with (at_builtin;refine aX 30 45 (.agg #[.int .i64 0,.int .i64 0]) 2 16 Tryz.underlying30 gD rfl (by omega) rfl (.tmp 32) (.tmp 34) rfl (w3.heap.size) (v4) (0) (aF []) rfl (HO4.o.alloc _) (w4.heap.size) 1 ([.int .i64 r.1,.int .i64 r.2]) rfl ?d1 ?d2 ?d3 ?d4 ?d5 ?d6 ?_)
  try case d1=>rfl
  try case d2=>intro j u hj;exact dN _ _ _ hj
  try case d3=>first|exact aY [r]|exact⟨rfl,rfl⟩|rfl
  try case d4=>omega
  try case d5=>omega
  try case d6=>first|(have:=HB4.o.size;simp;omega)|(simp;done)
  intro v1 w1 hown1 hg1 hat1;have hb1:Below (w3.heap.size) w3 w1:=(HB4.o.alloc HB4.o.size _).grown hg1 (by have:=HB4.o.size;first|(simp;omega)|(simp;done)) (fun g hg=>(aD (HO4.o) hg).1);clear hat1 hg1 y1 y2;have HO5:=Hi hown1;have HB5:=Hi hb1;clear hown1 hb1 HO4 HB4 HQ3;go_wp2_with (at_builtin;refine aG _ rfl (.tmp 36) (.tmp 39) _ rfl (w3.heap.size) 45 i0 _ 2 16 Tryz.underlying30 hi hz0 hz1 hz2 rfl (by omega) (v1) (1) (aF []++[.int .i64 r.1,.int .i64 r.2]) rfl (HO5.o) _ (_) (_) (_) (aF []) rfl ((aC.none_ (D:=fun _=>False))) (aY _) ?c1 ?c2 ?c3 ?_)
  try case c1=>simp only[maxLen];omega
  try case c2=>omega
  try case c3=>exact HB5.o.size
  intro v6 w6 ho6 hg6 _;have HB6:Hid (Below w3.heap.size w3 w6):=HB5.o.grown hg6 HB5.o.size (fun g hg=>(aD HO5.o hg).1);have HO6:Hid (w6.ownsRow w.heap.size 45 2 v6 1 (aF [r])):=by
   have h:w6.ownsRow w3.heap.size 45 2 v6 1 (aF [r]):=by simpa[aF] using ho6
   exact bG h fun g hg=>sY HB3.o.size (aD h hg).1
  clear ho6 hg6 HO5 HB5;go_wp2_with fail
  go_ret;exact⟨_,rfl,HO6.o,HB3.o.trans (HB6.o.mono HB3.o.size)⟩
theorem qZ(l:List Rf)(r:Rf)(base:Nat)(v:Value)(w:World)(ho:w.ownsRow base 45 2 v l.length (aF l))(hl:l.length≤1000000000)(hbs:base≤w.heap.size):
 Calls Tryz.prog 54 #[v,.agg #[.int .i64 r.1,.int .i64 r.2]] w fun e w'=>∃v',e=.returned v'∧w'.ownsRow base 45 2 v' (cV l r).length (aF (cV l r))∧Below w.heap.size w w'∧(r∈l∨w'.ownsRow w.heap.size 45 2 v' (cV l r).length (aF (cV l r))):=by
 have ho':=ho;rcases ho.2 with⟨rfl,h0⟩|⟨g,cap,cur,rfl,_⟩
 ·obtain rfl:l=[]:=uK.1 h0;refine(sPut_nil r w).mono ?_
  rintro e w' ⟨v',rfl,h1,h2⟩;exact⟨v',rfl,bG h1 fun g hg=>sY hbs (aD h1 hg).1,h2,.inr h1⟩
 ·exact sPut_some l r base g cap w ho' hl hbs
end
section
theorem nA{l:List Rf}{r x:Rf}: x∈cV l r↔x∈l∨x=r:=by
 unfold cV;split
 ·rename_i h;constructor
  ·exact .inl
  ·rintro(h'|rfl)
   ·exact h'
   ·exact h
 ·rw[sG,sO];have:=uJ (p:=fun x=>aM x r) (l:=l)
  constructor
  ·rintro(h|h|h)
   ·exact .inl (by rw[←this];exact tI _ h)
   ·exact .inr h
   ·exact .inl (by rw[←this];exact tX _ h)
  ·rintro(h|h)
   ·rw[←this]at h;rcases sG.1 h with h|h
    ·exact .inl h
    ·exact .inr (.inr h)
   ·exact .inr (.inl h)
theorem putR_len{l:List Rf}{r:Rf}(h:r∉l):(cV l r).length=l.length+1:=by
 unfold cV;rw[sT h,sF,sV];have:=congrArg List.length (uJ (p:=fun x=>aM x r) (l:=l))
 rw[sF]at this;omega
theorem lR{α:Type}{p:α→Bool}{l:List α}{x:α}(h:x∈l.takeWhile p):p x=true:=by
 induction l with
 |nil=>cases h
 |cons a l ih =>
  rw[List.takeWhile_cons]at h;split at h
  ·rename_i ha;rcases sO.1 h with rfl|h
   ·exact ha
   ·exact ih h
  ·cases h
theorem putR_asc{l:List Rf}{r:Rf}(h:jA l):jA (cV l r):=by
 unfold cV;split
 ·exact h
 ·rename_i hm;have hs:=uJ (p:=fun x=>aM x r) (l:=l);have h1:jA (l.takeWhile (fun x=>aM x r)):=h.sublist (List.takeWhile_sublist _);have h2:jA (l.dropWhile (fun x=>aM x r)):=h.sublist (List.dropWhile_sublist _);have h3:∀x∈l.dropWhile (fun x=>aM x r),aM r x=true:=by
   intro x hx;cases hd:l.dropWhile (fun x=>aM x r) with
   |nil=>rw[hd]at hx;cases hx
   |cons a t =>
    have ha:aM a r=false:=by
     have:=List.head_dropWhile_not (fun x=>aM x r) (l:=l) (by rw[hd];simp)
     simp only[hd,List.head_cons]at this;simpa using this
    have hal:a∈l:=by rw[←hs,hd];simp
    have hra:aM r a=true:=by
     rcases hZ (a:=a) (b:=r) (fun e=>hm (e▸hal)) with h|h
     ·rw[ha]at h;cases h
     ·exact h
    rw[hd]at hx h2;rcases sO.1 hx with rfl|hx
    ·exact hra
    ·exact fB hra ((uZ.1 h2).1 x hx)
  rw[jA,List.pairwise_append];refine⟨h1,uZ.2 ⟨h3,h2⟩,fun a ha b hb=>?_⟩
  have har:aM a r=true:=lR (p:=fun x=>aM x r) ha;rcases sO.1 hb with rfl|hb
  ·exact har
  ·exact fB har (h3 b hb)
theorem jA.nodup{l:List Rf}(h:jA l):l.Nodup:=h.imp fun h e=>by rw[e,dZ]at h;cases h
theorem kR{l m:List Rf}(hn:l.Nodup)(hs:∀x∈l,x∈m):l.length≤m.length:=by
 induction l generalizing m with
 |nil=>simp
 |cons a l ih =>
  obtain⟨h1,h2⟩:=uI.1 hn
  obtain⟨p,q,rfl⟩:=wR (hs a (by simp))
  have:=ih (m:=p++q) h2 (fun x hx=>by
   have h:=hs x (by simp[hx]);rcases sG.1 h with h|h
   ·exact tI _ h
   ·rcases sO.1 h with rfl|h
    ·exact absurd hx h1
    ·exact tX _ h)
  simp only[sF,sV]at this ⊢;omega
structure BI(L:List ChD)(hs todo out:List Rf)(k:Nat):Prop where
 asc:jA out
 sub:∀r∈out,r∈aP L hs
 tod:∀r∈todo,r∈aB L→r∈aP L hs
 hds:∀r∈hs,r∈todo
 don:∀j,j<k→∀r,todo[j]?=some r→r∈out∨r∉aB L
 cls:∀c∈L,c.rf∈out→∀d∈c.deps,d∈todo
 len:todo.length≤hs.length+12*out.length
 kl:k≤todo.length
theorem BI.start(L:List ChD)(hs:List Rf):BI L hs hs [] 0 :=
 ⟨by simp[jA],by simp,fun r hr hm=>lA hr hm,fun r hr=>hr,fun j hj=>by omega,by simp,by simp,by omega⟩
theorem BI.outlen{L:List ChD}{hs todo out:List Rf}{k:Nat}(h:BI L hs todo out k):out.length≤L.length:=by
 have:=kR h.asc.nodup (m:=aB L) (fun x hx=>bL (h.sub x hx))
 simpa[aB] using this
theorem BI.skip{L:List ChD}{hs todo out:List Rf}{k:Nat}(h:BI L hs todo out k){x:Rf}(hx:todo[k]?=some x)(hm:x∈out∨x∉aB L):BI L hs todo out (k+1) :=
 { h with
  don:=fun j hj r hr=>by
   by_cases e:j=k
   ·subst e;rw[hx]at hr;cases hr;exact hm
   ·exact h.don j (by omega) r hr
  kl:=(sE.1 hx).1 }
theorem BI.put{L:List ChD}(ht:TopR L.reverse){hs todo out:List Rf}{k:Nat}(h:BI L hs todo out k){c:ChD}(hx:todo[k]?=some c.rf)(hc:c∈L)(hn:(aB L).Nodup)(hm:c.rf∉out)(hd:c.deps.length≤12):
 BI L hs (todo++c.deps) (cV out c.rf) (k+1):=by
 have hkl:=(sE.1 hx).1;have hb:c.rf∈aP L hs:=h.tod _ (sJ hx) (bX hc);refine⟨putR_asc h.asc,fun r hr=>?_,fun r hr hm=>?_,fun r hr=>tI _ (h.hds r hr),fun j hj r hr=>?_,fun b hbL hbo d hd=>?_,?_,?_⟩
 ·rcases nA.1 hr with hr|rfl
  ·exact h.sub r hr
  ·exact hb
 ·rcases sG.1 hr with hr|hr
  ·exact h.tod r hr hm
  ·exact eW ht (uN.2 hc) hb hr
 ·rw[uD (by omega)]at hr;by_cases e:j=k
  ·subst e;rw[hx]at hr;cases hr;exact .inl (nA.2 (.inr rfl))
  ·rcases h.don j (by omega) r hr with h|h
   ·exact .inl (nA.2 (.inl h))
   ·exact .inr h
 ·rcases nA.1 hbo with hbo|hbo
  ·exact tI _ (h.cls b hbL hbo d hd)
  ·have:b=c:=by
    rw[aB,List.Nodup,vY]at hn;by_cases e:b=c
    ·exact e
    ·exact absurd hbo (by
      have h2:∀ {l:List ChD},l.Pairwise (fun x y=>x.rf≠y.rf)→b∈l→c∈l→b.rf≠c.rf:=by
       intro l;induction l with
       |nil=>intro _ h;cases h
       |cons a l ih =>
        intro hp hb hc;obtain⟨h1,h2⟩:=uZ.1 hp
        rcases sO.1 hb with e1|hb
        ·rcases sO.1 hc with e2|hc
         ·exact absurd (e1.trans e2.symm) e
         ·rw[e1];exact h1 c hc
        ·rcases sO.1 hc with e2|hc
         ·rw[e2];exact(h1 b hb).symm
         ·exact ih h2 hb hc
      exact h2 hn hbL hc)
   rw[this]at hd;exact tX _ hd
 ·rw[putR_len hm,sF];have:=h.len;omega
 ·rw[sF];omega
theorem BI.done{L:List ChD}{hs todo out:List Rf}(h:BI L hs todo out todo.length):∀r,r∈out↔r∈aP L hs:=by
 have hall:∀r∈todo,r∈aB L→r∈out:=fun r hr hm=>by
  obtain⟨j,hj⟩:=wU hr
  rcases h.don j (sE.1 hj).1 r hj with h|h
  ·exact h
  ·exact absurd hm h
 intro r;refine⟨h.sub r,fun hr=>?_⟩
 refine gN (fun r=>r∈out) (fun r hr hm=>hall r (h.hds r hr) ?_) (fun c hc hs d hd hm=>hall d (h.cls c (uN.1 hc) hs d hd) ?_) r hr
 ·rw[dF]at hm;exact uN.1 hm
 ·rw[dF]at hm;exact uN.1 hm
structure ChIn(D:Nat→Prop)(w:World)(c:ChD):Prop where
 hd:aC D w 2 c.DA c.deps.length (aF c.deps)
 hdl:c.deps.length≤9223372036854775807
 ho:aC D w 13 c.OA c.ops.length (eF c.ops)
 hol:c.ops.length≤9223372036854775807
 hp:∀o∈c.ops,aC D w 2 o.A o.l.length (aF o.l)∧o.l.length≤9223372036854775807
theorem ChIn.keep{D:Nat→Prop}{w w':World}{c:ChD}(h:ChIn D w c)(hk:lD D w w'):ChIn D w' c :=
 ⟨h.hd.keep hk,h.hdl,h.ho.keep hk,h.hol,fun o ho=>⟨(h.hp o ho).1.keep hk,(h.hp o ho).2⟩⟩
theorem ChIn.chm{D:Nat→Prop}{w:World}{c:ChD}(h:ChIn D w c)(hD:∀k,D k→k<w.heap.size):ChM w c.deps c.DA c.ops c.OA :=
 ⟨h.hd.more hD,h.hdl,h.ho.more hD,h.hol,fun o ho=>⟨(h.hp o ho).1.more hD,(h.hp o ho).2⟩⟩
theorem ChIn.more{D D':Nat→Prop}{w:World}{c:ChD}(h:ChIn D w c)(hD:∀k,D k→D' k):ChIn D' w c :=
 ⟨h.hd.more hD,h.hdl,h.ho.more hD,h.hol,fun o ho=>⟨(h.hp o ho).1.more hD,(h.hp o ho).2⟩⟩
structure ChsIn(D:Nat→Prop)(w:World)(A:Option Addr)(L:List ChD):Prop where
 row:aC D w 5 A L.length (aW L)
 each:∀c∈L,ChIn D w c
theorem ChsIn.below{w w':World}{A:Option Addr}{L:List ChD}(h:ChsIn (fun k=>k<w.heap.size) w A L)(hb:Below w.heap.size w w'):ChsIn (fun k=>k<w'.heap.size) w' A L :=
 ⟨aA h.row hb,fun c hc=>((h.each c hc).keep fun k hk=>hb.block k hk).more fun _ hk=>sD hk hb.size⟩
theorem sBehind_any(L:List ChD)(hs:List Rf)(A:Option Addr)(c:Nat)(H:Option Addr)(hc:Nat)(w:World)(hL:ChsIn (fun k=>k<w.heap.size) w A L)(hr:aC (fun k=>k<w.heap.size) w 2 H hs.length (aF hs))
 (ht:TopR L.reverse) (hn:(aB L).Nodup) (hd:∀c∈L,c.deps.length≤12) (hl:L.length≤120) (hhl:hs.length≤100000000) :
 Calls Tryz.prog 110 #[.slice A L.length c,.slice H hs.length hc] w fun e w'=>∃v out,e=.returned v∧w'.ownsRow w.heap.size 45 2 v out.length (aF out)∧jA out∧(∀r,r∈out↔r∈aP L hs)∧out.length≤120∧Below w.heap.size w w':=by
 obtain⟨nh,hnh⟩:∃n,hs.length=n:=⟨_,rfl⟩
 obtain⟨n,hnn⟩:∃n,L.length=n:=⟨_,rfl⟩
 have HNH:=Hi hnh;have HN:=Hi hnn;have HL:=Hi hL;have HT:=Hi ht;have HD:=Hi hd;have HND:=Hi hn;have HLL:=Hi hl;rw[hnh]at hhl hr ⊢;rw[hnn]at hl ⊢;have HR:=Hi hr;clear hr hL ht hd hn hnh hnn;obtain⟨i0,hi,hz0,hz1,hz2⟩:=info_parts gD
 go_enter Tryz.func110,Tryz.ntmps110;go_wp2_with (at_builtin;refine aG _ rfl (.tmp 10) (.tmp 11) _ rfl (w.heap.size) 45 i0 _ 2 16 Tryz.underlying30 hi hz0 hz1 hz2 rfl (by omega) (.slice none 0 0) (0) (aF []) rfl (bB _ _ _ _) _ (H) (nh) (hc) (aF hs) rfl (HR.o) (aY _) ?c1 ?c2 ?c3 ?_)
 try case c1=>simp only[maxLen];omega
 try case c2=>omega
 try case c3=>exact sB _
 intro v1 w1 ho1 hg1 _;have HB1:Hid (Below w.heap.size w w1):=(sA _ w).grown hg1 (sB _) (fun g e=>by cases e);have HO1:Hid (w1.ownsRow w.heap.size 45 2 v1 hs.length (aF hs)):=by show w1.ownsRow _ _ _ _ _ _;rw[HNH.o];simpa[aF] using ho1
 clear ho1 hg1 HR;go_wp2_with fail
 go_loopw [5,6,7,8,9] (fun s5 s6 s7 _ _ wr=>∃(k:Nat) (todo out:List Rf),s7=.int .i64 k∧Hid (BI L hs todo out k)∧Hid (wr.ownsRow w.heap.size 45 2 s5 out.length (aF out))∧Hid (wr.ownsRow w.heap.size 45 2 s6 todo.length (aF todo)) ∧
  Hid (∀g,s5.ownBlock=some g→s6.ownBlock≠some g)∧Hid (Below w.heap.size w wr)) (fun _ _ s7 _ _ _=>nh+1440-(intOf s7).toNat)
 case atStart=>exact⟨0,hs,[],rfl,BI.start L hs,bB _ _ _ _,HO1.o,(by show ∀g,_→_;intro g e;cases e),HB1.o⟩
 case round =>
  obtain⟨k,todo,out,rfl,HI,HO,HTD,HNE,HB⟩:=hrel
  obtain⟨Ao,co,rfl,hco1,hco2,hro⟩:=aC.of_own HO.o
  obtain⟨At,ct,rfl,hct1,hct2,hrt⟩:=aC.of_own HTD.o
  have hol:out.length≤120:=sY HI.o.outlen HLL.o;have htl:todo.length≤nh+1440:=by have:=HI.o.len;have:=HNH.o;omega
  have hkt:=HI.o.kl;have HRO:=Hi (hro.more (fun k hk=>(aD HO.o hk).2));have HRT:=Hi (hrt.more (fun k hk=>(aD HTD.o hk).2));have H1:=fun W (r:Rf) h1 h2=>jE out r (fun k=>k<W.heap.size) Ao co W h1 (fun _ h=>h) h2
  have H2:=fun W (r:Rf) h1 h2=>jD L r (fun k=>k<W.heap.size) A c W h1 (fun _ h=>h) h2
  have H3:=fun W (r:Rf) h1 h2 h3=>qZ out r w.heap.size (.slice Ao out.length co) W h1 h2 h3
  obtain⟨no,hno⟩:∃no,out.length=no:=⟨_,rfl⟩
  obtain⟨m,hm⟩:∃m,todo.length=m:=⟨_,rfl⟩
  have HNO:=Hi hno;have HM:=Hi hm;rw[hno]at H1 H3 hol hco1 HRO HNE ⊢;rw[hm]at htl hkt hct1 HRT HNE ⊢;rw[HN.o]at H2;clear hro hrt hno hm;by_cases hlt:k<m
  ·obtain⟨b1,o1,rfl,-,hc1⟩:=HRT.o.at_ (by omega) (by omega)
   obtain⟨x,hx⟩:∃x,todo[k]?=some x:=⟨_,sC (by rw[HM.o];exact hlt)⟩
   have x1:wr.cell? ⟨b1,o1+k*2,none⟩=some (.int .i64 x.1):=hc1 _ _ (aN hx).1;have x2:wr.cell? ⟨b1,o1+k*2+1,none⟩=some (.int .i64 x.2):=hc1 _ _ (aN hx).2;have HX:=Hi hx;replace H1:=H1 wr x HRO.o (by omega);clear hc1 hx;go_wp2_with fail
   go_at_call 18;refine H1.mono ?_;rintro e w2 ⟨rfl,hb⟩;have HW2:=Hi hb;have hrt2:=(aA HRT.o hb);obtain⟨b2,o2,e2,-,hc1⟩:=hrt2.at_ (by omega) (by omega)
   simp only[tW,Addr.mk.injEq,and_true]at e2;obtain⟨rfl,rfl⟩:=e2
   have y1:w2.cell? ⟨b1,o1+k*2,none⟩=some (.int .i64 x.1):=hc1 _ _ (aN HX.o).1;have y2:w2.cell? ⟨b1,o1+k*2+1,none⟩=some (.int .i64 x.2):=hc1 _ _ (aN HX.o).2;have HL2:=Hi (HL.o.below (HB.o.trans (hb.mono HB.o.size)));replace H2:=H2 w2 x (by rw[←HN.o];exact HL2.o.row) (by omega);clear hb H1 x1 x2 hrt2 hc1;go_wp2_with fail
   go_at_call 75;refine H2.mono ?_;rintro e w3 ⟨i,rfl,hfi,hb⟩;have HW3:Hid (Below wr.heap.size wr w3):=HW2.o.trans (hb.mono HW2.o.size);have HFI:=Hi hfi;clear hb H2 y1 y2 HL2 hfi HW2;have HB3:Hid (Below w.heap.size w w3):=HB.o.trans (HW3.o.mono HB.o.size);have HO3:=Hi (aO HO.o HW3.o);have HTD3:=Hi (aO HTD.o HW3.o);rw[HNO.o]at HO3;rw[HM.o]at HTD3;by_cases hxo:x∈out
   ·have e1:decide (x∈out)=true:=sH hxo;have HI2:=Hi (HI.o.skip HX.o (.inl hxo));rw[e1];clear e1 hxo H3;go_wp2_with fail
    go_roundw
    case rel=>exact⟨k+1,todo,out,by go_num,HI2,by rw[HNO.o];exact HO3,by rw[HM.o];exact HTD3,HNE,HB3⟩
    case measure=>simp[intOf];omega
   ·have e1:decide (x∈out)=false:=sI hxo;rw[e1];rcases HFI.o with⟨rfl,hno⟩|⟨j,y,rfl,hyj,hfc⟩
    ·have HI2:=Hi (HI.o.skip HX.o (.inr hno));clear e1 hxo H3 hno;go_wp2_with fail
     go_roundw
     case rel=>exact⟨k+1,todo,out,by go_num,HI2,by rw[HNO.o];exact HO3,by rw[HM.o];exact HTD3,HNE,HB3⟩
     case measure=>simp[intOf];omega
    ·obtain⟨hyL,hyr⟩:=cK hfc
     subst hyr;have HY:=Hi hyL;have HYJ:=Hi hyj;have hjn:j<n:=by rw[←HN.o];exact(sE.1 hyj).1
     have HI2:=Hi (HI.o.put HT.o HX.o hyL HND.o hxo (HD.o y hyL));have hrt3:=aA HRT.o HW3.o;obtain⟨b2,o2,e2,-,hc1⟩:=hrt3.at_ (by omega) (by omega)
     simp only[tW,Addr.mk.injEq,and_true]at e2;obtain⟨rfl,rfl⟩:=e2
     have y1:w3.cell? ⟨b1,o1+k*2,none⟩=some (.int .i64 y.rf.1):=hc1 _ _ (aN HX.o).1;have y2:w3.cell? ⟨b1,o1+k*2+1,none⟩=some (.int .i64 y.rf.2):=hc1 _ _ (aN HX.o).2;replace H3:=H3 w3 y.rf (by first|exact HO3.o|(rw[HNO.o];exact HO3.o)) (by omega) HB3.o.size;have HXO:=Hi hxo;clear e1 hxo hc1 hrt3 hfc hyL hyj;go_wp2_with fail
     go_at_call 54;refine H3.mono ?_;rintro e w4 ⟨v4,rfl,ho4,hb4,hor⟩;have HB4:Hid (Below w.heap.size w w4):=HB3.o.trans (hb4.mono HB3.o.size);have ho4':=hor.resolve_left HXO.o;have HO4:=Hi ho4;have HTD4:=Hi (aO HTD3.o hb4);have HNE4:Hid (∀g,v4.ownBlock=some g→(Value.slice (some ⟨b1,o1,none⟩) m ct).ownBlock≠some g):=by
      intro g hg e;have h1:=(aD ho4' hg).1;have h2:=(aD HTD3.o e).2;omega
     have HL4:=Hi (HL.o.below HB4.o);have hLy:=HL4.o.each y HY.o;obtain⟨b3,o3,hA3,-,hc3⟩:=HL4.o.row.at_ (by rw[HN.o];omega) (by omega)
     subst hA3;have y3:w4.cell? ⟨b3,o3+j*5+3,none⟩=some (.slice y.DA y.deps.length y.DC):=by
      have:=hc3 _ _ (aI HYJ.o 3 (by omega))
      rw[←tY]at this;exact this
     have HRD:=Hi hLy.hd;have hdl:=HD.o y HY.o;have hb4s:w.heap.size≤w4.heap.size:=HB4.o.size;clear hb4 hor ho4 ho4' H3 y1 y2 hc3 hLy HB3 HL4;go_wp2_with (at_builtin;refine aG _ rfl (.tmp 42) (.tmp 47) _ rfl (w.heap.size) 45 i0 _ 2 16 Tryz.underlying30 hi hz0 hz1 hz2 rfl (by omega) (.slice (some ⟨b1,o1,none⟩) m ct) (m) (aF todo) rfl (HTD4.o) _ (y.DA) (y.deps.length) (y.DC) (aF y.deps) rfl (HRD.o) (aY _) ?c1 ?c2 ?c3 ?_)
     try case c1=>simp only[maxLen];omega
     try case c2=>omega
     try case c3=>exact hb4s
     intro v5 w5 ho5 hg5 hat5;have HB5:Hid (Below w.heap.size w w5):=HB4.o.grown hg5 HB4.o.size (fun g hg=>(aD HTD4.o hg).1);have HO5:Hid (w5.ownsRow w.heap.size 45 2 v4 (cV out y.rf).length (aF (cV out y.rf))):=aT HO4.o fun g hg=>hg5.block g (aD HO4.o hg).2 (fun e=>HNE4.o g hg e.symm)
     have HT5:Hid (w5.ownsRow w.heap.size 45 2 v5 (todo++y.deps).length (aF (todo++y.deps))):=by
      show w5.ownsRow _ _ _ _ _ _;rw[sF,HM.o,bH];exact ho5
     have HNE5:Hid (∀g,v4.ownBlock=some g→v5.ownBlock≠some g):=by
      intro g hg e;rcases hat5 with h|h
      ·exact HNE4.o g hg (h▸e)
      ·rw[h]at e;have:=(aD HO4.o hg).2
       simp only[tW]at e;omega
     clear ho5 hg5 hat5 HO4 HTD4 HNE4 HRD y3 HTD3 HO3 HB4;go_wp2_with fail
     go_roundw
     case rel=>exact⟨k+1,todo++y.deps,cV out y.rf,by go_num,HI2,HO5,HT5,HNE5,HB5⟩
     case measure=>simp[intOf];omega
  ·have hkm:k=m:=by omega
   have HF:Hid (jA out∧(∀r,r∈out↔r∈aP L hs)):=⟨HI.o.asc,BI.done (by have:=HI.o;rwa [hkm,←HM.o]at this)⟩;clear H1 H2 H3;go_wp2_with fail
   go_ret;exact⟨_,out,rfl,by have:=HO.o;rwa [HNO.o]at this ⊢,HF.o.1,HF.o.2,by rw[HNO.o];exact hol,HB.o⟩
end
section
def qC(x:OpI):List Value:=opC x.1++[.int .i64 x.2.1,.int .i64 x.2.2]
def iH(x:OpI):Value:=.agg #[.int .i64 x.1.k,.int .i64 x.1.on,.int .i64 x.1.oa,.string x.1.key,.int .i64 x.1.en,.int .i64 x.1.ea,.bool x.1.ins,.int .i64 x.1.vk,.int .i64 x.1.vn,.string x.1.vt,.int .i64 x.1.va,.int .i64 x.1.vb,.slice x.1.A x.1.l.length x.1.c,.int .i64 x.2.1,.int .i64 x.2.2]
def bS(l:List OpI):List Value:=l.flatMap qC
theorem kQ(x:OpI):(qC x).length=15:=by simp[qC,opC]
theorem fZ(a b:List OpI):bS (a++b)=bS a++bS b:=by simp[bS]
theorem kO:∀ {L:List OpI} {k:Nat} {c:OpI},L[k]?=some c→∀i,i<15→(bS L)[k*15+i]?=(qC c)[i]?
 | [],k,r,h=>by simp at h
 |x::l,0,o,h=>fun i hi=>by
  simp at h;subst h;simp only[bS,tQ,Nat.zero_mul,uX];exact uD (by rw[kQ];omega)
 |x::l,k+1,o,h=>fun i hi=>by
  have ih:=kO (L:=l) (k:=k) (by simpa using h) i hi;have e:bS (x::l)=qC x++bS l:=by simp[bS]
  rw[e,uS (by rw[kQ];omega),kQ,show(k+1)*15+i-15=k*15+i from by omega];exact ih
theorem jK(l:List OpI):∀u∈bS l,u.oneCell'=true:=by
 intro u hu;obtain⟨r,_,h⟩:=vG.1 hu
 simp only[qC,opC,sG,sO,uB,or_false]at h;rcases h with(rfl|rfl|rfl|rfl|rfl|rfl|rfl|rfl|rfl|rfl|rfl|rfl|rfl)|(rfl|rfl)<;>rfl
theorem look_none{l:List OpI}{n:Rf}: cX l n=none↔∀x∈l,x.2≠n:=by
 unfold cX;rw[wP];simp
theorem rL{L:List OpI}{k:Nat}{x:OpI}{r:Rf}(hx:L[k]?=some x)(h:cX (L.take k) r=none)(hne:x.2≠r):cX (L.take (k+1)) r=none:=by
 rw[look_none]at *;rw[sQ,hx];intro y hy;rcases sG.1 hy with hy|hy
 ·exact h y hy
 ·simp at hy;rw[hy];exact hne
theorem look_hit{L:List OpI}{k:Nat}{x:OpI}{r:Rf}(hx:L[k]?=some x)(h:cX (L.take k) r=none)(he:x.2=r):cX L r=some x:=by
 obtain⟨hk,hx'⟩:=sE.1 hx
 have e:L=L.take k++x::L.drop (k+1):=by
  rw[←hx',wO,uL]
 unfold cX at *;rw[e,List.find?_append,h];simp[he]
def LookI(L:List OpI)(r:Rf)(i:Int):Prop:=(i=-1∧cX L r=none)∨∃(k:Nat) (c:OpI),i=(k:Int)∧L[k]?=some c∧cX L r=some c
theorem slook_any(L:List OpI)(r:Rf)(D:Nat→Prop)(A:Option Addr)(c:Nat)(w:World)(hr:aC D w 15 A L.length (bS L))(hD:∀k,D k→k<w.heap.size)(hl:L.length≤9223372036854775807):
 Calls Tryz.prog 62 #[.slice A L.length c,.agg #[.int .i64 r.1,.int .i64 r.2]] w fun e w'=>∃i,e=.returned (.int .i64 i)∧LookI L r i∧Below w.heap.size w w':=by
 obtain⟨n,hn⟩:∃n,L.length=n:=⟨_,rfl⟩
 have HN:=Hi hn;have HR0:=Hi (hr.keep (w':=w.alloc (.cells #[.int .i64 r.1,.int .i64 r.2] 48)) fun k hk=>sM _ _ k (hD k hk));have HB0:Hid (Below w.heap.size w (w.alloc (.cells #[.int .i64 r.1,.int .i64 r.2] 48))):=(sA _ w).alloc (sB _) _;have hQ:=Blk.new w 48 #[.int .i64 r.1,.int .i64 r.2];have HC0:=Hi (And.intro (hQ.cell 0) (hQ.cell 1));rw[hn]at hl ⊢;clear hn hr hD hQ;go_enter Tryz.func62,Tryz.ntmps62;go_wp2_with fail
 generalize w.alloc (.cells #[.int .i64 r.1,.int .i64 r.2] 48)=V at *;go_loopw [5] (fun s5 wr=>∃k:Nat,s5=.int .i64 k∧k≤n∧Hid (cX (L.take k) r=none)∧∃m,wr=V.drewN m) (fun s5 _=>n-(intOf s5).toNat)
 case atStart=>exact⟨0,rfl,by omega,by show cX _ _=_;simp[cX],0,rfl⟩
 case round =>
  obtain⟨k,rfl,hk,HI,m,rfl⟩:=hrel
  by_cases hlt:k<n
  ·obtain⟨b1,o1,rfl,-,hc1⟩:=HR0.o.at_ (by rw[HN.o];omega) (by omega)
   obtain⟨x,hx⟩:∃x,L[k]?=some x:=⟨_,sC (by rw[HN.o];exact hlt)⟩
   have x1:V.cell? ⟨b1,o1+k*15+13,none⟩=some (.int .i64 x.2.1):=by have:=hc1 _ _ (kO hx 13 (by omega));rw[←tY]at this;exact this
   have x2:V.cell? ⟨b1,o1+k*15+13+1,none⟩=some (.int .i64 x.2.2):=by have:=hc1 _ _ (kO hx 14 (by omega));rw[←tY]at this;exact this
   have y1:V.cell? ⟨w.heap.size,0,none⟩=some (.int .i64 r.1):=HC0.o.1;have y2:V.cell? ⟨w.heap.size,1,none⟩=some (.int .i64 r.2):=HC0.o.2;have HX:=Hi hx;have E:=fun w=>kC x.2.1 x.2.2 r.1 r.2 w
   by_cases hxr:x.2=r
   ·have HE:=Hi (look_hit hx HI.o hxr);have e1:(x.2.1 == r.1&&x.2.2 == r.2)=true:=by rw[←hxr];simp
    rw[e1]at E;clear hc1 hx hxr e1;go_wp2_with fail
    go_quiet (fail)
    go_wp2_with fail
    go_ret;exact⟨_,rfl,.inr ⟨k,x,rfl,HX.o,HE.o⟩,by rw[tV];exact aH HB0.o _⟩
   ·have e1:(x.2.1 == r.1&&x.2.2 == r.2)=false:=by
     cases h:(x.2.1 == r.1&&x.2.2 == r.2) with
     |false=>rfl
     |true=>simp at h;exact absurd (Prod.ext h.1 h.2) hxr
    rw[e1]at E;have HE:=Hi (rL hx HI.o hxr);clear hc1 hx hxr e1;go_wp2_with fail
    go_quiet (fail)
    change Exit.then _ _ _ _ ((V.drewN m).drewN nq);have HW:Hid ((V.drewN m).drewN nq=V.drewN (m+nq)):=by show _=_;rw[tV]
    generalize (V.drewN m).drewN nq=w3 at HW ⊢;clear x1 x2 y1 y2;go_wp2_with fail
    go_roundw
    case rel=>exact⟨k+1,by go_num,by omega,HE,_,HW.o⟩
    case measure=>simp[intOf];omega
  ·have HE:Hid (cX L r=none):=by have:=HI.o;rwa [sL (by rw[HN.o];omega)]at this
   go_wp2_with fail
   go_ret;exact⟨_,rfl,.inl ⟨rfl,HE.o⟩,aH HB0.o _⟩
theorem gR(a b c d:Int):decide ((a,b)=(c,d))=(a == c&&b == d):=by
 by_cases h1:a=c<;>by_cases h2:b=d<;>simp[h1,h2]
theorem dec_key(a b:ByteArray):decide (a=b)=decide (a.toList=b.toList):=by
 have:a=b↔a.toList=b.toList:=⟨fun h=>by rw[h],fun h=>bytes_inj (by rw[←wK,←wK];exact h)⟩
 by_cases h:a=b
 ·rw[sH h,sH (this.1 h)]
 ·rw[sI h,sI (fun e=>h (this.2 e))]
theorem selem_any(x:OpI)(w:World):
 Calls Tryz.prog 129 #[iH x] w fun e w'=>e=.returned (.agg #[.int .i64 (eV x).1,.int .i64 (eV x).2])∧Below w.heap.size w w':=by
 have hres:Tryz.f129.results=#[.cell 2 48]:=by kernel_rfl
 unfold iH eV elP;have HB:∀u v:Value,Hid (Below w.heap.size w ((w.alloc (.cells #[.int .i64 x.1.k,.int .i64 x.1.on,.int .i64 x.1.oa,.string x.1.key,.int .i64 x.1.en,.int .i64 x.1.ea,.bool x.1.ins,.int .i64 x.1.vk,.int .i64 x.1.vn,.string x.1.vt,.int .i64 x.1.va,.int .i64 x.1.vb,.slice x.1.A x.1.l.length x.1.c,.int .i64 x.2.1,.int .i64 x.2.2] 115)).alloc (.cells #[u,v] 48))):=fun u v=>((sA _ w).alloc (sB _) _).alloc (by simp) _
 obtain⟨b,hb⟩:∃b,x.1.ins=b:=⟨_,rfl⟩
 rw[hb]at HB ⊢;clear hb;cases b with
 |true =>
  go_enter Tryz.func129,Tryz.ntmps129;go_wp2_with fail
  refine bodyPost_ret (v:=.agg #[.int .i64 x.2.1,.int .i64 x.2.2]) ?_ rfl ⟨rfl,(HB _ _).out⟩;simp only[results,hres];go_simp
 |false =>
  go_enter Tryz.func129,Tryz.ntmps129;go_wp2_with fail
  refine bodyPost_ret (v:=.agg #[.int .i64 x.1.en,.int .i64 x.1.ea]) ?_ rfl ⟨rfl,(HB _ _).out⟩;simp only[results,hres];go_simp
theorem qS(x y:OpI)(w:World):
 Calls Tryz.prog 102 #[iH x,iH y] w fun e w'=>e=.returned (.bool (fY x y))∧Below w.heap.size w w':=by
 have H1:=fun W=>selem_any x W
 have H2:=fun W=>selem_any y W
 unfold iH at *;have HQ1:=Hi (Blk.new w 115 #[.int .i64 x.1.k,.int .i64 x.1.on,.int .i64 x.1.oa,.string x.1.key,.int .i64 x.1.en,.int .i64 x.1.ea,.bool x.1.ins,.int .i64 x.1.vk,.int .i64 x.1.vn,.string x.1.vt,.int .i64 x.1.va,.int .i64 x.1.vb,.slice x.1.A x.1.l.length x.1.c,.int .i64 x.2.1,.int .i64 x.2.2]);have HQ2:=Hi (Blk.new (w.alloc (.cells #[.int .i64 x.1.k,.int .i64 x.1.on,.int .i64 x.1.oa,.string x.1.key,.int .i64 x.1.en,.int .i64 x.1.ea,.bool x.1.ins,.int .i64 x.1.vk,.int .i64 x.1.vn,.string x.1.vt,.int .i64 x.1.va,.int .i64 x.1.vb,.slice x.1.A x.1.l.length x.1.c,.int .i64 x.2.1,.int .i64 x.2.2] 115)) 115 #[.int .i64 y.1.k,.int .i64 y.1.on,.int .i64 y.1.oa,.string y.1.key,.int .i64 y.1.en,.int .i64 y.1.ea,.bool y.1.ins,.int .i64 y.1.vk,.int .i64 y.1.vn,.string y.1.vt,.int .i64 y.1.va,.int .i64 y.1.vb,.slice y.1.A y.1.l.length y.1.c,.int .i64 y.2.1,.int .i64 y.2.2]);have HB2:Hid (Below w.heap.size w ((w.alloc (.cells #[.int .i64 x.1.k,.int .i64 x.1.on,.int .i64 x.1.oa,.string x.1.key,.int .i64 x.1.en,.int .i64 x.1.ea,.bool x.1.ins,.int .i64 x.1.vk,.int .i64 x.1.vn,.string x.1.vt,.int .i64 x.1.va,.int .i64 x.1.vb,.slice x.1.A x.1.l.length x.1.c,.int .i64 x.2.1,.int .i64 x.2.2] 115)).alloc (.cells #[.int .i64 y.1.k,.int .i64 y.1.on,.int .i64 y.1.oa,.string y.1.key,.int .i64 y.1.en,.int .i64 y.1.ea,.bool y.1.ins,.int .i64 y.1.vk,.int .i64 y.1.vn,.string y.1.vt,.int .i64 y.1.va,.int .i64 y.1.vb,.slice y.1.A y.1.l.length y.1.c,.int .i64 y.2.1,.int .i64 y.2.2] 115))):=((sA _ w).alloc (sB _) _).alloc (by simp) _;rw[tB]at HQ2;go_enter Tryz.func102,Tryz.ntmps102;go_wp2_with fail
 go_at_call 129;refine(H1 _).mono ?_
 rintro e w3 ⟨rfl,hb⟩;replace HQ1:=Hi ((HQ1.o.keep (sM _ (.cells #[.int .i64 y.1.k,.int .i64 y.1.on,.int .i64 y.1.oa,.string y.1.key,.int .i64 y.1.en,.int .i64 y.1.ea,.bool y.1.ins,.int .i64 y.1.vk,.int .i64 y.1.vn,.string y.1.vt,.int .i64 y.1.va,.int .i64 y.1.vb,.slice y.1.A y.1.l.length y.1.c,.int .i64 y.2.1,.int .i64 y.2.2] 115) _ HQ1.o.lt)).keep (hb.block _ (by rw[tB];exact Nat.lt_succ_of_lt HQ1.o.lt)));replace HQ2:=Hi (HQ2.o.keep (hb.block _ HQ2.o.lt));have HB3:Hid (Below w.heap.size w w3):=HB2.o.trans (hb.mono HB2.o.size);have hs3:w.heap.size+1+1≤w3.heap.size:=by have:=hb.size;rwa [tB,tB]at this
 clear hb H1 HB2;obtain⟨y0,y1,y2,y3,y4,y5,y6,y7,y8,y9,y10,y11,y12,y13,y14⟩:=ce15 HQ2.o
 have hn1:w.heap.size+1<w3.heap.size:=by omega
 go_wp2_with fail
 clear y0 y1 y2 y3 y4 y5 y6 y7 y8 y9 y10 y11 y12 y13 y14;go_at_call 129;refine(H2 _).mono ?_
 rintro e w4 ⟨rfl,hb⟩;generalize hex:eV x=ex at *;generalize hey:eV y=ey at *;have HEX:=Hi hex;have HEY:=Hi hey;clear hex hey;have hbE:=sM w3 (.cells #[.int .i64 ex.1,.int .i64 ex.2] 48);have hlt:∀j,j<w3.heap.size→w4.heap[j]?=w3.heap[j]?:=fun j hj=>(hb.block j (by rw[tB];omega)).trans (hbE j hj)
 replace HQ1:=Hi (HQ1.o.keep (hlt _ HQ1.o.lt));replace HQ2:=Hi (HQ2.o.keep (hlt _ HQ2.o.lt));have HE1:=Hi ((Blk.new w3 48 #[.int .i64 ex.1,.int .i64 ex.2]).keep (hb.block _ (by simp)));have HB4:Hid (Below w.heap.size w w4):=(HB3.o.alloc HB3.o.size _).trans (hb.mono (by rw[tB];omega));have hs4:w3.heap.size+1≤w4.heap.size:=by have:=hb.size;rwa [tB]at this
 clear hb hbE hlt H2 HB3;have HB5:Hid (Below w.heap.size w (w4.alloc (.cells #[.int .i64 ey.1,.int .i64 ey.2] 48))):=HB4.o.alloc HB4.o.size _;have x1:=cZ HQ1.o 1 rfl;have x2:=cZ HQ1.o 2 rfl;have x3:=cZ HQ1.o 3 rfl;have y1:=cZ HQ2.o 1 rfl;have y2:=cZ HQ2.o 2 rfl;have y3:=cZ HQ2.o 3 rfl;obtain⟨z0,z1⟩:=ce2 HE1.o
 have hn2:w.heap.size<w4.heap.size:=by omega
 have hn3:w.heap.size+1<w4.heap.size:=by omega
 have hn4:w3.heap.size<w4.heap.size:=by omega
 have E1:=fun w=>kC x.1.on x.1.oa y.1.on y.1.oa w
 have E2:=fun w=>kC ex.1 ex.2 ey.1 ey.2 w
 have HPL:Hid (fY x y=(((x.1.on == y.1.on&&x.1.oa == y.1.oa)&&(decide (x.1.key.toList=y.1.key.toList)))&&(ex.1 == ey.1&&ex.2 == ey.2))):=by
  show fY x y=_;unfold fY fQ;rw[HEX.o,HEY.o,gR,dec_key,show decide (ex=ey)=_ from gR ex.1 ex.2 ey.1 ey.2]
 generalize (x.1.on == y.1.on&&x.1.oa == y.1.oa)=b1 at *;generalize (ex.1 == ey.1&&ex.2 == ey.2)=b3 at *;cases b1
 ·go_wp2_with fail
  go_ret;exact⟨by rw[HPL.o];rfl,HB5.o⟩
 ·by_cases hk:x.1.key.toList=y.1.key.toList
  ·rw[sH hk]at HPL;go_wp2_with fail
   go_ret;exact⟨by rw[HPL.o];rfl,HB5.o⟩
  ·rw[sI hk]at HPL;go_wp2_with fail
   go_ret;exact⟨by rw[HPL.o];rfl,HB5.o⟩
end
end Go.Proofs.YtjhkcbideddlgaaGreat
