import Derived.Test.YtmpkejflgpodkaaGreatDoorP9
set_option maxHeartbeats 8000000
set_option maxRecDepth 20000
set_option linter.unusedVariables false
set_option linter.unusedSimpArgs false
namespace Go.Proofs.YtmpkejflgpodkaaGreatDoor
open Go.ChangeShapes Go.WideShapes Go.ChangeAt Go.RowKit Go.Proofs.Tryz
variable{D:Nat→Prop}{a s st:Int}{b:List OpD}{hs l out todo w:List Rf}{i k n:Nat}{r:Rf}
theorem nI:(prog.info? 24).map (fun i=>(i.zero,i.size,i.bytes))=some (some (.agg #[.int .i64 0,.int .i64 0]),2,16):=by kernel_rfl
theorem aT{c:Prop}[Decidable c]{a b:Nat}(h:(if c then a else b)=0)(ha:a≠0):¬c∧b=0:=by by_cases hc:c;(·rw[tC hc]at h;exact absurd h ha);(·rw[sT hc]at h;exact⟨hc,h⟩)
theorem id_nat{b:Int}(h:idB a b=true):kM a∧kM b:=by simp only[idB,bL,dA,numB,lX,xT,tL,tK]at h;unfold kM;omega
theorem real_nat{b:Int}(h:dA a b=true):kM a∧kM b:=id_nat (by rw[idB,h,Bool.or_true])
theorem value_good{k n:Int}{t:ByteArray}{b:Int}(h:aG k n t a b=true):kM k∧t.size≤60:=by have he:∀t:ByteArray,t.toList.isEmpty=true→t.size≤60:=fun t ht=>(by rw[Lib.toList_data]at ht;have h0:t.data.toList=[]:=(by simpa using ht);have:t.data.toList.length=0:=(by rw[h0];rfl);rw[uU]at this;rw[ByteArray.size];omega);unfold aG at h;split at h;(·subst_vars;exact⟨⟨by omega,by omega⟩,he t (by simp[cC]at h ⊢;exact h.1.1)⟩);split at h;(·subst_vars;exact⟨⟨by omega,by omega⟩,he t (by simp[cC]at h ⊢;exact h.1.1)⟩);split at h;(·rename_i hk;exact⟨⟨by omega,by omega⟩,he t (by simp[cC]at h ⊢;exact h.1)⟩);split at h;(·subst_vars;exact⟨⟨by omega,by omega⟩,by simp at h;exact h.2⟩);split at h;(·rename_i hk;exact⟨⟨by omega,by omega⟩,he t (by simp at h ⊢;exact h.1.2)⟩);(·cases h)
theorem tail_value{k:Int}{kn root ins pe v kb:Bool}(h:oB k kn root ins pe v kb=0):v=true:=by unfold oB at h;have h1:=(aT h QZ).2;have h2:=(aT h1 QZ).1;simpa using h2
theorem op_good{o:OpD}(h:fT o=0)(hv:(Lit.int .i64 o.vn).wf=true):OpG o:=by unfold fT opE at h;obtain⟨h1,h⟩:=aT h QZ;obtain⟨h2,h⟩:=aT h QZ;obtain⟨h3,h⟩:=aT h QZ;by_cases h4:gD o.l≠0;(·rw[tC h4]at h;exact absurd h h4);rw[sT h4]at h;have hI:idB o.on o.oa=true:=(by cases hx:idB o.on o.oa;(·exact absurd (Or.inr (Or.inr (Or.inl hx))) h1);(·rfl));have hJ:idB o.en o.ea=true:=(by cases hx:idB o.en o.ea;(·exact absurd (Or.inr (Or.inr (Or.inr hx))) h1);(·rfl));have hV:=value_good (tail_value h);have hL:o.l.length≤12:=(by have:gD o.l=0:=QZ;unfold gD at this;have:=(aT this QZ).1;omega);refine⟨?_,(id_nat hI).1,(id_nat hI).2,by omega,(id_nat hJ).1,(id_nat hJ).2,hV.1,hv,hV.2,hL,fun r hr=>?_⟩;(·have:¬o.k<1∧¬4<o.k:=⟨fun hx=>h1 (Or.inl hx),fun hx=>h1 (Or.inr (Or.inl hx))⟩;exact⟨by omega,by omega⟩);(·have:o.l.all (fun r=>dA r.1 r.2)=true:=(by simpa using h2);exact real_nat (uF.1 this r hr))
theorem ops_good:∀ {l:List OpD},gG l=0→(∀o∈l,(Lit.int .i64 o.vn).wf=true)→∀o∈l,OpG o
 | [],_,_,_,h=>by cases h
 |x::l,h,hv,o,ho=>by
  have hx:fT x=0:=by
   by_cases h0:fT x=0
   ·exact h0
   ·simp only[gG,sT h0]at h;exact absurd h h0
  have hr:gG l=0:=by simp only[gG,tC hx]at h;exact h
  rcases sR.1 ho with rfl|ho
  ·exact op_good hx (hv _ QM)
  ·exact ops_good hr (fun o ho=>hv o (by simp[ho])) o ho
theorem refs_good:∀ {l:List Rf} {p:Int},cR p l=0→∀r∈l,kM r.1∧kM r.2
 | [],_,_,_,h=>by cases h
 |x::l,p,h,r,hr=>by
  simp only[cR]at h;obtain⟨h1,h⟩:=aT h QZ
  obtain⟨_,h⟩:=aT h QZ
  rcases sR.1 hr with rfl|hr
  ·have:eR r=true:=by simpa using h1
   simp only[eR,tL,tK]at this;unfold kM;omega
  ·exact refs_good h r hr
theorem chg_good{deps:List Rf}{ops:List OpD}(h:dZ a s st deps ops=0)(hv:∀o∈ops,(Lit.int .i64 o.vn).wf=true):EncG a s st deps ops∧1≤st∧st≤1000000:=by unfold dZ at h;obtain⟨h1,h⟩:=aT h QZ;obtain⟨h2,h⟩:=aT h QZ;by_cases h3:cR 0 deps≠0;(·rw[tC h3]at h;exact absurd h h3);rw[sT h3]at h;obtain⟨h4,h⟩:=aT h QZ;obtain⟨h5,h⟩:=aT h QZ;have hr:eR (a,s)=true:=(by cases hx:eR (a,s);(·exact absurd (Or.inl hx) h1);(·rfl));simp only[eR,tL,tK]at hr;have hs:¬st<1∧¬1000000<st:=⟨fun hx=>h1 (Or.inr (Or.inl hx)),fun hx=>h1 (Or.inr (Or.inr hx))⟩;refine⟨⟨⟨by omega,by omega⟩,⟨by omega,by omega⟩,⟨by omega,by omega⟩,by omega,refs_good (p:=0) QZ,by omega,ops_good h hv⟩,by omega,by omega⟩
def kT(l:List UInt8)(most at_:Nat)(bad:Bool):List UInt8×Nat×Bool :=
 match dI l most at_ bad with
 |(n,a,b)=>if b=true∨l.length-a<n then ([],a,true) else ((l.drop a).take n,a+n,false)
theorem rdText_no{l:List UInt8}{most at_ a:Nat}{bad b:Bool}(h:dI l most at_ bad=(n,a,b))(hc:b=true∨l.length-a<n):kT l most at_ bad=([],a,true):=by unfold kT;rw[h];exact tC hc
theorem rdText_ok{l:List UInt8}{most at_ a:Nat}{bad:Bool}(h:dI l most at_ bad=(n,a,false))(hc:n≤l.length-a):kT l most at_ bad=((l.drop a).take n,a+n,false):=by unfold kT;rw[h];exact sT (by simp;omega)
def kD(l:List UInt8)(m1 m2:Nat)(s:Nat×Bool):Rf×(Nat×Bool) :=
 let x:=dI l m1 s.1 s.2
 let y:=dI l m2 x.2.1 x.2.2
 (((x.1:Int),(y.1:Int)),y.2)
theorem rdPair_of{l:List UInt8}{m1 m2 at_ n1 a1 n2 a2:Nat}{bad b1 b2:Bool}(h1:dI l m1 at_ bad=(n1,a1,b1))(h2:dI l m2 a1 b1=(n2,a2,b2)):kD l m1 m2 (at_,bad)=(((n1:Int),(n2:Int)),(a2,b2)):=by simp only[kD,h1,h2]
def gL(l:List UInt8)(m1 m2:Nat)(s:Nat×Bool):Nat→List Rf×(Nat×Bool)
 |0=>([],s)
 |n+1 =>
  let r:=gL l m1 m2 s n
  let p:=kD l m1 m2 r.2
  (r.1++[p.1],p.2)
theorem rT{l:List UInt8}{m1 m2 a a':Nat}{s:Nat×Bool}{L:List Rf}{b b':Bool}(h:gL l m1 m2 s n=(L,(a,b)))(h1:kD l m1 m2 (a,b)=(r,(a',b'))):gL l m1 m2 s (n+1)=(L++[r],(a',b')):=by rw[gL,h];simp only[h1]
def rdOp(l:List UInt8)(s:Nat×Bool):OpD×(Nat×Bool) :=
 let k:=dI l 4 s.1 s.2
 let ob:=kD l 1000000 99 k.2
 let key:=kT l 20 ob.2.1 ob.2.2
 let el:=kD l 1000000 99 key.2
 let ins:=dI l 1 el.2.1 el.2.2
 let vk:=dI l 6 ins.2.1 ins.2.2
 let vn:=qB l vk.2.1 vk.2.2
 let vt:=kT l 60 vn.2.1 vn.2.2
 let m:=dI l 12 vt.2.1 vt.2.2
 let ps:=gL l 1000000 99 m.2 m.1
 (⟨k.1,ob.1.1,ob.1.2,⟨key.1.toArray⟩,el.1.1,el.1.2,ins.1 == 1,vk.1,vn.1,⟨vt.1.toArray⟩,0,0,none,0,ps.1⟩,ps.2)
def qA(l:List UInt8)(s:Nat×Bool):Nat→List OpD×(Nat×Bool)
 |0=>([],s)
 |n+1 =>
  let r:=qA l s n
  let p:=rdOp l r.2
  (r.1++[p.1],p.2)
theorem rdOps_next{l:List UInt8}{a a':Nat}{s:Nat×Bool}{L:List OpD}{b b':Bool}{r:OpD}(h:qA l s n=(L,(a,b)))(h1:rdOp l (a,b)=(r,(a',b'))):qA l s (n+1)=(L++[r],(a',b')):=by rw[qA,h];simp only[h1]
theorem rdOp_of2{l:List UInt8}{at_ ak ao akey ae ins ain vk avk avn avt m am aps:Nat}{bad bk bo bkey be bin bvk bvn bvt bm bps:Bool}{on oa en ea vn:Int}{key vt:List UInt8}{ps:List Rf} (h1:dI l 4 at_ bad=(k,ak,bk)) (h2:kD l 1000000 99 (ak,bk)=((on,oa),(ao,bo))) (h4:kT l 20 ao bo=(key,akey,bkey)) (h5:kD l 1000000 99 (akey,bkey)=((en,ea),(ae,be))) (h7:dI l 1 ae be=(ins,ain,bin)) (h8:dI l 6 ain bin=(vk,avk,bvk)) (h9:qB l avk bvk=(vn,avn,bvn)) (h10:kT l 60 avn bvn=(vt,avt,bvt)) (h11:dI l 12 avt bvt=(m,am,bm)) (h12:gL l 1000000 99 (am,bm) m=(ps,(aps,bps))) : rdOp l (at_,bad)=(⟨k,on,oa,⟨key.toArray⟩,en,ea,ins == 1,vk,vn,⟨vt.toArray⟩,0,0,none,0,ps⟩,(aps,bps)):=by simp only[rdOp,h1,h2,h4,h5,h7,h8,h9,h10,h11,h12]
def base(o:OpD):OpD:={ o with A:=none,c:=0 }
theorem ops_base{a:List OpD}(h:a.map base=b):b.map base=b:=by subst h;rw[vG];rfl
theorem opsE_base:∀ {a b:List OpD},a.map base=b.map base→gG a=gG b
 | [],[],_=>rfl
 | [],_::_,h=>by simp at h
 |_::_,[],h=>by simp at h
 |x::a,y::b,h=>by
  simp only[tB,wY]at h;have e:fT x=fT y:=by
   have h1:fT x=fT (base x):=rfl;have h2:fT y=fT (base y):=rfl;rw[h1,h2,h.1]
  rw[gG,gG,e,opsE_base h.2]
theorem rY{a:List OpD}(h:a.map base=b.map base):a.length=b.length:=by have:=congrArg List.length h;simpa using this
theorem chgE_base{deps:List Rf}{x y:List OpD}(h:x.map base=y.map base):dZ a s st deps x=dZ a s st deps y:=by unfold dZ;rw[opsE_base h,rY h]
theorem opB_base:∀ {a b:List OpD},a.map base=b.map base→a.flatMap opB=b.flatMap opB
 | [],[],_=>rfl
 | [],_::_,h=>by simp at h
 |_::_,[],h=>by simp at h
 |x::a,y::b,h=>by
  simp only[tB,wY]at h;have e:opB x=opB y:=by
   have h1:opB x=opB (base x):=rfl;have h2:opB y=opB (base y):=rfl;rw[h1,h2,h.1]
  rw[uA,uA,e,opB_base h.2]
theorem encL_base{deps:List Rf}{x y:List OpD}(h:x.map base=y.map base):lH a s st deps x=lH a s st deps y:=by unfold lH;rw[opB_base h,rY h]
structure Rd where
 a:Nat
 s:Nat
 st:Nat
 deps:List Rf
 ops:List OpD
 at_:Nat
 bad:Bool
def rdAll(l:List UInt8):Rd :=
 let a:=dI l 99 0 false
 let s:=dI l 1000000 a.2.1 a.2.2
 let st:=dI l 1000000 s.2.1 s.2.2
 let n:=dI l 12 st.2.1 st.2.2
 let d:=gL l 99 1000000 n.2 n.1
 let m:=dI l 40 d.2.1 d.2.2
 let o:=qA l m.2 m.1
 ⟨a.1,s.1,st.1,d.1,o.1,o.2.1,o.2.2⟩
theorem rdAll_of{l:List UInt8}{a aa s as_ st ast an ad m am ao:Nat}{ba bs bst bn bd bm bo:Bool}{deps:List Rf}{ops:List OpD} (h1:dI l 99 0 false=(a,aa,ba)) (h2:dI l 1000000 aa ba=(s,as_,bs)) (h3:dI l 1000000 as_ bs=(st,ast,bst)) (h4:dI l 12 ast bst=(n,an,bn)) (h5:gL l 99 1000000 (an,bn) n=(deps,(ad,bd))) (h6:dI l 40 ad bd=(m,am,bm)) (h7:qA l (am,bm) m=(ops,(ao,bo))):rdAll l=⟨a,s,st,deps,ops,ao,bo⟩:=by simp only[rdAll,h1,h2,h3,h4,h5,h6,h7]
section
open Go.RowKit
structure ChD where
 a:Int
 s:Int
 st:Int
 deps:List Rf
 DA:Option Addr
 DC:Nat
 ops:List OpD
 OA:Option Addr
 OC:Nat
def ChD.rf(c:ChD):Rf:=(c.a,c.s)
def ChD.err(c:ChD):Nat:=dZ c.a c.s c.st c.deps c.ops
def ChD.enc(c:ChD):List UInt8:=lH c.a c.s c.st c.deps c.ops
def ChD.base(c:ChD):ChD:={ c with DA:=none,DC:=0,ops:=c.ops.map Go.Proofs.YtmpkejflgpodkaaGreatDoor.base,OA:=none,OC:=0 }
abbrev OpI:=OpD×Rf
def eP(a:Int):Int→List OpD→List OpI
 |_,[]=>[]
 |st,o::l=>(o,(st,a))::eP a (st+1) l
def ChD.opsI(c:ChD):List OpI:=eP c.a c.st c.ops
def aD(L:List ChD):List Rf:=L.map ChD.rf
def aN(r q:Rf):Bool:=decide (r.1<q.1∨r.1=q.1∧r.2<q.2)
def eT(l:List Rf)(r:Rf):List Rf:=if r∈l then l else l.takeWhile (fun x=>aN x r)++r::l.dropWhile (fun x=>aN x r)
def lJ(l:List Rf):Prop:=l.Pairwise fun x y=>aN x y=true
def eC:List ChD→List Rf→List Rf
 | [],_=>[]
 |c::L,w=>if c.rf∈w then c.rf::eC L (w++c.deps) else eC L w
def aS(L:List ChD)(hs:List Rf):List Rf:=eC L.reverse hs
def cD(L:List ChD)(R:List Rf):List OpI:=(L.filter fun c=>decide (c.rf∈R)).flatMap ChD.opsI
def cJ(l:List OpI)(n:Rf):Option OpI:=l.find? fun x=>decide (x.2=n)
def dD(x:OpI):Rf:=(x.1.on,x.1.oa)
def elP(x:OpI):Rf:=(x.1.en,x.1.ea)
def dO(x:OpI):Rf:=if x.1.ins then x.2 else elP x
def iC(x y:OpI):Bool:=decide (dD x=dD y)&&decide (x.1.key=y.1.key)&&decide (dO x=dO y)
def fL(x:OpI)(known:List OpI):Option Int :=
 if dD x=(0,0) then some 5 else match cJ known (dD x) with
 |some y=>if y.1.k=2 then some y.1.vk else none
 |none=>none
def nH(x:OpI)(kd:Int):Bool:=!(decide (kd=5)&&decide (x.1.key=⟨#[]⟩)||decide (kd=6)&&decide (x.1.key≠⟨#[]⟩))
def dP(x:OpI)(known:List OpI):Bool :=
 if elP x=(0,0) then true else match cJ known (elP x) with
 |some y=>y.1.ins&&decide (dD y=dD x)
 |none=>false
def bP(x:OpI)(known:List OpI)(p:Rf):Bool :=
 match cJ known p with
 | some y=>!decide (2<y.1.k)&&iC y x&&!(decide (x.1.k=4)&&(decide (y.1.k≠1)||decide (y.1.vk≠4)))
 |none=>false
def dE(x:OpI)(known:List OpI):Bool :=
 match fL x known with
 |some kd=>nH x kd&&dP x known&&x.1.l.all (bP x known)
 |none=>false
def dS:List OpI→List OpI→Bool
 | [],_=>true
 |x::l,known=>dE x known&&dS l (known++[x])
def gC(c:ChD)(B:List Rf):Bool:=B.all fun r=>!(decide (r.1=c.a)&&decide (c.s≤r.2))
def iN(c:ChD)(B:List Rf):Bool:=!(decide (1<c.s)&&!B.any fun r=>decide (r.1=c.a)&&decide (r.2=c.s-1))
def fU(L:List ChD)(c:ChD)(B:List Rf):Bool:=gC c B&&iN c B&&(cD L B).all (fun x=>decide (x.2.1<c.st))&&dS c.opsI (cD L B)
def bY(L:List ChD)(c:ChD):Bool:=fU L c (aS L c.deps)
def bF(L:List ChD)(c:ChD):Bool:=c.deps.all fun d=>decide (d∈aD L)
def iP(p:ChD→Bool):List ChD→Nat→Option (Nat×Rf)→Option (Nat×Rf)
 | [],_,best=>best
 |c::W,i,best=>iP p W (i+1) (if p c&&(match best with|none=>true|some b=>aN c.rf b.2) then some (i,c.rf) else best)
def cP(p:ChD→Bool)(W:List ChD):Option (Nat×Rf):=iP p W 0 none
def cK:Nat→List ChD→List ChD→List ChD×List ChD
 |0,L,W=>(L,W)
 |n+1,L,W=>match cP (bF L) W with
  |none=>(L,W)
  |some (i,_)=>match W[i]? with
   |none=>(L,W)
   |some x=>if bY L x then cK n (L++[x]) (W.eraseIdx i) else cK n L (W.eraseIdx i)
def aZ(L:List ChD)(r:Rf):Option ChD:=L.find? fun c=>decide (c.rf=r)
def gW(c d:ChD):Nat:=if c.enc=d.enc then 0 else 8
def aW(L W:List ChD)(c:ChD):(List ChD×List ChD)×Nat :=
 if c.err≠0 then ((L,W),c.err) else
 match aZ L c.rf with
 |some d=>((L,W),gW d c)
 |none=>match aZ W c.rf with
  |some d=>((L,W),gW d c)
  |none=>if 120≤L.length+W.length then ((L,W),4)
   else if bF L c=false then ((L,W++[c]),0)
   else if bY L c=false then ((L,W),7)
   else (cK W.length (L++[c]) W,0)
def gZ(L out:List ChD)(c:ChD):Bool:=!decide (c.rf∈aD out)&&c.deps.all fun d=>decide (d∈aD out)
def lD(L:List ChD):Nat→List ChD→List ChD
 |0,out=>out
 |n+1,out=>match cP (gZ L out) L with
  |none=>out
  |some (i,_)=>match L[i]? with
   |none=>out
   |some c=>lD L n (out++[c])
def nN(L:List ChD):List ChD:=lD L L.length []
inductive Bk:List ChD→Prop
 |nil:Bk []
 |snoc {L:List ChD} {c:ChD} : Bk L→c.err=0→(∀o∈c.ops,(Lit.int .i64 o.vn).wf=true)→c.rf∉aD L→bF L c=true→bY L c=true→Bk (L++[c])
end
section
open Go.RowKit
theorem rB:∀(L:List ChD) {w w':List Rf},(∀r,r∈w↔r∈w')→eC L w=eC L w'
 | [],_,_,_=>rfl
 |c::L,w,w',h=>by
  have h2:∀r,r∈w++c.deps↔r∈w'++c.deps:=fun r=>by rw[sL,sL,h]
  simp only[eC,h,rB L h2,rB L h]
theorem back_sub:∀ {L:List ChD} {w:List Rf} {r:Rf},r∈eC L w→r∈aD L
 | [],_,_,h=>by simp[eC]at h
 |c::L,w,r,h=>by
  simp only[aD,tB,sR];rw[eC]at h;split at h
  ·rcases sR.1 h with h|h
   ·exact .inl h
   ·exact .inr (back_sub h)
  ·exact .inr (back_sub h)
theorem lC:∀(L:List ChD) (u v:List Rf) (r:Rf),r∈eC L (u++v)↔r∈eC L u∨r∈eC L v
 | [],u,v,r=>by simp[eC]
 |c::L,u,v,r=>by
  have e:∀ {a b:List Rf},(∀r,r∈a↔r∈b)→eC L a=eC L b:=fun h=>rB L h
  by_cases hu:c.rf∈u<;>by_cases hv:c.rf∈v
  ·rw[eC,eC,eC,tC (by simp[hu]),tC hu,tC hv,e (b:=(u++c.deps)++(v++c.deps)) (by intro r;simp only[sL];grind)];rw[sR,sR,sR,lC L];constructor
   ·rintro(h|h|h)
    ·exact .inl (.inl h)
    ·exact .inl (.inr h)
    ·exact .inr (.inr h)
   ·rintro((h|h)|(h|h))
    ·exact .inl h
    ·exact .inr (.inl h)
    ·exact .inl h
    ·exact .inr (.inr h)
  ·rw[eC,eC,eC,tC (by simp[hu]),tC hu,sT hv,e (b:=(u++c.deps)++v) (by intro r;simp only[sL];grind)];rw[sR,sR,lC L,or_assoc]
  ·rw[eC,eC,eC,tC (by simp[hv]),sT hu,tC hv,e (b:=u++(v++c.deps)) (by intro r;simp only[sL];grind)];rw[sR,sR,lC L];constructor
   ·rintro(h|h|h)
    ·exact .inr (.inl h)
    ·exact .inl h
    ·exact .inr (.inr h)
   ·rintro(h|h|h)
    ·exact .inr (.inl h)
    ·exact .inl h
    ·exact .inr (.inr h)
  ·rw[eC,eC,eC,sT (by simp[hu,hv]),sT hu,sT hv,lC L]
theorem back_nil:∀(L:List ChD),eC L []=[]
 | []=>rfl
 |c::L=>by rw[eC,sT QM,back_nil L]
theorem back_each(L:List ChD)(r:Rf):∀(w:List Rf),r∈eC L w↔∃h∈w,r∈eC L [h]
 | []=>by simp[back_nil]
 |x::w=>by
  rw[show x::w=[x]++w from rfl,lC,back_each L r w];simp
theorem mP:∀ {L:List ChD} {w:List Rf} {r:Rf},r∈w→r∈aD L→r∈eC L w
 | [],_,_,_,h=>by simp[aD]at h
 |c::L,w,r,hw,h=>by
  rw[eC];simp only[aD,tB,sR]at h;split
  ·rcases h with h|h
   ·rw[h];exact tE ..
   ·exact tZ _ (mP (tP _ hw) h)
  ·rename_i hc;rcases h with h|h
   ·rw[h]at hw;exact absurd hw hc
   ·exact mP hw h
def TopR:List ChD→Prop
 | []=>True
 |c::L=>(∀d∈c.deps,d∈aD L)∧c.rf∉aD L∧TopR L
theorem cO{L:List ChD}{c:ChD}(h:c∈L):c.rf∈aD L:=uG h
theorem gJ:∀ {L:List ChD} {w:List Rf},TopR L→∀ {c:ChD},c∈L→c.rf∈eC L w→∀ {d:Rf},d∈c.deps→d∈eC L w
 | [],_,_,_,h,_,_,_=>by cases h
 |x::L,w,⟨h1,h2,h3⟩,c,hc,hb,d,hd=>by
  rw[eC]at hb ⊢;by_cases hx:x.rf∈w
  ·rw[tC hx]at hb ⊢;rcases sR.1 hc with e|hc
   ·subst e;exact tZ _ (mP (uM _ hd) (h1 d hd))
   ·rcases sR.1 hb with e|hb
    ·exact absurd (e▸cO hc) h2
    ·exact tZ _ (gJ h3 hc hb hd)
  ·rw[sT hx]at hb ⊢;rcases sR.1 hc with e|hc
   ·subst e;exact absurd (back_sub hb) h2
   ·exact gJ h3 hc hb hd
theorem jM:∀ {L:List ChD} {w:List Rf} (S:Rf→Prop),(∀r∈w,r∈aD L→S r)→(∀c∈L,S c.rf→∀d∈c.deps,d∈aD L→S d)→∀r∈eC L w,S r
 | [],_,_,_,_,r,h=>by simp[eC]at h
 |x::L,w,S,h1,h2,r,h=>by
  have hr:∀ {r},r∈aD L→r∈aD (x::L):=fun h=>by simp only[aD,tB,sR];exact .inr h
  have h2':∀c∈L,S c.rf→∀d∈c.deps,d∈aD L→S d:=fun c hc hs d hd hm=>h2 c (tZ _ hc) hs d hd (hr hm)
  rw[eC]at h;split at h
  ·rename_i hx;have hSx:S x.rf:=h1 _ hx (cO (tE ..));rcases sR.1 h with h|h
   ·rw[h];exact hSx
   ·refine jM (L:=L) S (fun r hr' hm=>?_) h2' r h;rcases sL.1 hr' with h'|h'
    ·exact h1 r h' (hr hm)
    ·exact h2 x (tE ..) hSx r h' (hr hm)
  ·exact jM (L:=L) S (fun r hr' hm=>h1 r hr' (hr hm)) h2' r h
theorem back_trans{L:List ChD}(ht:TopR L){q:Rf}(hq:q∈eC L w)(hr:r∈eC L [q]):r∈eC L w:=by refine jM (fun r=>r∈eC L w) (fun x hx _=>?_) (fun c hc hs d hd _=>gJ ht hc hs hd) r hr;rw[sV.1 hx];exact hq
theorem cX(A B:List ChD):aD (A++B)=aD A++aD B:=by simp[aD]
theorem dU(A:List ChD):aD A.reverse=(aD A).reverse:=by simp[aD]
theorem iE{L:List ChD}{c:ChD}(h:bF L c=true):∀d∈c.deps,d∈aD L:=fun d hd=>by
 have:=uF.1 h d hd
 simpa using this
theorem Bk.top{L:List ChD}(h:Bk L):TopR L.reverse:=by (induction h with|nil=>trivial| @snoc L c hb _ _ hn hr _ ih =>rw[wM];show TopR (c::L.reverse);exact⟨fun d hd=>by rw[dU];exact vD.2 (iE hr d hd),by rw[dU];exact fun h=>hn (vD.1 h),ih⟩)
theorem Bk.nodup{L:List ChD}(h:Bk L):(aD L).Nodup:=by (induction h with|nil=>simp[aD]| @snoc L c hb _ _ hn hr _ ih =>rw[cX,uE];refine⟨ih,by simp[aD],fun a ha b hb' e=>?_⟩;simp[aD]at hb';exact hn (by rw[←hb',←e];exact ha))
theorem Bk.err{L:List ChD}(h:Bk L):∀c∈L,c.err=0∧∀o∈c.ops,(Lit.int .i64 o.vn).wf=true:=by (induction h with|nil=>intro c hc;cases hc| @snoc L c hb he hw hn hr _ ih =>intro x hx;rcases sL.1 hx with hx|hx;(·exact ih x hx);(·rw[sV.1 hx];exact⟨he,hw⟩))
theorem lR(L:List ChD)(c:ChD)(hs:List Rf):aS (L++[c]) hs=if c.rf∈hs then c.rf::aS L (hs++c.deps) else aS L hs:=by unfold aS;rw[wM];rfl
theorem bW{L:List ChD}(h:r∈aS L hs):r∈aD L:=by have:=back_sub h;rw[dU]at this;exact vD.1 this
theorem pB{L:List ChD}(h:r∈hs)(hm:r∈aD L):r∈aS L hs:=mP h (by rw[dU];exact vD.2 hm)
theorem Bk.deps{L:List ChD}(h:Bk L):∀c∈L,∀d∈c.deps,d∈aD L:=by (induction h with|nil=>intro c hc;cases hc| @snoc L c hb he hw hn hr _ ih =>intro x hx d hd;rw[cX];rcases sL.1 hx with hx|hx;(·exact tP _ (ih x hx d hd));(·rw[sV.1 hx]at hd;exact tP _ (iE hr d hd)))
theorem Bk.chain{L:List ChD}(h:Bk L):∀c∈L,∀s,1≤s→s<c.s→(c.a,s)∈aS L c.deps:=by (induction h with|nil=>intro c hc;cases hc| @snoc L c hb he hw hn hr hf ih =>intro x hx s h1 hs;have hnot:∀ {hs:List Rf},(∀r∈hs,r∈aD L)→aS (L++[c]) hs=aS L hs:=fun hh=>(by rw[lR,sT (fun e=>hn (hh _ e))]);rcases sL.1 hx with hx|hx;(·rw[hnot (hb.deps x hx)];exact ih x hx s h1 hs);(·obtain rfl:x=c:=sV.1 hx;rw[hnot (iE hr)];have hp:iN x (aS L x.deps)=true:=(by simp only[bY,fU,tL]at hf;exact hf.1.1.2);have h1s:1<x.s:=QZ;have hq:(x.a,x.s-1)∈aS L x.deps:=(by simp only[iN,h1s,decide_true,wR,Bool.not_not,xF,tL,tK]at hp;obtain⟨r,hr',e1,e2⟩:=hp;have:r=(x.a,x.s-1):=(by rw[←e1,←e2]);rw[←this];exact hr');by_cases e:s=x.s-1;(·rw[e];exact hq);(·obtain⟨y,hy,ey⟩:=sJ.1 (bW hq);have ea:y.a=x.a:=congrArg Prod.fst ey;have es:y.s=x.s-1:=congrArg Prod.snd ey;have h2:=ih y hy s h1 QZ;rw[ea]at h2;have h3:(x.a,s)∈eC L.reverse [y.rf]:=(by obtain⟨d,hd,h4⟩:=(back_each L.reverse _ _).1 h2;exact back_trans hb.top (gJ hb.top (vD.2 hy) (mP QM (by rw[dU];exact vD.2 (cO hy))) hd) h4);exact back_trans hb.top hq (by rw[←ey];exact h3))))
theorem dF: ∀ {l:List OpD} {st:Int} {x:OpI},x∈eP a st l→x.2.2=a∧st≤x.2.1∧x.2.1<st+l.length∧x.1∈l
 | [],_,_,h=>by cases h
 |o::l,st,x,h=>by
  rcases sR.1 h with rfl|h
  ·exact⟨rfl,Int.le_refl _,by simp only[sN];omega,tE ..⟩
  ·obtain⟨h1,h2,h3,h4⟩:=dF h
   exact⟨h1,by omega,by simp only[sN];omega,tZ _ h4⟩
theorem jQ(a:Int):∀(l:List OpD) (st:Int),((eP a st l).map Prod.snd).Nodup
 | [],_=>by simp[eP]
 |o::l,st=>by
  rw[eP,tB,uB];refine⟨fun h=>?_,jQ a l _⟩
  obtain⟨x,hx,e⟩:=sJ.1 h
  have:=(dF hx).2.1
  rw[e]at this;simp only at this;omega
theorem Bk.less{L:List ChD}(h:Bk L):∀c∈L,∀b∈L,b.rf∈aS L c.deps→∀x∈b.opsI,x.2.1<c.st:=by (induction h with|nil=>intro c hc;cases hc| @snoc L c hb he hw hn hr hf ih =>intro y hy b hbm hbb x hx;have hnot:∀ {hs:List Rf},(∀r∈hs,r∈aD L)→aS (L++[c]) hs=aS L hs:=fun hh=>(by rw[lR,sT (fun e=>hn (hh _ e))]);have hd:∀d∈y.deps,d∈aD L:=(by rcases sL.1 hy with hy|hy;(·exact hb.deps y hy);(·rw[sV.1 hy];exact iE hr));rw[hnot hd]at hbb;have hbL:b∈L:=(by rcases sL.1 hbm with h|h;(·exact h);(·rw[sV.1 h]at hbb;exact absurd (bW hbb) hn));rcases sL.1 hy with hy|hy;(·exact ih y hy b hbL hbb x hx);(·rw[sV.1 hy]at hbb ⊢;have h1:(cD L (aS L c.deps)).all (fun x=>decide (x.2.1<c.st))=true:=(by simp only[bY,fU,tL]at hf;exact hf.1.2);have h2:=uF.1 h1 x (wG.2 ⟨b,tV.2 ⟨hbL,by simpa using hbb⟩,hx⟩);simpa using h2))
theorem qZ{c:ChD}(h:c.err=0):eR c.rf=true∧1≤c.st:=by unfold ChD.err dZ at h;obtain⟨h1,h⟩:=aT h QZ;exact⟨by cases hx:eR c.rf;exact absurd (Or.inl hx) h1;rfl,by omega⟩
theorem jY(h:eR r=true):(1≤r.1∧r.1≤99)∧1≤r.2∧r.2≤1000000:=by simpa[eR] using h
theorem Bk.ids{L:List ChD}(h:Bk L):((L.flatMap ChD.opsI).map Prod.snd).Nodup:=by have key:∀c∈L,∀b∈L,b.a=c.a→b.s<c.s→∀x∈b.opsI,x.2.1<c.st:=fun c hc b hb' ea es x hx=>(by have h1:=(jY (qZ (h.err b hb').1).1).2.1;have h2:=h.chain c hc b.s h1 es;rw[←ea]at h2;exact h.less c hc b hb' h2 x hx);have hn:=h.nodup;have:L.Pairwise fun b c=>b.rf≠c.rf:=(by rw[aD,List.Nodup,vC]at hn;exact hn);have h2:L.Pairwise fun b c=>b∈L∧c∈L∧b.rf≠c.rf:=this.imp_of_mem fun hb hc hne=>⟨hb,hc,hne⟩;rw[List.Nodup,vC,List.pairwise_flatMap];refine⟨fun c hc=>?_,h2.imp fun {b c} ⟨hb,hc,hne⟩ x hx y hy e=>?_⟩;(·have:=jQ c.a c.ops c.st;rw[List.Nodup,vC]at this;exact this);(·have h3:=dF hx;have h4:=dF hy;have ea:b.a=c.a:=(by rw[←h3.1,←h4.1,e]);have en:x.2.1=y.2.1:=(by rw[e]);rcases Int.lt_trichotomy b.s c.s with hs|hs|hs;(·have:=key c hc b hb ea hs x hx;omega);(·exact hne (by unfold ChD.rf;rw[ea,hs]));(·have:=key b hb c hc ea.symm hs y hy;omega))
/-! ### the least of those that may be taken -/
theorem iW{a b c:Rf}(h1:aN a b=true)(h2:aN b c=true):aN a c=true:=by simp only[aN,tK]at *;omega
theorem eH(a:Rf):aN a a=false:=by simp only[aN,decide_eq_false_iff_not];omega
theorem kL{a b:Rf}(h:a≠b):aN a b=true∨aN b a=true:=by obtain⟨a1,a2⟩:=a;obtain⟨b1,b2⟩:=b;simp only[aN,tK,ne_eq,vN]at *;omega
def LeastOf(p:ChD→Bool)(W:List ChD)(best:Option (Nat×Rf)):Prop :=
 match best with
 |none=>∀c∈W,p c=false
 |some (i,r)=>∃c,W[i]?=some c∧c.rf=r∧p c=true∧∀d∈W,p d=true→aN d.rf r=false
theorem leastGo_of(p:ChD→Bool):∀(W V:List ChD) (best:Option (Nat×Rf)),LeastOf p V best→LeastOf p (V++W) (iP p W V.length best)
 | [],V,best,h=>by simpa[iP] using h
 |c::W,V,best,h=>by
  unfold iP;have e:V++c::W=(V++[c])++W:=by simp
  have el:V.length+1=(V++[c]).length:=by simp
  rw[e,el];refine leastGo_of p W (V++[c]) _ ?_;cases hp:p c with
  |false =>
   simp only[wU,vP,if_false];cases best with
   |none =>
    intro d hd;rcases sL.1 hd with hd|hd
    ·exact h d hd
    ·rw[sV.1 hd];exact hp
   |some b =>
    obtain⟨i,r⟩:=b
    obtain⟨x,h1,h2,h3,h4⟩:=h
    refine⟨x,by rw[tR (sI.1 h1).1];exact h1,h2,h3,fun d hd hpd=>?_⟩
    rcases sL.1 hd with hd|hd
    ·exact h4 d hd hpd
    ·rw[sV.1 hd,hp]at hpd;cases hpd
  |true =>
   cases best with
   |none =>
    simp only[Bool.and_self,if_true];refine⟨c,by simp,rfl,hp,fun d hd hpd=>?_⟩
    rcases sL.1 hd with hd|hd
    ·rw[h d hd]at hpd;cases hpd
    ·rw[sV.1 hd];exact eH _
   |some b =>
    obtain⟨i,r⟩:=b
    obtain⟨x,h1,h2,h3,h4⟩:=h
    simp only[wR];cases ha:aN c.rf r with
    |true =>
     rw[tC rfl];refine⟨c,by simp,rfl,hp,fun d hd hpd=>?_⟩
     rcases sL.1 hd with hd|hd
     ·cases hx:aN d.rf c.rf with
      |false=>rfl
      |true=>have:=iW hx ha;rw[h4 d hd hpd]at this;cases this
     ·rw[sV.1 hd];exact eH _
    |false =>
     rw[sT QM];refine⟨x,by rw[tR (sI.1 h1).1];exact h1,h2,h3,fun d hd hpd=>?_⟩
     rcases sL.1 hd with hd|hd
     ·exact h4 d hd hpd
     ·rw[sV.1 hd];exact ha
theorem leastAt_of(p:ChD→Bool)(W:List ChD):LeastOf p W (cP p W):=by have:=leastGo_of p W [] none (fun c hc=>by cases hc);simpa[cP] using this
theorem rZ{p:ChD→Bool}{W:List ChD}(h:cP p W=none):∀c∈W,p c=false:=by have:=leastAt_of p W;rw[h]at this;exact this
theorem gM{p:ChD→Bool}{W:List ChD}(h:cP p W=some (i,r)):∃c,W[i]?=some c∧c.rf=r∧p c=true∧∀d∈W,p d=true→aN d.rf r=false:=by have:=leastAt_of p W;rw[h]at this;exact this
theorem leastAt_is{p:ChD→Bool}{W:List ChD}(hn:(aD W).Nodup){c:ChD}(hi:W[i]?=some c)(hp:p c=true)(hl:∀d∈W,p d=true→aN d.rf c.rf=false):cP p W=some (i,c.rf):=by (cases h:cP p W with|none=>have:=rZ h c (sM hi);rw[hp]at this;cases this|some b =>obtain⟨j,r⟩:=b;obtain⟨d,h1,h2,h3,h4⟩:=gM h;have e:d.rf=c.rf:=(by by_cases e:d.rf=c.rf;(·exact e);(·rcases kL e with h|h;(·rw[hl d (sM h1) h3]at h;cases h);(·rw[←h2]at h4;rw[h4 c (sM hi) hp]at h;cases h)));have hij:i=j:=(by have e1:(aD W)[i]?=some c.rf:=(by simp[aD,hi]);have e2:(aD W)[j]?=some c.rf:=(by simp[aD,h1,e]);obtain⟨l1,e1⟩:=sI.1 e1;obtain⟨l2,e2⟩:=sI.1 e2;exact(List.getElem_inj hn).1 (e1.trans e2.symm));rw[hij,←h2,e])
/-! ### what a book keeps to -/
structure Inv(L W:List ChD):Prop where
 bk:Bk L
 good:∀c∈W,c.err=0∧∀o∈c.ops,(Lit.int .i64 o.vn).wf=true
 nd:(aD W).Nodup
 apart:∀c∈W,c.rf∉aD L
 most:L.length+W.length≤120
theorem Inv.nil:Inv [] []:=⟨.nil,by simp,by simp[aD],by simp,by simp⟩
theorem cN{L:List ChD}: aZ L r=none↔r∉aD L:=by unfold aZ aD;rw[vI];constructor;(·intro h hm;obtain⟨c,hc,e⟩:=sJ.1 hm;exact h c hc (by simpa using e));(·intro h c hc e;exact h (sJ.2 ⟨c,hc,by simpa using e⟩))
theorem cT{L:List ChD}{c:ChD}(h:aZ L r=some c):c∈L∧c.rf=r:=⟨uQ h,by simpa using wE h⟩
theorem dY{α:Type}{l:List α}{x:α}(h:x∈l.eraseIdx i):x∈l:=(yF _ _).subset h
theorem eraseIdx_refs(W:List ChD)(i:Nat):aD (W.eraseIdx i)=(aD W).eraseIdx i:=by unfold aD;(induction W generalizing i with|nil=>rfl|cons x W ih=>(cases i with|zero=>rfl|succ i=>simp only[List.eraseIdx_cons_succ,tB,ih]))
theorem erased_not{W:List ChD}(hn:(aD W).Nodup){x:ChD}(hi:W[i]?=some x):∀c∈W.eraseIdx i,c.rf≠x.rf:=by intro c hc e;obtain⟨j,hne,hj⟩:=List.mem_eraseIdx_iff_getElem?.1 hc;have e1:(aD W)[i]?=some x.rf:=(by simp[aD,hi]);have e2:(aD W)[j]?=some x.rf:=(by simp[aD,hj,e]);obtain⟨l1,e1⟩:=sI.1 e1;obtain⟨l2,e2⟩:=sI.1 e2;exact hne ((List.getElem_inj hn).1 (e2.trans e1.symm))
theorem Inv.drop{L W:List ChD}(h:Inv L W)(i:Nat):Inv L (W.eraseIdx i) :=
 ⟨h.bk,fun c hc=>h.good c (dY hc),by rw[eraseIdx_refs];exact h.nd.sublist (yF _ _),fun c hc=>h.apart c (dY hc),by
  have:=h.most;have:=List.length_eraseIdx_le W i;omega⟩
theorem Inv.move{L W:List ChD}(h:Inv L W){x:ChD}(hi:W[i]?=some x)(hr:bF L x=true)(hf:bY L x=true):Inv (L++[x]) (W.eraseIdx i):=by have hx:=sM hi;have hd:=h.drop i;refine⟨.snoc h.bk (h.good x hx).1 (h.good x hx).2 (h.apart x hx) hr hf,hd.good,hd.nd,fun c hc=>?_,?_⟩;(·rw[cX];intro hm;rcases sL.1 hm with hm|hm;(·exact hd.apart c hc hm);(·exact erased_not h.nd hi c hc (by simpa[aD] using hm)));(·have:=h.most;have h1:=(sI.1 hi).1;have h2:=vR h1;rw[sF,h2];simp only[sN,tT];omega)
theorem qM:∀(n:Nat) {L W:List ChD},Inv L W→Inv (cK n L W).1 (cK n L W).2
 |0,_,_,h=>h
 |n+1,L,W,h=>by
  rw[cK];cases hl:cP (bF L) W with
  |none=>exact h
  |some b =>
   obtain⟨i,r⟩:=b
   obtain⟨x,hi,_,hr,_⟩:=gM hl
   simp only[hi];cases hf:bY L x with
   |true=>rw[tC rfl];exact qM n (h.move hi hr hf)
   |false=>rw[sT QM];exact qM n (h.drop i)
theorem takeP_inv{L W:List ChD}(h:Inv L W){c:ChD}(hw:∀o∈c.ops,(Lit.int .i64 o.vn).wf=true):Inv (aW L W c).1.1 (aW L W c).1.2:=by unfold aW;by_cases he:c.err≠0;(·rw[tC he];exact h);rw[sT he];(cases h1:aZ L c.rf with|some d=>exact h|none =>simp only;(cases h2:aZ W c.rf with|some d=>exact h|none =>simp only;by_cases h3:120≤L.length+W.length;(·rw[tC h3];exact h);rw[sT h3];have n1:=cN.1 h1;have n2:=cN.1 h2;have he':c.err=0:=QZ;(cases hr:bF L c with|false =>rw[tC rfl];refine⟨h.bk,fun x hx=>?_,?_,fun x hx=>?_,by simp;omega⟩;(·rcases sL.1 hx with hx|hx;(·exact h.good x hx);(·rw[sV.1 hx];exact⟨he',hw⟩));(·rw[cX,uE];refine⟨h.nd,by simp[aD],fun a ha b hb e=>?_⟩;simp[aD]at hb;exact n2 (by rw[←hb,←e];exact ha));(·rcases sL.1 hx with hx|hx;(·exact h.apart x hx);(·rw[sV.1 hx];exact n1))|true =>rw[sT QM];(cases hf:bY L c with|false=>rw[tC rfl];exact h|true =>rw[sT QM];refine qM _ ⟨.snoc h.bk he' hw n1 hr hf,h.good,h.nd,fun x hx=>?_,by simp;omega⟩;rw[cX];intro hm;rcases sL.1 hm with hm|hm;(·exact h.apart x hx hm);(·simp[aD]at hm;exact n2 (by rw[←hm];exact cO hx))))))
end
def ChD.cells(c:ChD):List Value:=[.int .i64 c.a,.int .i64 c.s,.int .i64 c.st,.slice c.DA c.deps.length c.DC,.slice c.OA c.ops.length c.OC]
def ChD.v(c:ChD):Value:=.agg #[c.a,c.s,c.st,.slice c.DA c.deps.length c.DC,.slice c.OA c.ops.length c.OC]
def bU(L:List ChD):List Value:=L.flatMap ChD.cells
theorem lQ(a b:List ChD):bU (a++b)=bU a++bU b:=by simp[bU]
theorem aU:∀ {L:List ChD} {k:Nat} {c:ChD},L[k]?=some c→∀i,i<5→(bU L)[k*5+i]?=c.cells[i]?
 | [],k,r,h=>by simp at h
 |x::l,0,o,h=>fun i hi=>by
  simp at h;subst h;simp only[bU,uA,xQ,vQ];exact tR (by simp only[ChD.cells,sN,tT];omega)
 |x::l,k+1,o,h=>fun i hi=>by
  have ih:=aU (L:=l) (k:=k) (by simpa using h) i hi;have e:bU (x::l)=x.cells++bU l:=by simp[bU]
  have hx:x.cells.length=5:=by simp[ChD.cells]
  rw[e,tQ (by rw[hx];omega),hx,show(k+1)*5+i-5=k*5+i from by omega];exact ih
set_option maxRecDepth 100000 in
theorem eq_ref(a b c d:Int)(w:World):(Op.equalIn 10000 77 (.agg #[a,b]) (.agg #[c,d])).run prog w=.ok (decide ((a,b)=(c,d))) w:=by have hS:prog.underlying 77=some (.struct (prog.fieldsOf 77)):=QQ;have hp:prog.stoodInHeld 77=false:=QQ;rw[show(10000:Nat)=9999+1 from rfl,run_equalIn_agg w 9999 77 _ _ hS hp];simp only[Program.fieldsOf,underlying77];go_simp;by_cases h1:a=c<;>by_cases h2:b=d<;>simp[h1,h2]
theorem mB(a s:Int)(v2 v3 v4:Value)(w:World)(h2:v2.oneCell'=true)(h3:v3.oneCell'=true)(h4:v4.oneCell'=true): Calls prog 27 #[.agg #[a,s,v2,v3,v4]] w fun e w'=>e=.returned (.agg #[a,s])∧Below w w w':=by have hres:Tryz.f27.results=#[.cell 2 77]:=QQ;go_enter func27,ntmps27;go_wp2_with fail;refine bodyPost_ret (v:=.agg #[a,s]) ?_ rfl ⟨rfl,?_⟩;(·simp only[results,hres];go_simp);(·exact((sD _ w).alloc (sE _) _).alloc QM _)
theorem ahead_any(r q:Rf)(w:World):Calls prog 55 #[bD r,bD q] w fun e w'=>e=.returned (.bool (aN r q))∧Below w w w':=by obtain⟨a,b⟩:=r;obtain⟨c,d⟩:=q;simp only[bD,aN];have HB:Hid (Below w w ((w.alloc (.cells #[a,b] 77)).alloc (.cells #[c,d] 77))):=((sD _ w).alloc (sE _) _).alloc QM _;by_cases h1:a=c;(·subst h1;have e:decide (a<a∨a=a∧b<d)=decide (b<d):=QM;rw[e];go_enter func55,ntmps55;go_wp2_with fail;go_ret;exact⟨rfl,HB.o⟩);(·have e:decide (a<c∨a=c∧b<d)=decide (a<c):=(by simp[h1]);rw[e];go_enter func55,ntmps55;go_wp2_with fail;go_ret;exact⟨rfl,HB.o⟩)
theorem has_step{x:Rf}(hx:l[k]?=some x)(h:r∉l.take k)(hne:x≠r):r∉l.take (k+1):=by rw[sY,hx];simp only[uN,sL,sV,not_or];exact⟨h,fun e=>hne e.symm⟩
theorem rN(l:List Rf)(r:Rf)(D:Nat→Prop)(A:Option Addr)(c:Nat)(w:World)(hr:aA D w 2 A l.length (aF l))(hD:∀k,D k→k<w.heap.size)(hl:l.length≤9223372036854775807): Calls prog 56 #[.slice A l.length c,.agg #[r.1,r.2]] w fun e w'=>e=.returned (.bool (decide (r∈l)))∧Below w w w':=by obtain⟨n,hn⟩:=QX l.length;have HN:=Hi hn;have HR0:=Hi (hr.keep (w':=w.alloc (.cells #[r.1,r.2] 77)) fun k hk=>sX _ _ k (hD k hk));have HB0:Hid (Below w w (w.alloc (.cells #[r.1,r.2] 77))):=(sD _ w).alloc (sE _) _;have hQ:=Blk.new w 77 #[r.1,r.2];have HC0:=Hi (And.intro (hQ.cell 0) (hQ.cell 1));rw[hn]at hl ⊢;clear hn hr hD hQ;go_enter func56,ntmps56;go_wp2_with fail;generalize w.alloc (.cells #[r.1,r.2] 77)=V at *;go_loopw [5] (fun s5 wr=>∃k:Nat,s5=.int .i64 k∧k≤n∧Hid (r∉l.take k)∧∃m,wr=V.drewN m) (fun s5 _=>n-(intOf s5).toNat);(case atStart=>exact⟨0,rfl,by omega,by show r∉_;simp,0,rfl⟩);(case round =>obtain⟨k,rfl,hk,HI,m,rfl⟩:=hrel;by_cases hlt:k<n;(·obtain⟨b1,o1,rfl,-,hc1⟩:=HR0.o.at_ (by rw[HN.o];omega) QZ;obtain⟨x,hx⟩:∃x,l[k]?=some x:=⟨_,sG (by rw[HN.o];exact hlt)⟩;have x1:V.cell? ⟨b1,o1+k*2,none⟩=some (.int .i64 x.1):=hc1 _ _ (aL hx).1;have x2:V.cell? ⟨b1,o1+k*2+1,none⟩=some (.int .i64 x.2):=hc1 _ _ (aL hx).2;have y1:V.cell? ⟨w.heap.size,0,none⟩=some (.int .i64 r.1):=HC0.o.1;have y2:V.cell? ⟨w.heap.size,1,none⟩=some (.int .i64 r.2):=HC0.o.2;have HX:=Hi hx;have E:=fun w=>eq_ref x.1 x.2 r.1 r.2 w;by_cases hxr:x=r;(·have HE:Hid (decide (r∈l)=true):=sQ (by rw[←hxr];exact sM hx);have e1:decide ((x.1,x.2)=(r.1,r.2))=true:=sQ hxr;rw[e1]at E;clear hc1 hx hxr e1;go_wp2_with fail;go_quiet (fail);go_wp2_with fail;go_ret;exact⟨by rw[HE.o];rfl,by rw[tY];exact aI HB0.o _⟩);(·have e1:decide ((x.1,x.2)=(r.1,r.2))=false:=sO hxr;rw[e1]at E;have HE:Hid (r∉l.take (k+1)):=has_step hx HI.o hxr;clear hc1 hx hxr e1;go_wp2_with fail;go_quiet (fail);change Exit.then _ _ _ _ ((V.drewN m).drewN nq);have HW:Hid ((V.drewN m).drewN nq=V.drewN (m+nq)):=(by show _=_;rw[tY]);generalize (V.drewN m).drewN nq=w3 at HW ⊢;clear x1 x2 y1 y2;go_wp2_with fail;go_roundw;(case rel=>exact⟨k+1,by go_num,by omega,HE,_,HW.o⟩);(case measure=>simp[intOf];omega)));(·have HE:Hid (decide (r∈l)=false):=sO (by have:=HI.o;rwa [sS (by rw[HN.o];omega)]at this);go_wp2_with fail;go_ret;exact⟨by rw[HE.o];rfl,aI HB0.o _⟩))
theorem oY{L:List ChD}{x:ChD}(hx:L[k]?=some x)(h:r∉aD (L.take k))(hne:x.rf≠r):r∉aD (L.take (k+1)):=by rw[sY,hx,cX];simp only[uN,sL,not_or];exact⟨h,fun e=>hne (sV.1 e).symm⟩
theorem find_hit{L:List ChD}{x:ChD}(hx:L[k]?=some x)(h:r∉aD (L.take k))(he:x.rf=r):aZ L r=some x:=by obtain⟨hk,hx'⟩:=sI.1 hx;have e:L=L.take k++x::L.drop (k+1):=(by rw[←hx',yD,uV]);unfold aZ;rw[e,xW];have h1:(L.take k).find? (fun c=>decide (c.rf=r))=none:=cN.2 h;rw[h1];simp[he]
def FindI(L:List ChD)(r:Rf)(i:Int):Prop:=(i=-1∧r∉aD L)∨∃(k:Nat) (c:ChD),i=(k:Int)∧L[k]?=some c∧aZ L r=some c
theorem mC(L:List ChD)(r:Rf)(D:Nat→Prop)(A:Option Addr)(c:Nat)(w:World)(hr:aA D w 5 A L.length (bU L))(hD:∀k,D k→k<w.heap.size)(hl:L.length≤9223372036854775807): Calls prog 26 #[.slice A L.length c,.agg #[r.1,r.2]] w fun e w'=>∃i,e=.returned (.int .i64 i)∧FindI L r i∧Below w w w':=by obtain⟨n,hn⟩:=QX L.length;have HN:=Hi hn;have HR0:=Hi (hr.keep (w':=w.alloc (.cells #[r.1,r.2] 77)) fun k hk=>sX _ _ k (hD k hk));have HB0:Hid (Below w w (w.alloc (.cells #[r.1,r.2] 77))):=(sD _ w).alloc (sE _) _;have hQ:=Blk.new w 77 #[r.1,r.2];have HC0:=Hi (And.intro (hQ.cell 0) (hQ.cell 1));rw[hn]at hl ⊢;clear hn hr hD hQ;go_enter func26,ntmps26;go_wp2_with fail;generalize w.alloc (.cells #[r.1,r.2] 77)=V at *;go_loopw [5] (fun s5 wr=>∃k:Nat,s5=.int .i64 k∧k≤n∧Hid (r∉aD (L.take k))∧∃m,wr=V.drewN m) (fun s5 _=>n-(intOf s5).toNat);(case atStart=>exact⟨0,rfl,by omega,by show r∉_;simp[aD],0,rfl⟩);(case round =>obtain⟨k,rfl,hk,HI,m,rfl⟩:=hrel;by_cases hlt:k<n;(·obtain⟨b1,o1,rfl,-,hc1⟩:=HR0.o.at_ (by rw[HN.o];omega) QZ;obtain⟨x,hx⟩:∃x,L[k]?=some x:=⟨_,sG (by rw[HN.o];exact hlt)⟩;have x1:V.cell? ⟨b1,o1+k*5,none⟩=some (.int .i64 x.a):=hc1 _ _ (aU hx 0 QZ);have x2:V.cell? ⟨b1,o1+k*5+1,none⟩=some (.int .i64 x.s):=hc1 _ _ (aU hx 1 QZ);have y1:V.cell? ⟨w.heap.size,0,none⟩=some (.int .i64 r.1):=HC0.o.1;have y2:V.cell? ⟨w.heap.size,1,none⟩=some (.int .i64 r.2):=HC0.o.2;have HX:=Hi hx;by_cases h1:x.a=r.1;(·have e1:(x.a == r.1)=true:=(by simp[h1]);by_cases h2:x.s=r.2;(·have e2:(x.s == r.2)=true:=(by simp[h2]);have HE:=Hi (find_hit hx HI.o (by unfold ChD.rf;rw[h1,h2]));clear hc1 hx h1 h2;go_wp2_with fail;go_quiet (fail);go_wp2_with fail;go_ret;exact⟨_,rfl,.inr ⟨k,x,rfl,HX.o,HE.o⟩,by rw[tY];exact aI HB0.o _⟩);(·have e2:(x.s == r.2)=false:=(by simp[h2]);have HE:Hid (r∉aD (L.take (k+1))):=oY hx HI.o (fun e=>h2 (congrArg Prod.snd e));clear hc1 hx h1 h2;go_wp2_with fail;go_quiet (fail);change Exit.then _ _ _ _ ((V.drewN m).drewN nq);have HW:Hid ((V.drewN m).drewN nq=V.drewN (m+nq)):=(by show _=_;rw[tY]);generalize (V.drewN m).drewN nq=w3 at HW ⊢;clear x1 x2 y1 y2;go_wp2_with fail;go_roundw;(case rel=>exact⟨k+1,by go_num,by omega,HE,_,HW.o⟩);(case measure=>simp[intOf];omega)));(·have e1:(x.a == r.1)=false:=(by simp[h1]);have HE:Hid (r∉aD (L.take (k+1))):=oY hx HI.o (fun e=>h1 (congrArg Prod.fst e));clear hc1 hx h1;go_wp2_with fail;go_quiet (fail);change Exit.then _ _ _ _ ((V.drewN m).drewN nq);have HW:Hid ((V.drewN m).drewN nq=V.drewN (m+nq)):=(by show _=_;rw[tY]);generalize (V.drewN m).drewN nq=w3 at HW ⊢;clear x1 x2 y1 y2;go_wp2_with fail;go_roundw;(case rel=>exact⟨k+1,by go_num,by omega,HE,_,HW.o⟩);(case measure=>simp[intOf];omega)));(·have HE:Hid (r∉aD L):=(by have:=HI.o;rwa [sS (by rw[HN.o];omega)]at this);go_wp2_with fail;go_ret;exact⟨_,rfl,.inl ⟨rfl,HE.o⟩,aI HB0.o _⟩))
theorem iT:(prog.info? 77).map (fun i=>(i.zero,i.size,i.bytes))=some (some (.agg #[.int .i64 0,.int .i64 0]),2,16):=by kernel_rfl
theorem aX(l:List Rf):∀u∈aF l,u.oneCell'=true:=by intro u hu;obtain⟨r,_,h⟩:=wG.1 hu;simp only[sR,uJ,or_false]at h;rcases h with rfl|rfl<;>rfl
theorem fY{α:Type}(p:α→Bool):∀(l:List α) (k:Nat),k≤l.length→(∀x∈l.take k,p x=true)→(∀x,l[k]?=some x→p x=false)→l.takeWhile p=l.take k∧l.dropWhile p=l.drop k
 | [],k,_,_,_=>by simp
 |a::l,0,_,_,h2=>by
  have:=h2 a QM
  simp[this]
 |a::l,k+1,hk,h1,h2=>by
  have ha:p a=true:=h1 a QM;obtain⟨e1,e2⟩:=fY p l k (by simpa using hk) (fun x hx=>h1 x (by simp[hx])) (fun x hx=>h2 x (by simpa using hx))
  simp[ha,e1,e2]
theorem putR_has(h:r∈l):eT l r=l:=by unfold eT;rw[tC h]
theorem putR_at(h:r∉l)(hk:k≤l.length)(h1:∀x∈l.take k,aN x r=true)(h2:∀x,l[k]?=some x→aN x r=false):eT l r=l.take k++r::l.drop k:=by unfold eT;obtain⟨e1,e2⟩:=fY (fun x=>aN x r) l k hk h1 h2;rw[sT h,e1,e2]
theorem kO(l:List Rf)(k:Nat):(aF l).take (k*2)=aF (l.take k):=by (induction l generalizing k with|nil=>simp[aF]|cons x l ih=>(cases k with|zero=>simp[aF]|succ k =>have e:aF (x::l)=.int .i64 x.1::.int .i64 x.2::aF l:=(by simp[aF]);have e2:aF (x::l.take k)=.int .i64 x.1::.int .i64 x.2::aF (l.take k):=(by simp[aF]);rw[e,show(k+1)*2=k*2+1+1 from by omega,tI,tI,ih,tI,e2]))
theorem jE(l:List Rf)(k:Nat):(aF l).drop (k*2)=aF (l.drop k):=by (induction l generalizing k with|nil=>simp[aF]|cons x l ih=>(cases k with|zero=>simp[aF]|succ k =>have e:aF (x::l)=.int .i64 x.1::.int .i64 x.2::aF l:=(by simp[aF]);rw[e,show(k+1)*2=k*2+1+1 from by omega,tM,tM,ih,tM]))
theorem addr0(g i:Nat):(⟨g,0,none⟩:Addr).add i=⟨g,i,none⟩:=by unfold Addr.add;split;(·rename_i h;rw[h]);(·simp)
theorem sPut_some(l:List Rf)(r:Rf)(base:Nat)(g c:Nat)(w:World)(ho:w.ownsRow base 77 2 (.slice (some ⟨g,0,none⟩) l.length c) l.length (aF l))(hl:l.length≤1000000000)(hbs:base≤w.heap.size): Calls prog 124 #[.slice (some ⟨g,0,none⟩) l.length c,.agg #[r.1,r.2]] w fun e w'=>∃v',e=.returned v'∧w'.ownsRow base 77 2 v' (eT l r).length (aF (eT l r))∧Below w w w'∧(r∈l∨w'.ownsRow w 77 2 v' (eT l r).length (aF (eT l r))):=by obtain⟨A,c',hv',hc,hcm,hr0⟩:=aA.of_own ho;simp only[uW,true_and]at hv';obtain⟨rfl,rfl⟩:=hv';have hr:aA (fun k=>k<w) w 2 (some ⟨g,0,none⟩) l.length (aF l):=hr0.more fun k hk=>(aC ho hk).2;have HO:=Hi ho;have HR0:=Hi (aE hr ((sD _ w).alloc (sE _) (.cells #[r.1,r.2] 77)));have HB0:Hid (Below w w (w.alloc (.cells #[r.1,r.2] 77))):=(sD _ w).alloc (sE _) _;have HQ0:=Hi (Blk.new w 77 #[r.1,r.2]);have hsz:(w.alloc (.cells #[r.1,r.2] 77)).heap.size=w.heap.size+1:=QM;clear ho hr0 hr;have H1:=fun W c h1 h2 h3=>rN l r (fun k=>k<W.heap.size) (some ⟨g,0,none⟩) c W h1 h2 h3;go_enter func124,ntmps124;go_wp2_with fail;generalize w.alloc (.cells #[r.1,r.2] 77)=V at *;replace H1:=H1 V c HR0.o (fun _ h=>h) QZ;obtain⟨y1,y2⟩:=ce2 HQ0.o;go_wp2_with fail;go_at_call 56;refine H1.mono ?_;rintro e w0 ⟨rfl,hb⟩;have HB1:=ZX HB0 hb;have HQ1:=QY HQ0 hb;have HR1:=Hi (aE HR0.o hb);have hs1:w.heap.size+1≤w0.heap.size:=(by rw[←hsz];exact hb.size);clear hb H1 HR0 HQ0 y1 y2 hsz;by_cases hm:r∈l;(·have e1:decide (r∈l)=true:=sQ hm;rw[e1];go_wp2_with fail;go_ret;rw[putR_has hm];exact⟨_,rfl,aO HO.o HB1.o,HB1.o,.inl hm⟩);(·have e1:decide (r∈l)=false:=sO hm;rw[e1];obtain⟨n,hn⟩:=QX l.length;have HN:=Hi hn;rw[hn]at hl hc ⊢;have HM:=Hi hm;clear hn hm e1;go_wp2_with fail;go_loopw [6] (fun s6 wr=>∃k:Nat,s6=.int .i64 k∧k≤n∧Hid (∀x∈l.take k,aN x r=true)∧Hid (Below w0 w0 wr)) (fun s6 _=>n-(intOf s6).toNat);(case atStart=>exact⟨0,rfl,by omega,by show ∀x∈_,_;simp,sD _ _⟩);(case round =>obtain⟨k,rfl,hk,HI,HB⟩:=hrel;obtain⟨y1,y2⟩:=ce2 (HQ1.o.keep (HB.o.block _ HQ1.o.lt));by_cases hlt:k<n;(·obtain⟨b1,o1,hA,-,hc1⟩:=(aE HR1.o HB.o).at_ (by rw[HN.o];omega) QZ;simp only[uK,Addr.mk.injEq,and_true]at hA;obtain⟨rfl,rfl⟩:=hA;obtain⟨x,hx⟩:∃x,l[k]?=some x:=⟨_,sG (by rw[HN.o];exact hlt)⟩;have x1:wr.cell? ⟨g,k*2,none⟩=some (.int .i64 x.1):=(by have:=hc1 _ _ (aL hx).1;rwa [vQ]at this);have x2:wr.cell? ⟨g,k*2+1,none⟩=some (.int .i64 x.2):=(by have:=hc1 _ _ (aL hx).2;rwa [vQ]at this);have g1:decide ((k:Int)<n)=true:=sQ QZ;have HX:=Hi hx;clear hc1 hx;go_wp2_with fail;refine wp_region_still_tail 10 QQ QQ ?_;simp only[tI,tS,tM,tU];(repeat (refine aK rfl (fun K hK=>?_);go_simp;refine hK _ ?_;clear hK K));refine wpStill_nil ?_;change wpList _ _ _ _ _ wr.drew;have HBD:Hid (Below w0 w0 wr.drew):=HB.o.drew;generalize wr.drew=w2 at HBD ⊢;clear x1 x2 y1 y2 HB;go_wp2_with fail;go_at_call 55;refine(ahead_any x r w2).mono ?_;rintro e w3 ⟨rfl,hb⟩;have HB3:Hid (Below w0 w0 w3):=HBD.o.trans (hb.mono HBD.o.size);clear hb HBD;(cases ha:aN x r with|true =>have HI2:Hid (∀x∈l.take (k+1),aN x r=true):=(by intro z hz;rw[sY,HX.o]at hz;rcases sL.1 hz with hz|hz;(·exact HI.o z hz);(·simp at hz;rw[hz];exact ha));clear ha;go_wp2_with fail;go_roundw;(case rel=>exact⟨k+1,by go_num,by omega,HI2,HB3⟩);(case measure=>simp[intOf];omega)|false =>have HP:Hid (eT l r=l.take k++r::l.drop k):=putR_at HM.o (by rw[HN.o];omega) HI.o (fun z hz=>by rw[HX.o]at hz;cases hz;exact ha);clear ha HX;obtain⟨i0,hi,hz0,hz1,hz2⟩:=info_parts iT;have HRW:Hid (aA (fun x=>x<w3.heap.size) w3 2 (some ⟨g,0,none⟩) n (aF l)):=(by have:=aE HR1.o HB3.o;rwa [HN.o]at this);have HT:Hid (aA (fun x=>x<w3.heap.size) w3 2 (some ⟨g,0,none⟩) k (aF (l.take k))):=(by have:=HRW.o.take hk;rwa [kO]at this);have HQW:=Hi (HQ1.o.keep (HB3.o.block _ HQ1.o.lt));have HBW:Hid (Below w w w3):=HB1.o.trans (HB3.o.mono HB1.o.size);clear HB0 HB1 hs1 HQ1 HI;go_wp2_with (at_builtin;refine aB _ rfl (.tmp 27) (.tmp 30) _ rfl (w3.heap.size) 77 i0 _ 2 16 underlying79 hi hz0 hz1 hz2 rfl QZ (.slice none 0 0) (0) (aF []) rfl (bB _ _ _ _) _ ((some ⟨g,0,none⟩)) (k) (c) (aF (l.take k)) rfl (HT.o) (aX _) ?c1 ?c2 ?c3 ?_);(try case c1=>simp only[maxLen];omega);(try case c2=>omega);(try case c3=>exact sE _);intro v4 w4 ho4 hg4 _;have HB4:Hid (Below w3 w3 w4):=(sD _ w3).grown hg4 (sE _) (fun g e=>by cases e);replace ho4:w4.ownsRow w3 77 2 v4 k (aF (l.take k)):=(by simpa[aF] using ho4);have HO4:=Hi ho4;have hQ4:=HQW.o.keep (HB4.o.block _ HQW.o.lt);obtain⟨y1,y2⟩:=ce2 hQ4;clear ho4 hg4 hQ4;go_wp2_with (at_builtin;refine bK 79 77 (.agg #[.int .i64 0,.int .i64 0]) 2 16 underlying79 iT rfl QZ rfl (.tmp 32) (.tmp 34) rfl (w3.heap.size) (v4) (k) (aF (l.take k)) rfl (HO4.o.alloc _) (w4.heap.size) 1 ([r.1,r.2]) rfl ?d1 ?d2 ?d3 ?d4 ?d5 ?d6 ?_);(try case d1=>rfl);(try case d2=>intro j u hj;exact eX _ _ _ hj);(try case d3=>first|exact aX [r]|exact⟨rfl,rfl⟩|rfl);(try case d4=>omega);(try case d5=>omega);(try case d6=>first|(have:=HB4.o.size;simp;omega)|(simp;done));intro v1 w1 hown1 hg1 hat1;have hb1:Below (w3.heap.size) w3 w1:=(HB4.o.alloc HB4.o.size _).grown hg1 (by have:=HB4.o.size;first|(simp;omega)|(simp;done)) (fun g hg=>(aC (HO4.o) hg).1);clear hat1 hg1 y1 y2;have HO5:=Hi hown1;have HB5:=Hi hb1;have HC:Hid (aA (fun x=>x<w1.heap.size) w1 2 (if c=k then (some ⟨g,0,none⟩) else Option.map (fun x:Addr=>x.add (k*2)) (some ⟨g,0,none⟩)) (n-k) (aF (l.drop k))):=(by have:=(aE HRW.o HB5.o).cut (cap:=c) hk QZ;rwa [jE]at this);clear hown1 hb1 HO4 HB4 HRW HT HQW;have HF:Hid (∀(v':Value) (w':World),w'.ownsRow w3 77 2 v' (k+1+(n-k)) (aF (l.take k)++[.int .i64 r.1,.int .i64 r.2]++aF (l.drop k))→w'.ownsRow w 77 2 v' (eT l r).length (aF (eT l r))):=(by intro v' w' h;have e1:(eT l r).length=k+1+(n-k):=(by rw[HP.o];simp only[sF,tH,sN,vJ];have:=HN.o;omega);have e2:aF (eT l r)=aF (l.take k)++[.int .i64 r.1,.int .i64 r.2]++aF (l.drop k):=(by rw[HP.o,bA,tA];rfl);rw[e1,e2];exact bO h fun g hg=>tD HBW.o.size (aC h hg).1);by_cases hck:c=k;(·rw[tC hck]at HC;go_wp2_with (at_builtin;refine aB _ rfl (.tmp 36) (.tmp 39) _ rfl (w3.heap.size) 77 i0 _ 2 16 underlying79 hi hz0 hz1 hz2 rfl QZ (v1) (k+1) (aF (l.take k)++[.int .i64 r.1,.int .i64 r.2]) rfl (HO5.o) _ (_) (_) (_) (aF (l.drop k)) rfl ((by simpa using HC.o)) (aX _) ?c1 ?c2 ?c3 ?_);(try case c1=>simp only[maxLen];omega);(try case c2=>omega);(try case c3=>exact HB5.o.size);intro v6 w6 ho6 hg6 _;have HB6:Hid (Below w3 w3 w6):=HB5.o.grown hg6 HB5.o.size (fun g hg=>(aC HO5.o hg).1);have HO6:Hid (w6.ownsRow w 77 2 v6 (eT l r).length (aF (eT l r))):=HF.o _ _ (by simpa using ho6);clear ho6 hg6 HF HC HO5 HB5;go_wp2_with fail;go_ret;exact⟨_,rfl,bO HO6.o (fun g hg=>tD hbs (aC HO6.o hg).1),HBW.o.trans (HB6.o.mono HBW.o.size),.inr HO6.o⟩);(·rw[sT hck]at HC;have HC2:Hid (aA (fun x=>x<w1.heap.size) w1 2 (some ⟨g,k*2,none⟩) (n-k) (aF (l.drop k))):=(by have:=HC.o;rw[wC,addr0]at this;exact this);go_wp2_with (at_builtin;refine aB _ rfl (.tmp 36) (.tmp 39) _ rfl (w3.heap.size) 77 i0 _ 2 16 underlying79 hi hz0 hz1 hz2 rfl QZ (v1) (k+1) (aF (l.take k)++[.int .i64 r.1,.int .i64 r.2]) rfl (HO5.o) _ (_) (_) (_) (aF (l.drop k)) rfl ((by simpa using HC2.o)) (aX _) ?c1 ?c2 ?c3 ?_);(try case c1=>simp only[maxLen];omega);(try case c2=>omega);(try case c3=>exact HB5.o.size);intro v6 w6 ho6 hg6 _;have HB6:Hid (Below w3 w3 w6):=HB5.o.grown hg6 HB5.o.size (fun g hg=>(aC HO5.o hg).1);have HO6:Hid (w6.ownsRow w 77 2 v6 (eT l r).length (aF (eT l r))):=HF.o _ _ (by simpa using ho6);clear ho6 hg6 HF HC HO5 HB5;go_wp2_with fail;go_ret;exact⟨_,rfl,bO HO6.o (fun g hg=>tD hbs (aC HO6.o hg).1),HBW.o.trans (HB6.o.mono HBW.o.size),.inr HO6.o⟩)));(·have g1:decide ((k:Int)<n)=false:=sO QZ;obtain rfl:k=n:=QZ;have HP:Hid (eT l r=l.take k++r::l.drop k):=putR_at HM.o (by rw[HN.o];omega) HI.o (fun z hz=>by rw[tW (by rw[HN.o];omega)]at hz;cases hz);clear y1 y2;go_wp2_with fail;go_quiet (fail);change Exit.then _ _ _ _ (wr.drewN nq);have HBD:Hid (Below w0 w0 (wr.drewN nq)):=aI HB.o nq;generalize wr.drewN nq=w3 at HBD ⊢;clear HB;obtain⟨i0,hi,hz0,hz1,hz2⟩:=info_parts iT;have HRW:Hid (aA (fun x=>x<w3.heap.size) w3 2 (some ⟨g,0,none⟩) k (aF l)):=(by have:=aE HR1.o HBD.o;rwa [HN.o]at this);have HT:Hid (aA (fun x=>x<w3.heap.size) w3 2 (some ⟨g,0,none⟩) k (aF (l.take k))):=(by have:=HRW.o.take hk;rwa [kO]at this);have HQW:=Hi (HQ1.o.keep (HBD.o.block _ HQ1.o.lt));have HBW:Hid (Below w w w3):=HB1.o.trans (HBD.o.mono HB1.o.size);clear HB0 HB1 hs1 HQ1 HI;go_wp2_with (at_builtin;refine aB _ rfl (.tmp 27) (.tmp 30) _ rfl (w3.heap.size) 77 i0 _ 2 16 underlying79 hi hz0 hz1 hz2 rfl QZ (.slice none 0 0) (0) (aF []) rfl (bB _ _ _ _) _ ((some ⟨g,0,none⟩)) (k) (c) (aF (l.take k)) rfl (HT.o) (aX _) ?c1 ?c2 ?c3 ?_);(try case c1=>simp only[maxLen];omega);(try case c2=>omega);(try case c3=>exact sE _);intro v4 w4 ho4 hg4 _;have HB4:Hid (Below w3 w3 w4):=(sD _ w3).grown hg4 (sE _) (fun g e=>by cases e);replace ho4:w4.ownsRow w3 77 2 v4 k (aF (l.take k)):=(by simpa[aF] using ho4);have HO4:=Hi ho4;have hQ4:=HQW.o.keep (HB4.o.block _ HQW.o.lt);obtain⟨y1,y2⟩:=ce2 hQ4;clear ho4 hg4 hQ4;go_wp2_with (at_builtin;refine bK 79 77 (.agg #[.int .i64 0,.int .i64 0]) 2 16 underlying79 iT rfl QZ rfl (.tmp 32) (.tmp 34) rfl (w3.heap.size) (v4) (k) (aF (l.take k)) rfl (HO4.o.alloc _) (w4.heap.size) 1 ([r.1,r.2]) rfl ?d1 ?d2 ?d3 ?d4 ?d5 ?d6 ?_);(try case d1=>rfl);(try case d2=>intro j u hj;exact eX _ _ _ hj);(try case d3=>first|exact aX [r]|exact⟨rfl,rfl⟩|rfl);(try case d4=>omega);(try case d5=>omega);(try case d6=>first|(have:=HB4.o.size;simp;omega)|(simp;done));intro v1 w1 hown1 hg1 hat1;have hb1:Below (w3.heap.size) w3 w1:=(HB4.o.alloc HB4.o.size _).grown hg1 (by have:=HB4.o.size;first|(simp;omega)|(simp;done)) (fun g hg=>(aC (HO4.o) hg).1);clear hat1 hg1 y1 y2;have HO5:=Hi hown1;have HB5:=Hi hb1;have HC:Hid (aA (fun x=>x<w1.heap.size) w1 2 (if c=k then (some ⟨g,0,none⟩) else Option.map (fun x:Addr=>x.add (k*2)) (some ⟨g,0,none⟩)) (k-k) (aF (l.drop k))):=(by have:=(aE HRW.o HB5.o).cut (cap:=c) hk QZ;rwa [jE]at this);clear hown1 hb1 HO4 HB4 HRW HT HQW;have HF:Hid (∀(v':Value) (w':World),w'.ownsRow w3 77 2 v' (k+1+(k-k)) (aF (l.take k)++[.int .i64 r.1,.int .i64 r.2]++aF (l.drop k))→w'.ownsRow w 77 2 v' (eT l r).length (aF (eT l r))):=(by intro v' w' h;have e1:(eT l r).length=k+1+(k-k):=(by rw[HP.o];simp only[sF,tH,sN,vJ];have:=HN.o;omega);have e2:aF (eT l r)=aF (l.take k)++[.int .i64 r.1,.int .i64 r.2]++aF (l.drop k):=(by rw[HP.o,bA,tA];rfl);rw[e1,e2];exact bO h fun g hg=>tD HBW.o.size (aC h hg).1);by_cases hck:c=k;(·rw[tC hck]at HC;go_wp2_with (at_builtin;refine aB _ rfl (.tmp 36) (.tmp 39) _ rfl (w3.heap.size) 77 i0 _ 2 16 underlying79 hi hz0 hz1 hz2 rfl QZ (v1) (k+1) (aF (l.take k)++[.int .i64 r.1,.int .i64 r.2]) rfl (HO5.o) _ (_) (_) (_) (aF (l.drop k)) rfl ((by simpa using HC.o)) (aX _) ?c1 ?c2 ?c3 ?_);(try case c1=>simp only[maxLen];omega);(try case c2=>omega);(try case c3=>exact HB5.o.size);intro v6 w6 ho6 hg6 _;have HB6:Hid (Below w3 w3 w6):=HB5.o.grown hg6 HB5.o.size (fun g hg=>(aC HO5.o hg).1);have HO6:Hid (w6.ownsRow w 77 2 v6 (eT l r).length (aF (eT l r))):=HF.o _ _ (by simpa using ho6);clear ho6 hg6 HF HC HO5 HB5;go_wp2_with fail;go_ret;exact⟨_,rfl,bO HO6.o (fun g hg=>tD hbs (aC HO6.o hg).1),HBW.o.trans (HB6.o.mono HBW.o.size),.inr HO6.o⟩);(·rw[sT hck]at HC;have HC2:Hid (aA (fun x=>x<w1.heap.size) w1 2 (some ⟨g,k*2,none⟩) (k-k) (aF (l.drop k))):=(by have:=HC.o;rw[wC,addr0]at this;exact this);go_wp2_with (at_builtin;refine aB _ rfl (.tmp 36) (.tmp 39) _ rfl (w3.heap.size) 77 i0 _ 2 16 underlying79 hi hz0 hz1 hz2 rfl QZ (v1) (k+1) (aF (l.take k)++[.int .i64 r.1,.int .i64 r.2]) rfl (HO5.o) _ (_) (_) (_) (aF (l.drop k)) rfl ((by simpa using HC2.o)) (aX _) ?c1 ?c2 ?c3 ?_);(try case c1=>simp only[maxLen];omega);(try case c2=>omega);(try case c3=>exact HB5.o.size);intro v6 w6 ho6 hg6 _;have HB6:Hid (Below w3 w3 w6):=HB5.o.grown hg6 HB5.o.size (fun g hg=>(aC HO5.o hg).1);have HO6:Hid (w6.ownsRow w 77 2 v6 (eT l r).length (aF (eT l r))):=HF.o _ _ (by simpa using ho6);clear ho6 hg6 HF HC HO5 HB5;go_wp2_with fail;go_ret;exact⟨_,rfl,bO HO6.o (fun g hg=>tD hbs (aC HO6.o hg).1),HBW.o.trans (HB6.o.mono HBW.o.size),.inr HO6.o⟩))))
theorem sPut_nil(r:Rf)(w:World): Calls prog 124 #[.slice none 0 0,.agg #[r.1,r.2]] w fun e w'=>∃v',e=.returned v'∧w'.ownsRow w 77 2 v' 1 (aF [r])∧Below w w w':=by have HB0:Hid (Below w w (w.alloc (.cells #[r.1,r.2] 77))):=(sD _ w).alloc (sE _) _;have HQ0:=Hi (Blk.new w 77 #[r.1,r.2]);have H1:=fun W=>rN [] r (fun _=>False) none 0 W (aA.none_) (fun _ h=>h.elim) QM;go_enter func124,ntmps124;go_wp2_with fail;generalize w.alloc (.cells #[r.1,r.2] 77)=V at *;replace H1:=H1 V;obtain⟨y1,y2⟩:=ce2 HQ0.o;go_wp2_with fail;go_at_call 56;refine H1.mono ?_;rintro e w0 ⟨rfl,hb⟩;have HB1:=ZX HB0 hb;have HQ1:=QY HQ0 hb;clear hb H1 HQ0 y1 y2 HB0;have e1:decide (r∈([]:List Rf))=false:=QM;rw[e1];clear e1;go_wp2_with fail;go_loopw [6] (fun s6 wr=>s6=.int .i64 0∧Hid (Below w0 w0 wr)) (fun _ _=>0);(case atStart=>exact⟨rfl,sD _ _⟩);(case round =>obtain⟨rfl,HB⟩:=hrel;go_wp2_with fail;go_quiet (fail);change Exit.then _ _ _ _ (wr.drewN nq);have HBD:Hid (Below w0 w0 (wr.drewN nq)):=aI HB.o nq;generalize wr.drewN nq=w3 at HBD ⊢;obtain⟨i0,hi,hz0,hz1,hz2⟩:=info_parts iT;have HQ3:=Hi (HQ1.o.keep (HBD.o.block _ HQ1.o.lt));have HB3:Hid (Below w w w3):=HB1.o.trans (HBD.o.mono HB1.o.size);clear HB HBD HB1 HQ1;go_wp2_with (at_builtin;refine aB _ rfl (.tmp 27) (.tmp 30) _ rfl (w3.heap.size) 77 i0 _ 2 16 underlying79 hi hz0 hz1 hz2 rfl QZ (.slice none 0 0) (0) (aF []) rfl (bB _ _ _ _) _ (none) (0) (0) (aF []) rfl ((aA.none_ (D:=fun _=>False))) (aX _) ?c1 ?c2 ?c3 ?_);(try case c1=>simp only[maxLen];omega);(try case c2=>omega);(try case c3=>exact sE _);intro v4 w4 ho4 hg4 _;have HB4:Hid (Below w3 w3 w4):=(sD _ w3).grown hg4 (sE _) (fun g e=>by cases e);replace ho4:w4.ownsRow w3 77 2 v4 0 (aF []):=(by simpa[aF] using ho4);have HO4:=Hi ho4;have hQ4:=HQ3.o.keep (HB4.o.block _ HQ3.o.lt);obtain⟨y1,y2⟩:=ce2 hQ4;clear ho4 hg4 hQ4;go_wp2_with (at_builtin;refine bK 79 77 (.agg #[.int .i64 0,.int .i64 0]) 2 16 underlying79 iT rfl QZ rfl (.tmp 32) (.tmp 34) rfl (w3.heap.size) (v4) (0) (aF []) rfl (HO4.o.alloc _) (w4.heap.size) 1 ([r.1,r.2]) rfl ?d1 ?d2 ?d3 ?d4 ?d5 ?d6 ?_);(try case d1=>rfl);(try case d2=>intro j u hj;exact eX _ _ _ hj);(try case d3=>first|exact aX [r]|exact⟨rfl,rfl⟩|rfl);(try case d4=>omega);(try case d5=>omega);(try case d6=>first|(have:=HB4.o.size;simp;omega)|(simp;done));intro v1 w1 hown1 hg1 hat1;have hb1:Below (w3.heap.size) w3 w1:=(HB4.o.alloc HB4.o.size _).grown hg1 (by have:=HB4.o.size;first|(simp;omega)|(simp;done)) (fun g hg=>(aC (HO4.o) hg).1);clear hat1 hg1 y1 y2;have HO5:=Hi hown1;have HB5:=Hi hb1;clear hown1 hb1 HO4 HB4 HQ3;go_wp2_with (at_builtin;refine aB _ rfl (.tmp 36) (.tmp 39) _ rfl (w3.heap.size) 77 i0 _ 2 16 underlying79 hi hz0 hz1 hz2 rfl QZ (v1) (1) (aF []++[.int .i64 r.1,.int .i64 r.2]) rfl (HO5.o) _ (_) (_) (_) (aF []) rfl ((aA.none_ (D:=fun _=>False))) (aX _) ?c1 ?c2 ?c3 ?_);(try case c1=>simp only[maxLen];omega);(try case c2=>omega);(try case c3=>exact HB5.o.size);intro v6 w6 ho6 hg6 _;have HB6:Hid (Below w3 w3 w6):=HB5.o.grown hg6 HB5.o.size (fun g hg=>(aC HO5.o hg).1);have HO6:Hid (w6.ownsRow w 77 2 v6 1 (aF [r])):=(by have h:w6.ownsRow w3 77 2 v6 1 (aF [r]):=(by simpa[aF] using ho6);exact bO h fun g hg=>tD HB3.o.size (aC h hg).1);clear ho6 hg6 HO5 HB5;go_wp2_with fail;go_ret;exact⟨_,rfl,HO6.o,HB3.o.trans (HB6.o.mono HB3.o.size)⟩)
theorem sPut_any(l:List Rf)(r:Rf)(base:Nat)(v:Value)(w:World)(ho:w.ownsRow base 77 2 v l.length (aF l))(hl:l.length≤1000000000)(hbs:base≤w.heap.size): Calls prog 124 #[v,.agg #[r.1,r.2]] w fun e w'=>∃v',e=.returned v'∧w'.ownsRow base 77 2 v' (eT l r).length (aF (eT l r))∧Below w w w'∧(r∈l∨w'.ownsRow w 77 2 v' (eT l r).length (aF (eT l r))):=by have ho':=ho;rcases ho.2 with⟨rfl,h0⟩|⟨g,cap,cur,rfl,_⟩;(·obtain rfl:l=[]:=uO.1 h0;refine(sPut_nil r w).mono ?_;rintro e w' ⟨v',rfl,h1,h2⟩;exact⟨v',rfl,bO h1 fun g hg=>tD hbs (aC h1 hg).1,h2,.inr h1⟩);(·exact sPut_some l r base g cap w ho' hl hbs)
theorem oG{x:Rf}: x∈eT l r↔x∈l∨x=r:=by unfold eT;split;(·rename_i h;constructor;(·exact .inl);(·rintro(h'|rfl);(·exact h');(·exact h)));(·rw[sL,sR];have:=uR (p:=fun x=>aN x r) (l:=l);constructor;(·rintro(h|h|h);(·exact .inl (by rw[←this];exact tP _ h));(·exact .inr h);(·exact .inl (by rw[←this];exact uM _ h)));(·rintro(h|h);(·rw[←this]at h;rcases sL.1 h with h|h;(·exact .inl h);(·exact .inr (.inr h)));(·exact .inr (.inl h))))
theorem putR_len(h:r∉l):(eT l r).length=l.length+1:=by unfold eT;rw[sT h,sF,sN];have:=congrArg List.length (uR (p:=fun x=>aN x r) (l:=l));rw[sF]at this;omega
theorem lU{α:Type}{p:α→Bool}{l:List α}{x:α}(h:x∈l.takeWhile p):p x=true:=by (induction l with|nil=>cases h|cons a l ih =>rw[xX]at h;split at h;(·rename_i ha;rcases sR.1 h with rfl|h;(·exact ha);(·exact ih h));(·cases h))
theorem putR_asc(h:lJ l):lJ (eT l r):=by unfold eT;split;(·exact h);(·rename_i hm;have hs:=uR (p:=fun x=>aN x r) (l:=l);have h1:lJ (l.takeWhile (fun x=>aN x r)):=h.sublist (List.takeWhile_sublist _);have h2:lJ (l.dropWhile (fun x=>aN x r)):=h.sublist (List.dropWhile_sublist _);have h3:∀x∈l.dropWhile (fun x=>aN x r),aN r x=true:=(by intro x hx;(cases hd:l.dropWhile (fun x=>aN x r) with|nil=>rw[hd]at hx;cases hx|cons a t =>have ha:aN a r=false:=(by have:=List.head_dropWhile_not (fun x=>aN x r) (l:=l) (by rw[hd];simp);simp only[hd,List.head_cons]at this;simpa using this);have hal:a∈l:=(by rw[←hs,hd];simp);have hra:aN r a=true:=(by rcases kL (a:=a) (b:=r) (fun e=>hm (e▸hal)) with h|h;(·rw[ha]at h;cases h);(·exact h));rw[hd]at hx h2;rcases sR.1 hx with rfl|hx;(·exact hra);(·exact iW hra ((vO.1 h2).1 x hx))));rw[lJ,yN];refine⟨h1,vO.2 ⟨h3,h2⟩,fun a ha b hb=>?_⟩;have har:aN a r=true:=lU (p:=fun x=>aN x r) ha;rcases sR.1 hb with rfl|hb;(·exact har);(·exact iW har (h3 b hb)))
theorem lJ.nodup(h:lJ l):l.Nodup:=h.imp fun h e=>by rw[e,eH]at h;cases h
theorem oO{m:List Rf}(hn:l.Nodup)(hs:∀x∈l,x∈m):l.length≤m.length:=by (induction l generalizing m with|nil=>simp|cons a l ih =>obtain⟨h1,h2⟩:=uB.1 hn;obtain⟨p,q,rfl⟩:=vW (hs a QM);have:=ih (m:=p++q) h2 (fun x hx=>by have h:=hs x (by simp[hx]);rcases sL.1 h with h|h;(·exact tP _ h);·rcases sR.1 h with rfl|h;(·exact absurd hx h1);·exact uM _ h);simp only[sF,sN]at this ⊢;omega)
structure BI(L:List ChD)(hs todo out:List Rf)(k:Nat):Prop where
 asc:lJ out
 sub:∀r∈out,r∈aS L hs
 tod:∀r∈todo,r∈aD L→r∈aS L hs
 hds:∀r∈hs,r∈todo
 don:∀j,j<k→∀r,todo[j]?=some r→r∈out∨r∉aD L
 cls:∀c∈L,c.rf∈out→∀d∈c.deps,d∈todo
 len:todo.length≤hs.length+12*out.length
 kl:k≤todo.length
theorem BI.start(L:List ChD)(hs:List Rf):BI L hs hs [] 0 :=
 ⟨by simp[lJ],by simp,fun r hr hm=>pB hr hm,fun r hr=>hr,fun j hj=>by omega,by simp,by simp,by omega⟩
theorem BI.outlen{L:List ChD}(h:BI L hs todo out k):out.length≤L.length:=by have:=oO h.asc.nodup (m:=aD L) (fun x hx=>bW (h.sub x hx));simpa[aD] using this
theorem BI.skip{L:List ChD}(h:BI L hs todo out k){x:Rf}(hx:todo[k]?=some x)(hm:x∈out∨x∉aD L):BI L hs todo out (k+1) :=
 { h with
  don:=fun j hj r hr=>by
   by_cases e:j=k
   ·subst e;rw[hx]at hr;cases hr;exact hm
   ·exact h.don j QZ r hr
  kl:=(sI.1 hx).1 }
theorem BI.put{L:List ChD}(ht:TopR L.reverse)(h:BI L hs todo out k){c:ChD}(hx:todo[k]?=some c.rf)(hc:c∈L)(hn:(aD L).Nodup)(hm:c.rf∉out)(hd:c.deps.length≤12): BI L hs (todo++c.deps) (eT out c.rf) (k+1):=by have hkl:=(sI.1 hx).1;have hb:c.rf∈aS L hs:=h.tod _ (sM hx) (cO hc);refine⟨putR_asc h.asc,fun r hr=>?_,fun r hr hm=>?_,fun r hr=>tP _ (h.hds r hr),fun j hj r hr=>?_,fun b hbL hbo d hd=>?_,?_,?_⟩;(·rcases oG.1 hr with hr|rfl;(·exact h.sub r hr);(·exact hb));(·rcases sL.1 hr with hr|hr;(·exact h.tod r hr hm);(·exact gJ ht (vD.2 hc) hb hr));(·rw[tR QZ]at hr;by_cases e:j=k;(·subst e;rw[hx]at hr;cases hr;exact .inl (oG.2 (.inr rfl)));(·rcases h.don j QZ r hr with h|h;(·exact .inl (oG.2 (.inl h)));(·exact .inr h)));(·rcases oG.1 hbo with hbo|hbo;(·exact tP _ (h.cls b hbL hbo d hd));(·have:b=c:=(by rw[aD,List.Nodup,vC]at hn;by_cases e:b=c;(·exact e);(·exact absurd hbo (by have h2:∀ {l:List ChD},l.Pairwise (fun x y=>x.rf≠y.rf)→b∈l→c∈l→b.rf≠c.rf:=(by intro l;(induction l with|nil=>intro _ h;cases h|cons a l ih =>intro hp hb hc;obtain⟨h1,h2⟩:=vO.1 hp;rcases sR.1 hb with e1|hb;(·rcases sR.1 hc with e2|hc;(·exact absurd (e1.trans e2.symm) e);(·rw[e1];exact h1 c hc));(·rcases sR.1 hc with e2|hc;(·rw[e2];exact(h1 b hb).symm);(·exact ih h2 hb hc))));exact h2 hn hbL hc)));rw[this]at hd;exact uM _ hd));(·rw[putR_len hm,sF];have:=h.len;omega);(·rw[sF];omega)
theorem BI.done{L:List ChD}(h:BI L hs todo out todo.length):∀r,r∈out↔r∈aS L hs:=by have hall:∀r∈todo,r∈aD L→r∈out:=fun r hr hm=>(by obtain⟨j,hj⟩:=xV hr;rcases h.don j (sI.1 hj).1 r hj with h|h;(·exact h);(·exact absurd hm h));intro r;refine⟨h.sub r,fun hr=>?_⟩;refine jM (fun r=>r∈out) (fun r hr hm=>hall r (h.hds r hr) ?_) (fun c hc hs d hd hm=>hall d (h.cls c (vD.1 hc) hs d hd) ?_) r hr;(·rw[dU]at hm;exact vD.1 hm);(·rw[dU]at hm;exact vD.1 hm)
structure ChIn(D:Nat→Prop)(w:World)(c:ChD):Prop where
 hd:aA D w 2 c.DA c.deps.length (aF c.deps)
 hdl:c.deps.length≤9223372036854775807
 ho:aA D w 13 c.OA c.ops.length (iY c.ops)
 hol:c.ops.length≤9223372036854775807
 hp:∀o∈c.ops,aA D w 2 o.A o.l.length (aF o.l)∧o.l.length≤9223372036854775807
theorem ChIn.keep{w w':World}{c:ChD}(h:ChIn D w c)(hk:lE D w w'):ChIn D w' c :=
 ⟨h.hd.keep hk,h.hdl,h.ho.keep hk,h.hol,fun o ho=>⟨(h.hp o ho).1.keep hk,(h.hp o ho).2⟩⟩
theorem ChIn.chm{w:World}{c:ChD}(h:ChIn D w c)(hD:∀k,D k→k<w.heap.size):ChM w c.deps c.DA c.ops c.OA :=
 ⟨h.hd.more hD,h.hdl,h.ho.more hD,h.hol,fun o ho=>⟨(h.hp o ho).1.more hD,(h.hp o ho).2⟩⟩
theorem ChIn.more{D':Nat→Prop}{w:World}{c:ChD}(h:ChIn D w c)(hD:∀k,D k→D' k):ChIn D' w c :=
 ⟨h.hd.more hD,h.hdl,h.ho.more hD,h.hol,fun o ho=>⟨(h.hp o ho).1.more hD,(h.hp o ho).2⟩⟩
structure ChsIn(D:Nat→Prop)(w:World)(A:Option Addr)(L:List ChD):Prop where
 row:aA D w 5 A L.length (bU L)
 each:∀c∈L,ChIn D w c
theorem ChsIn.below{w w':World}{A:Option Addr}{L:List ChD}(h:ChsIn (fun k=>k<w) w A L)(hb:Below w w w'):ChsIn (fun k=>k<w') w' A L :=
 ⟨aE h.row hb,fun c hc=>((h.each c hc).keep fun k hk=>hb.block k hk).more fun _ hk=>sH hk hb.size⟩
theorem sBehind_any(L:List ChD)(hs:List Rf)(A:Option Addr)(c:Nat)(H:Option Addr)(hc:Nat)(w:World)(hL:ChsIn (fun k=>k<w) w A L)(hr:aA (fun k=>k<w) w 2 H hs.length (aF hs)) (ht:TopR L.reverse) (hn:(aD L).Nodup) (hd:∀c∈L,c.deps.length≤12) (hl:L.length≤120) (hhl:hs.length≤100000000) : Calls prog 81 #[.slice A L.length c,.slice H hs.length hc] w fun e w'=>∃v out,e=.returned v∧w'.ownsRow w 77 2 v out.length (aF out)∧lJ out∧(∀r,r∈out↔r∈aS L hs)∧out.length≤120∧Below w w w':=by obtain⟨nh,hnh⟩:=QX hs.length;obtain⟨n,hnn⟩:=QX L.length;have HNH:=Hi hnh;have HN:=Hi hnn;have HL:=Hi hL;have HT:=Hi ht;have HD:=Hi hd;have HND:=Hi hn;have HLL:=Hi hl;rw[hnh]at hhl hr ⊢;rw[hnn]at hl ⊢;have HR:=Hi hr;clear hr hL ht hd hn hnh hnn;obtain⟨i0,hi,hz0,hz1,hz2⟩:=info_parts iT;go_enter func81,ntmps81;go_wp2_with (at_builtin;refine aB _ rfl (.tmp 10) (.tmp 11) _ rfl (w.heap.size) 77 i0 _ 2 16 underlying79 hi hz0 hz1 hz2 rfl QZ (.slice none 0 0) (0) (aF []) rfl (bB _ _ _ _) _ (H) (nh) (hc) (aF hs) rfl (HR.o) (aX _) ?c1 ?c2 ?c3 ?_);(try case c1=>simp only[maxLen];omega);(try case c2=>omega);(try case c3=>exact sE _);intro v1 w1 ho1 hg1 _;have HB1:Hid (Below w w w1):=(sD _ w).grown hg1 (sE _) (fun g e=>by cases e);have HO1:Hid (w1.ownsRow w 77 2 v1 hs.length (aF hs)):=(by show w1.ownsRow _ _ _ _ _ _;rw[HNH.o];simpa[aF] using ho1);clear ho1 hg1 HR;go_wp2_with fail;go_loopw [5,6,7,8,9] (fun s5 s6 s7 _ _ wr=>∃(k:Nat) (todo out:List Rf),s7=.int .i64 k∧Hid (BI L hs todo out k)∧Hid (wr.ownsRow w 77 2 s5 out.length (aF out))∧Hid (wr.ownsRow w 77 2 s6 todo.length (aF todo)) ∧ Hid (∀g,s5.ownBlock=some g→s6.ownBlock≠some g)∧Hid (Below w w wr)) (fun _ _ s7 _ _ _=>nh+1440-(intOf s7).toNat);(case atStart=>exact⟨0,hs,[],rfl,BI.start L hs,bB _ _ _ _,HO1.o,(by show ∀g,_→_;intro g e;cases e),HB1.o⟩);(case round =>obtain⟨k,todo,out,rfl,HI,HO,HTD,HNE,HB⟩:=hrel;obtain⟨Ao,co,rfl,hco1,hco2,hro⟩:=aA.of_own HO.o;obtain⟨At,ct,rfl,hct1,hct2,hrt⟩:=aA.of_own HTD.o;have hol:out.length≤120:=tD HI.o.outlen HLL.o;have htl:todo.length≤nh+1440:=(by have:=HI.o.len;have:=HNH.o;omega);have hkt:=HI.o.kl;have HRO:=Hi (hro.more (fun k hk=>(aC HO.o hk).2));have HRT:=Hi (hrt.more (fun k hk=>(aC HTD.o hk).2));have H1:=fun W (r:Rf) h1 h2=>rN out r (fun k=>k<W.heap.size) Ao co W h1 (fun _ h=>h) h2;have H2:=fun W (r:Rf) h1 h2=>mC L r (fun k=>k<W.heap.size) A c W h1 (fun _ h=>h) h2;have H3:=fun W (r:Rf) h1 h2 h3=>sPut_any out r w.heap.size (.slice Ao out.length co) W h1 h2 h3;obtain⟨no,hno⟩:=QX out.length;obtain⟨m,hm⟩:=QX todo.length;have HNO:=Hi hno;have HM:=Hi hm;rw[hno]at H1 H3 hol hco1 HRO HNE ⊢;rw[hm]at htl hkt hct1 HRT HNE ⊢;rw[HN.o]at H2;clear hro hrt hno hm;by_cases hlt:k<m;(·obtain⟨b1,o1,rfl,-,hc1⟩:=HRT.o.at_ QZ QZ;obtain⟨x,hx⟩:∃x,todo[k]?=some x:=⟨_,sG (by rw[HM.o];exact hlt)⟩;have x1:wr.cell? ⟨b1,o1+k*2,none⟩=some (.int .i64 x.1):=hc1 _ _ (aL hx).1;have x2:wr.cell? ⟨b1,o1+k*2+1,none⟩=some (.int .i64 x.2):=hc1 _ _ (aL hx).2;have HX:=Hi hx;replace H1:=H1 wr x HRO.o QZ;clear hc1 hx;go_wp2_with fail;go_at_call 56;refine H1.mono ?_;rintro e w2 ⟨rfl,hb⟩;have HW2:=Hi hb;have hrt2:=(aE HRT.o hb);obtain⟨b2,o2,e2,-,hc1⟩:=hrt2.at_ QZ QZ;simp only[uK,Addr.mk.injEq,and_true]at e2;obtain⟨rfl,rfl⟩:=e2;have y1:w2.cell? ⟨b1,o1+k*2,none⟩=some (.int .i64 x.1):=hc1 _ _ (aL HX.o).1;have y2:w2.cell? ⟨b1,o1+k*2+1,none⟩=some (.int .i64 x.2):=hc1 _ _ (aL HX.o).2;have HL2:=Hi (HL.o.below (HB.o.trans (hb.mono HB.o.size)));replace H2:=H2 w2 x (by rw[←HN.o];exact HL2.o.row) QZ;clear hb H1 x1 x2 hrt2 hc1;go_wp2_with fail;go_at_call 26;refine H2.mono ?_;rintro e w3 ⟨i,rfl,hfi,hb⟩;have HW3:Hid (Below wr wr w3):=HW2.o.trans (hb.mono HW2.o.size);have HFI:=Hi hfi;clear hb H2 y1 y2 HL2 hfi HW2;have HB3:Hid (Below w w w3):=HB.o.trans (HW3.o.mono HB.o.size);have HO3:=Hi (aO HO.o HW3.o);have HTD3:=Hi (aO HTD.o HW3.o);rw[HNO.o]at HO3;rw[HM.o]at HTD3;by_cases hxo:x∈out;(·have e1:decide (x∈out)=true:=sQ hxo;have HI2:=Hi (HI.o.skip HX.o (.inl hxo));rw[e1];clear e1 hxo H3;go_wp2_with fail;go_roundw;(case rel=>exact⟨k+1,todo,out,by go_num,HI2,by rw[HNO.o];exact HO3,by rw[HM.o];exact HTD3,HNE,HB3⟩);(case measure=>simp[intOf];omega));(·have e1:decide (x∈out)=false:=sO hxo;rw[e1];rcases HFI.o with⟨rfl,hno⟩|⟨j,y,rfl,hyj,hfc⟩;(·have HI2:=Hi (HI.o.skip HX.o (.inr hno));clear e1 hxo H3 hno;go_wp2_with fail;go_roundw;(case rel=>exact⟨k+1,todo,out,by go_num,HI2,by rw[HNO.o];exact HO3,by rw[HM.o];exact HTD3,HNE,HB3⟩);(case measure=>simp[intOf];omega));(·obtain⟨hyL,hyr⟩:=cT hfc;subst hyr;have HY:=Hi hyL;have HYJ:=Hi hyj;have hjn:j<n:=(by rw[←HN.o];exact(sI.1 hyj).1);have HI2:=Hi (HI.o.put HT.o HX.o hyL HND.o hxo (HD.o y hyL));have hrt3:=aE HRT.o HW3.o;obtain⟨b2,o2,e2,-,hc1⟩:=hrt3.at_ QZ QZ;simp only[uK,Addr.mk.injEq,and_true]at e2;obtain⟨rfl,rfl⟩:=e2;have y1:w3.cell? ⟨b1,o1+k*2,none⟩=some (.int .i64 y.rf.1):=hc1 _ _ (aL HX.o).1;have y2:w3.cell? ⟨b1,o1+k*2+1,none⟩=some (.int .i64 y.rf.2):=hc1 _ _ (aL HX.o).2;replace H3:=H3 w3 y.rf (by first|exact HO3.o|(rw[HNO.o];exact HO3.o)) QZ HB3.o.size;have HXO:=Hi hxo;clear e1 hxo hc1 hrt3 hfc hyL hyj;go_wp2_with fail;go_at_call 124;refine H3.mono ?_;rintro e w4 ⟨v4,rfl,ho4,hb4,hor⟩;have HB4:=ZX HB3 hb4;have ho4':=hor.resolve_left HXO.o;have HO4:=Hi ho4;have HTD4:=Hi (aO HTD3.o hb4);have HNE4:Hid (∀g,v4.ownBlock=some g→(Value.slice (some ⟨b1,o1,none⟩) m ct).ownBlock≠some g):=(by intro g hg e;have h1:=(aC ho4' hg).1;have h2:=(aC HTD3.o e).2;omega);have HL4:=Hi (HL.o.below HB4.o);have hLy:=HL4.o.each y HY.o;obtain⟨b3,o3,hA3,-,hc3⟩:=HL4.o.row.at_ (by rw[HN.o];omega) QZ;subst hA3;have y3:w4.cell? ⟨b3,o3+j*5+3,none⟩=some (.slice y.DA y.deps.length y.DC):=(by have:=hc3 _ _ (aU HYJ.o 3 QZ);rw[←uI]at this;exact this);have HRD:=Hi hLy.hd;have hdl:=HD.o y HY.o;have hb4s:w.heap.size≤w4.heap.size:=HB4.o.size;clear hb4 hor ho4 ho4' H3 y1 y2 hc3 hLy HB3 HL4;go_wp2_with (at_builtin;refine aB _ rfl (.tmp 42) (.tmp 47) _ rfl (w.heap.size) 77 i0 _ 2 16 underlying79 hi hz0 hz1 hz2 rfl QZ (.slice (some ⟨b1,o1,none⟩) m ct) (m) (aF todo) rfl (HTD4.o) _ (y.DA) (y.deps.length) (y.DC) (aF y.deps) rfl (HRD.o) (aX _) ?c1 ?c2 ?c3 ?_);(try case c1=>simp only[maxLen];omega);(try case c2=>omega);(try case c3=>exact hb4s);intro v5 w5 ho5 hg5 hat5;have HB5:Hid (Below w w w5):=HB4.o.grown hg5 HB4.o.size (fun g hg=>(aC HTD4.o hg).1);have HO5:Hid (w5.ownsRow w 77 2 v4 (eT out y.rf).length (aF (eT out y.rf))):=aR HO4.o fun g hg=>hg5.block g (aC HO4.o hg).2 (fun e=>HNE4.o g hg e.symm);have HT5:Hid (w5.ownsRow w 77 2 v5 (todo++y.deps).length (aF (todo++y.deps))):=(by show w5.ownsRow _ _ _ _ _ _;rw[sF,HM.o,bA];exact ho5);have HNE5:Hid (∀g,v4.ownBlock=some g→v5.ownBlock≠some g):=(by intro g hg e;rcases hat5 with h|h;(·exact HNE4.o g hg (h▸e));(·rw[h]at e;have:=(aC HO4.o hg).2;simp only[uK]at e;omega));clear ho5 hg5 hat5 HO4 HTD4 HNE4 HRD y3 HTD3 HO3 HB4;go_wp2_with fail;go_roundw;(case rel=>exact⟨k+1,todo++y.deps,eT out y.rf,by go_num,HI2,HO5,HT5,HNE5,HB5⟩);(case measure=>simp[intOf];omega))));(·have hkm:k=m:=QZ;have HF:Hid (lJ out∧(∀r,r∈out↔r∈aS L hs)):=⟨HI.o.asc,BI.done (by have:=HI.o;rwa [hkm,←HM.o]at this)⟩;clear H1 H2 H3;go_wp2_with fail;go_ret;exact⟨_,out,rfl,by have:=HO.o;rwa [HNO.o]at this ⊢,HF.o.1,HF.o.2,by rw[HNO.o];exact hol,HB.o⟩))
def opIC(x:OpI):List Value:=opC x.1++[.int .i64 x.2.1,.int .i64 x.2.2]
def kW(x:OpI):Value:=.agg #[x.1.k,x.1.on,x.1.oa,x.1.key,x.1.en,x.1.ea,x.1.ins,x.1.vk,x.1.vn,x.1.vt,x.1.va,x.1.vb,.slice x.1.A x.1.l.length x.1.c,x.2.1,x.2.2]
def cF(l:List OpI):List Value:=l.flatMap opIC
theorem oM(x:OpI):(opIC x).length=15:=by simp[opIC,opC]
theorem kF(a b:List OpI):cF (a++b)=cF a++cF b:=by simp[cF]
theorem oJ:∀ {L:List OpI} {k:Nat} {c:OpI},L[k]?=some c→∀i,i<15→(cF L)[k*15+i]?=(opIC c)[i]?
 | [],k,r,h=>by simp at h
 |x::l,0,o,h=>fun i hi=>by
  simp at h;subst h;simp only[cF,uA,xQ,vQ];exact tR (by rw[oM];omega)
 |x::l,k+1,o,h=>fun i hi=>by
  have ih:=oJ (L:=l) (k:=k) (by simpa using h) i hi;have e:cF (x::l)=opIC x++cF l:=by simp[cF]
  rw[e,tQ (by rw[oM];omega),oM,show(k+1)*15+i-15=k*15+i from by omega];exact ih
theorem pJ(l:List OpI):∀u∈cF l,u.oneCell'=true:=by intro u hu;obtain⟨r,_,h⟩:=wG.1 hu;simp only[opIC,opC,sL,sR,uJ,or_false]at h;rcases h with(rfl|rfl|rfl|rfl|rfl|rfl|rfl|rfl|rfl|rfl|rfl|rfl|rfl)|(rfl|rfl)<;>rfl
theorem look_none{l:List OpI}{n:Rf}: cJ l n=none↔∀x∈l,x.2≠n:=by unfold cJ;rw[vI];simp
theorem look_none_step{L:List OpI}{x:OpI}(hx:L[k]?=some x)(h:cJ (L.take k) r=none)(hne:x.2≠r):cJ (L.take (k+1)) r=none:=by rw[look_none]at *;rw[sY,hx];intro y hy;rcases sL.1 hy with hy|hy;(·exact h y hy);(·simp at hy;rw[hy];exact hne)
theorem look_hit{L:List OpI}{x:OpI}(hx:L[k]?=some x)(h:cJ (L.take k) r=none)(he:x.2=r):cJ L r=some x:=by obtain⟨hk,hx'⟩:=sI.1 hx;have e:L=L.take k++x::L.drop (k+1):=(by rw[←hx',yD,uV]);unfold cJ at *;rw[e,xW,h];simp[he]
def LookI(L:List OpI)(r:Rf)(i:Int):Prop:=(i=-1∧cJ L r=none)∨∃(k:Nat) (c:OpI),i=(k:Int)∧L[k]?=some c∧cJ L r=some c
theorem slook_any(L:List OpI)(r:Rf)(D:Nat→Prop)(A:Option Addr)(c:Nat)(w:World)(hr:aA D w 15 A L.length (cF L))(hD:∀k,D k→k<w.heap.size)(hl:L.length≤9223372036854775807): Calls prog 31 #[.slice A L.length c,.agg #[r.1,r.2]] w fun e w'=>∃i,e=.returned (.int .i64 i)∧LookI L r i∧Below w w w':=by obtain⟨n,hn⟩:=QX L.length;have HN:=Hi hn;have HR0:=Hi (hr.keep (w':=w.alloc (.cells #[r.1,r.2] 24)) fun k hk=>sX _ _ k (hD k hk));have HB0:Hid (Below w w (w.alloc (.cells #[r.1,r.2] 24))):=(sD _ w).alloc (sE _) _;have hQ:=Blk.new w 24 #[r.1,r.2];have HC0:=Hi (And.intro (hQ.cell 0) (hQ.cell 1));rw[hn]at hl ⊢;clear hn hr hD hQ;go_enter func31,ntmps31;go_wp2_with fail;generalize w.alloc (.cells #[r.1,r.2] 24)=V at *;go_loopw [5] (fun s5 wr=>∃k:Nat,s5=.int .i64 k∧k≤n∧Hid (cJ (L.take k) r=none)∧∃m,wr=V.drewN m) (fun s5 _=>n-(intOf s5).toNat);(case atStart=>exact⟨0,rfl,by omega,by show cJ _ _=_;simp[cJ],0,rfl⟩);(case round =>obtain⟨k,rfl,hk,HI,m,rfl⟩:=hrel;by_cases hlt:k<n;(·obtain⟨b1,o1,rfl,-,hc1⟩:=HR0.o.at_ (by rw[HN.o];omega) QZ;obtain⟨x,hx⟩:∃x,L[k]?=some x:=⟨_,sG (by rw[HN.o];exact hlt)⟩;have x1:V.cell? ⟨b1,o1+k*15+13,none⟩=some (.int .i64 x.2.1):=(by have:=hc1 _ _ (oJ hx 13 QZ);rw[←uI]at this;exact this);have x2:V.cell? ⟨b1,o1+k*15+13+1,none⟩=some (.int .i64 x.2.2):=(by have:=hc1 _ _ (oJ hx 14 QZ);rw[←uI]at this;exact this);have y1:V.cell? ⟨w.heap.size,0,none⟩=some (.int .i64 r.1):=HC0.o.1;have y2:V.cell? ⟨w.heap.size,1,none⟩=some (.int .i64 r.2):=HC0.o.2;have HX:=Hi hx;have E:=fun w=>iZ x.2.1 x.2.2 r.1 r.2 w;by_cases hxr:x.2=r;(·have HE:=Hi (look_hit hx HI.o hxr);have e1:(x.2.1 == r.1&&x.2.2 == r.2)=true:=(by rw[←hxr];simp);rw[e1]at E;clear hc1 hx hxr e1;go_wp2_with fail;go_quiet (fail);go_wp2_with fail;go_ret;exact⟨_,rfl,.inr ⟨k,x,rfl,HX.o,HE.o⟩,by rw[tY];exact aI HB0.o _⟩);(·have e1:(x.2.1 == r.1&&x.2.2 == r.2)=false:=(by (cases h:(x.2.1 == r.1&&x.2.2 == r.2) with|false=>rfl|true=>simp at h;exact absurd (Prod.ext h.1 h.2) hxr));rw[e1]at E;have HE:=Hi (look_none_step hx HI.o hxr);clear hc1 hx hxr e1;go_wp2_with fail;go_quiet (fail);change Exit.then _ _ _ _ ((V.drewN m).drewN nq);have HW:Hid ((V.drewN m).drewN nq=V.drewN (m+nq)):=(by show _=_;rw[tY]);generalize (V.drewN m).drewN nq=w3 at HW ⊢;clear x1 x2 y1 y2;go_wp2_with fail;go_roundw;(case rel=>exact⟨k+1,by go_num,by omega,HE,_,HW.o⟩);(case measure=>simp[intOf];omega)));(·have HE:Hid (cJ L r=none):=(by have:=HI.o;rwa [sS (by rw[HN.o];omega)]at this);go_wp2_with fail;go_ret;exact⟨_,rfl,.inl ⟨rfl,HE.o⟩,aI HB0.o _⟩))
theorem hZ(a b c d:Int):decide ((a,b)=(c,d))=(a == c&&b == d):=by by_cases h1:a=c<;>by_cases h2:b=d<;>simp[h1,h2]
theorem dec_key(a b:ByteArray):decide (a=b)=decide (a.toList=b.toList):=by have:a=b↔a.toList=b.toList:=⟨fun h=>by rw[h],fun h=>bytes_inj (by rw[←vY,←vY];exact h)⟩;by_cases h:a=b;(·rw[sQ h,sQ (this.1 h)]);(·rw[sO h,sO (fun e=>h (this.2 e))])
theorem selem_any(x:OpI)(w:World): Calls prog 62 #[kW x] w fun e w'=>e=.returned (.agg #[.int .i64 (dO x).1,.int .i64 (dO x).2])∧Below w w w':=by have hres:Tryz.f62.results=#[.cell 2 24]:=QQ;unfold kW dO elP;have HB:∀u v:Value,Hid (Below w w ((w.alloc (.cells #[x.1.k,x.1.on,x.1.oa,x.1.key,x.1.en,x.1.ea,x.1.ins,x.1.vk,x.1.vn,x.1.vt,x.1.va,x.1.vb,.slice x.1.A x.1.l.length x.1.c,x.2.1,x.2.2] 90)).alloc (.cells #[u,v] 24))):=fun u v=>((sD _ w).alloc (sE _) _).alloc QM _;obtain⟨b,hb⟩:=QX x.1.ins;rw[hb]at HB ⊢;clear hb;(cases b with|true =>go_enter func62,ntmps62;go_wp2_with fail;refine bodyPost_ret (v:=.agg #[x.2.1,x.2.2]) ?_ rfl ⟨rfl,(HB _ _).out⟩;simp only[results,hres];go_simp|false =>go_enter func62,ntmps62;go_wp2_with fail;refine bodyPost_ret (v:=.agg #[x.1.en,x.1.ea]) ?_ rfl ⟨rfl,(HB _ _).out⟩;simp only[results,hres];go_simp)
theorem splace_any(x y:OpI)(w:World): Calls prog 36 #[kW x,kW y] w fun e w'=>e=.returned (.bool (iC x y))∧Below w w w':=by have H1:=fun W=>selem_any x W;have H2:=fun W=>selem_any y W;unfold kW at *;have HQ1:=Hi (Blk.new w 90 #[x.1.k,x.1.on,x.1.oa,x.1.key,x.1.en,x.1.ea,x.1.ins,x.1.vk,x.1.vn,x.1.vt,x.1.va,x.1.vb,.slice x.1.A x.1.l.length x.1.c,x.2.1,x.2.2]);have HQ2:=Hi (Blk.new (w.alloc (.cells #[x.1.k,x.1.on,x.1.oa,x.1.key,x.1.en,x.1.ea,x.1.ins,x.1.vk,x.1.vn,x.1.vt,x.1.va,x.1.vb,.slice x.1.A x.1.l.length x.1.c,x.2.1,x.2.2] 90)) 90 #[y.1.k,y.1.on,y.1.oa,y.1.key,y.1.en,y.1.ea,y.1.ins,y.1.vk,y.1.vn,y.1.vt,y.1.va,y.1.vb,.slice y.1.A y.1.l.length y.1.c,y.2.1,y.2.2]);have HB2:Hid (Below w w ((w.alloc (.cells #[x.1.k,x.1.on,x.1.oa,x.1.key,x.1.en,x.1.ea,x.1.ins,x.1.vk,x.1.vn,x.1.vt,x.1.va,x.1.vb,.slice x.1.A x.1.l.length x.1.c,x.2.1,x.2.2] 90)).alloc (.cells #[y.1.k,y.1.on,y.1.oa,y.1.key,y.1.en,y.1.ea,y.1.ins,y.1.vk,y.1.vn,y.1.vt,y.1.va,y.1.vb,.slice y.1.A y.1.l.length y.1.c,y.2.1,y.2.2] 90))):=((sD _ w).alloc (sE _) _).alloc QM _;rw[sW]at HQ2;go_enter func36,ntmps36;go_wp2_with fail;go_at_call 62;refine(H1 _).mono ?_;rintro e w3 ⟨rfl,hb⟩;replace HQ1:=Hi ((HQ1.o.keep (sX _ (.cells #[y.1.k,y.1.on,y.1.oa,y.1.key,y.1.en,y.1.ea,y.1.ins,y.1.vk,y.1.vn,y.1.vt,y.1.va,y.1.vb,.slice y.1.A y.1.l.length y.1.c,y.2.1,y.2.2] 90) _ HQ1.o.lt)).keep (hb.block _ (by rw[sW];exact Nat.lt_succ_of_lt HQ1.o.lt)));replace HQ2:=QY HQ2 hb;have HB3:=ZX HB2 hb;have hs3:w.heap.size+1+1≤w3.heap.size:=(by have:=hb.size;rwa [sW,sW]at this);clear hb H1 HB2;obtain⟨y0,y1,y2,y3,y4,y5,y6,y7,y8,y9,y10,y11,y12,y13,y14⟩:=ce15 HQ2.o;have hn1:w.heap.size+1<w3.heap.size:=QZ;go_wp2_with fail;clear y0 y1 y2 y3 y4 y5 y6 y7 y8 y9 y10 y11 y12 y13 y14;go_at_call 62;refine(H2 _).mono ?_;rintro e w4 ⟨rfl,hb⟩;generalize hex:dO x=ex at *;generalize hey:dO y=ey at *;have HEX:=Hi hex;have HEY:=Hi hey;clear hex hey;have hbE:=sX w3 (.cells #[ex.1,ex.2] 24);have hlt:∀j,j<w3.heap.size→w4.heap[j]?=w3.heap[j]?:=fun j hj=>(hb.block j (by rw[sW];omega)).trans (hbE j hj);replace HQ1:=Hi (HQ1.o.keep (hlt _ HQ1.o.lt));replace HQ2:=Hi (HQ2.o.keep (hlt _ HQ2.o.lt));have HE1:=Hi ((Blk.new w3 24 #[ex.1,ex.2]).keep (hb.block _ QM));have HB4:Hid (Below w w w4):=(HB3.o.alloc HB3.o.size _).trans (hb.mono (by rw[sW];omega));have hs4:w3.heap.size+1≤w4.heap.size:=(by have:=hb.size;rwa [sW]at this);clear hb hbE hlt H2 HB3;have HB5:Hid (Below w w (w4.alloc (.cells #[ey.1,ey.2] 24))):=HB4.o.alloc HB4.o.size _;have x1:=cZ HQ1.o 1 rfl;have x2:=cZ HQ1.o 2 rfl;have x3:=cZ HQ1.o 3 rfl;have y1:=cZ HQ2.o 1 rfl;have y2:=cZ HQ2.o 2 rfl;have y3:=cZ HQ2.o 3 rfl;obtain⟨z0,z1⟩:=ce2 HE1.o;have hn2:w.heap.size<w4.heap.size:=QZ;have hn3:w.heap.size+1<w4.heap.size:=QZ;have hn4:w3.heap.size<w4.heap.size:=QZ;have E1:=fun w=>iZ x.1.on x.1.oa y.1.on y.1.oa w;have E2:=fun w=>iZ ex.1 ex.2 ey.1 ey.2 w;have HPL:Hid (iC x y=(((x.1.on == y.1.on&&x.1.oa == y.1.oa)&&(decide (x.1.key.toList=y.1.key.toList)))&&(ex.1 == ey.1&&ex.2 == ey.2))):=(by show iC x y=_;unfold iC dD;rw[HEX.o,HEY.o,hZ,dec_key,show decide (ex=ey)=_ from hZ ex.1 ex.2 ey.1 ey.2]);generalize (x.1.on == y.1.on&&x.1.oa == y.1.oa)=b1 at *;generalize (ex.1 == ey.1&&ex.2 == ey.2)=b3 at *;cases b1;(·go_wp2_with fail;go_ret;exact⟨by rw[HPL.o];rfl,HB5.o⟩);(·by_cases hk:x.1.key.toList=y.1.key.toList;(·rw[sQ hk]at HPL;go_wp2_with fail;go_ret;exact⟨by rw[HPL.o];rfl,HB5.o⟩);(·rw[sO hk]at HPL;go_wp2_with fail;go_ret;exact⟨by rw[HPL.o];rfl,HB5.o⟩))
end Go.Proofs.YtmpkejflgpodkaaGreatDoor
