/- Contracts of the document's books: Ops. -/
import Derived.Test.YtjhkcbideddlgaaGreatP10
import Derived.Test.YtjhkcbideddlgaaGreatP0
import Derived.Test.YtjhkcbideddlgaaGreatP9
set_option maxHeartbeats 8000000
set_option maxRecDepth 20000
set_option linter.unusedVariables false
set_option linter.unusedSimpArgs false
namespace Go.Proofs.YtjhkcbideddlgaaGreat
open Go.ChangeShapes Go.WideShapes Go.ChangeAt Go.RowKit
section
def mS:Value:=.agg #[.int .i64 0,.int .i64 0,.int .i64 0,.string ⟨#[]⟩,.int .i64 0,.int .i64 0,.bool false,.int .i64 0,.int .i64 0,.string ⟨#[]⟩,.int .i64 0,.int .i64 0,.slice none 0 0,.int .i64 0,.int .i64 0]
theorem infoO:(Tryz.prog.info? 115).map (fun i=>(i.zero,i.size,i.bytes))=some (some mS,15,152):=by kernel_rfl
theorem kX(a:Int):∀(l:List OpD) (st:Int),(cC a st l).length=l.length
 | [],_=>rfl
 |_::l,st=>by rw[cC,sV,sV,kX]
theorem gL(a:Int):∀(l:List OpD) (st:Int) (k:Nat) (o:OpD),l[k]?=some o→(cC a st l)[k]?=some (o,(st+k,a))
 | [],_,_,_,h=>by simp at h
 |x::l,st,0,o,h=>by simp at h;subst h;simp[cC]
 |x::l,st,k+1,o,h=>by
  have:=gL a l (st+1) k o (by simpa using h)
  rw[cC,vZ,this,show st+1+(k:Int)=st+((k+1:Nat):Int) from by omega]
theorem fG(c:ChD):c.opsI.length=c.ops.length:=kX ..
theorem pO{L:List ChD}{R:List Rf}{k:Nat}{c:ChD}(h:L[k]?=some c):bV (L.take (k+1)) R=bV (L.take k) R++(if c.rf∈R then c.opsI else []):=by
 unfold bV;rw[sQ,h,uH,wQ,uC];congr 1;by_cases hm:c.rf∈R
 ·rw[tA hm,vK (by simpa using hm)];simp
 ·rw[sT hm,wA (by simpa using hm)];simp
theorem rQ{L:List ChD}(R:List Rf)(h:∀c∈L,c.ops.length≤40):(bV L R).length≤40*L.length:=by
 unfold bV;induction L with
 |nil=>simp
 |cons c L ih =>
  have ih:=ih (fun c hc=>h c (by simp[hc]));have hc:=h c (by simp);by_cases hm:c.rf∈R
  ·rw[vK (by simpa using hm),tQ,sF,sV,fG];omega
  ·rw[wA (by simpa using hm),sV];omega
def ChOk(c:ChD):Prop:=1≤c.st∧c.st≤1000000∧c.ops.length≤40∧c.deps.length≤12
theorem eE{c:ChD}(h:c.err=0):ChOk c:=by
 unfold ChD.err dK at h;obtain⟨h1,h⟩:=aR h (by omega)
 obtain⟨h2,h⟩:=aR h (by omega)
 by_cases h3:cF 0 c.deps≠0
 ·rw[tA h3]at h;exact absurd h h3
 rw[sT h3]at h;obtain⟨h4,h⟩:=aR h (by omega)
 refine⟨?_,?_,by omega,by omega⟩
 ·have:¬c.st<1:=fun e=>h1 (.inr (.inl e));omega
 ·have:¬1000000<c.st:=fun e=>h1 (.inr (.inr e));omega
theorem sOps_any(L:List ChD)(R:List Rf)(A:Option Addr)(c:Nat)(H:Option Addr)(hc:Nat)(w:World)(hL:ChsIn (fun k=>k<w.heap.size) w A L)(hr:aC (fun k=>k<w.heap.size) w 2 H R.length (aF R))
 (hok:∀c∈L,ChOk c) (hl:L.length≤120) (hrl:R.length≤1000000000) :
 Calls Tryz.prog 60 #[.slice A L.length c,.slice H R.length hc] w fun e w'=>∃v,e=.returned v∧w'.ownsRow w.heap.size 115 15 v (bV L R).length (bS (bV L R))∧Below w.heap.size w w':=by
 obtain⟨n,hn⟩:∃n,L.length=n:=⟨_,rfl⟩
 obtain⟨m,hm⟩:∃m,R.length=m:=⟨_,rfl⟩
 have HN:=Hi hn;have HM:=Hi hm;have HL:=Hi hL;have HR:=Hi hr;have HOK:=Hi hok;rw[hn]at hl ⊢;rw[hm]at hrl ⊢;clear hL hr hok hn hm;go_enter Tryz.func60,Tryz.ntmps60;go_wp2_with fail
 go_loopw [5,6,7,8] (fun s5 s6 _ _ wr=>∃k:Nat,s6=.int .i64 k∧k≤n∧Hid (wr.ownsRow w.heap.size 115 15 s5 (bV (L.take k) R).length (bS (bV (L.take k) R)))∧Hid (Below w.heap.size w wr)) (fun _ s6 _ _ _=>n-(intOf s6).toNat)
 case atStart=>exact⟨0,rfl,by omega,by show w.ownsRow _ _ _ _ _ _;simpa[bV,bS] using bB _ _ _ _,sA _ _⟩
 case round =>
  obtain⟨k,rfl,hk,HO,HB⟩:=hrel
  by_cases hlt:k<n
  ·have HL2:=Hi (HL.o.below HB.o);obtain⟨b1,o1,rfl,-,hc1⟩:=HL2.o.row.at_ (by rw[HN.o];omega) (by omega)
   obtain⟨x,hx⟩:∃x,L[k]?=some x:=⟨_,sC (by rw[HN.o];exact hlt)⟩
   have hxL:=sJ hx;have x0:wr.cell? ⟨b1,o1+k*5,none⟩=some (.int .i64 x.a):=hc1 _ _ (aI hx 0 (by omega));have x1:wr.cell? ⟨b1,o1+k*5+1,none⟩=some (.int .i64 x.s):=hc1 _ _ (aI hx 1 (by omega));have x2:wr.cell? ⟨b1,o1+k*5+2,none⟩=some (.int .i64 x.st):=hc1 _ _ (aI hx 2 (by omega));have x3:wr.cell? ⟨b1,o1+k*5+3,none⟩=some (.slice x.DA x.deps.length x.DC):=hc1 _ _ (aI hx 3 (by omega));have x4:wr.cell? ⟨b1,o1+k*5+4,none⟩=some (.slice x.OA x.ops.length x.OC):=hc1 _ _ (aI hx 4 (by omega));have HX:=Hi hx;have HXL:=Hi hxL;clear hc1 hx hxL;go_wp2_with fail
   go_at_call 55;refine(eI _ _ _ _ _ _ rfl rfl rfl).mono ?_
   rintro e w2 ⟨rfl,hb2⟩;have HB2:Hid (Below w.heap.size w w2):=HB.o.trans (hb2.mono HB.o.size);have HO2:=Hi (aO HO.o hb2);have HR2:=Hi (aA HR.o HB2.o);have H1:=jE R x.rf (fun k=>k<w2.heap.size) H hc w2 HR2.o (fun _ h=>h) (by rw[HM.o];omega);rw[HM.o]at H1;clear hb2 x0 x1 x2 x3 x4 HL2 HO;go_wp2_with fail
   go_at_call 18;refine H1.mono ?_;rintro e w3 ⟨rfl,hb3⟩;have HB3:Hid (Below w.heap.size w w3):=HB2.o.trans (hb3.mono HB2.o.size);have HO3:=Hi (aO HO2.o hb3);clear hb3 H1 HR2 HO2;by_cases hxr:x.rf∈R
   ·have HK:Hid (bV (L.take (k+1)) R=bV (L.take k) R++x.opsI):=by have:=pO (R:=R) HX.o;rwa [tA hxr]at this
    have hlen:(bV (L.take k) R).length≤40*n:=by
     have:=rQ (L:=L.take k) R (fun c hc=>(HOK.o c (uY hc)).2.2.1)
     rw[tD]at this;omega
    obtain⟨hs1,hs2,hs3,hs4⟩:=HOK.o x HXL.o
    rw[sH hxr];clear hxr;generalize bV (L.take k) R=K0 at HO3 HK hlen;obtain⟨nk,hnk⟩:∃nk,K0.length=nk:=⟨_,rfl⟩
    have HNK:=Hi hnk;rw[hnk]at HO3 hlen;obtain⟨no,hno⟩:∃no,x.ops.length=no:=⟨_,rfl⟩
    have HNO:=Hi hno;rw[hno]at hs3;clear hnk hno;go_wp2_with fail
    go_loopw [5,8] (fun s5 s8 wi=>∃j:Nat,s8=.int .i64 j∧j≤no∧Hid (wi.ownsRow w.heap.size 115 15 s5 (nk+j) (bS (K0++x.opsI.take j)))∧Hid (Below w.heap.size w wi)) (fun _ s8 _=>no-(intOf s8).toNat)
    case atStart=>exact⟨0,rfl,by omega,by show w3.ownsRow _ _ _ _ _ _;simpa using HO3.o,HB3⟩
    case round =>
     clear HO3 HB3 HB;obtain⟨j,rfl,hj,HO,HB⟩:=hrel
     have HL2:=Hi (HL.o.below HB.o);obtain⟨b2,o2,e2,-,hc1⟩:=HL2.o.row.at_ (by rw[HN.o];omega) (by omega)
     simp only[tW,Addr.mk.injEq,and_true]at e2;obtain⟨rfl,rfl⟩:=e2
     have x0:wr.cell? ⟨b1,o1+k*5,none⟩=some (.int .i64 x.a):=hc1 _ _ (aI HX.o 0 (by omega));have x2:wr.cell? ⟨b1,o1+k*5+2,none⟩=some (.int .i64 x.st):=hc1 _ _ (aI HX.o 2 (by omega));have x4:wr.cell? ⟨b1,o1+k*5+4,none⟩=some (.slice x.OA x.ops.length x.OC):=hc1 _ _ (aI HX.o 4 (by omega));rw[HNO.o]at x4;clear hc1;by_cases hjl:j<no
     ·obtain⟨ox,hox⟩:∃ox,x.ops[j]?=some ox:=⟨_,sC (by rw[HNO.o];exact hjl)⟩
      obtain⟨b3,o3,hA3,-,hc3⟩:=(HL2.o.each x HXL.o).ho.at_ (by rw[HNO.o];omega) (by omega)
      have key:∀i v,i<13→(opC ox)[i]?=some v→wr.cell? ⟨b3,o3+j*13+i,none⟩=some v:=fun i v h1 h2=>by
       have h3:=bM hox i h1;rw[h2]at h3;have:=hc3 _ _ h3
       rw[←tY]at this;exact this
      rw[hA3]at x4;have q0:wr.cell? ⟨b3,o3+j*13,none⟩=some (.int .i64 ox.k):=key 0 _ (by omega) rfl;have q1:wr.cell? ⟨b3,o3+j*13+1,none⟩=some (.int .i64 ox.on):=key 1 _ (by omega) rfl;have q2:wr.cell? ⟨b3,o3+j*13+2,none⟩=some (.int .i64 ox.oa):=key 2 _ (by omega) rfl;have q3:wr.cell? ⟨b3,o3+j*13+3,none⟩=some (.string ox.key):=key 3 _ (by omega) rfl;have q4:wr.cell? ⟨b3,o3+j*13+4,none⟩=some (.int .i64 ox.en):=key 4 _ (by omega) rfl;have q5:wr.cell? ⟨b3,o3+j*13+5,none⟩=some (.int .i64 ox.ea):=key 5 _ (by omega) rfl;have q6:wr.cell? ⟨b3,o3+j*13+6,none⟩=some (.bool ox.ins):=key 6 _ (by omega) rfl;have q7:wr.cell? ⟨b3,o3+j*13+7,none⟩=some (.int .i64 ox.vk):=key 7 _ (by omega) rfl;have q8:wr.cell? ⟨b3,o3+j*13+8,none⟩=some (.int .i64 ox.vn):=key 8 _ (by omega) rfl;have q9:wr.cell? ⟨b3,o3+j*13+9,none⟩=some (.string ox.vt):=key 9 _ (by omega) rfl;have q10:wr.cell? ⟨b3,o3+j*13+10,none⟩=some (.int .i64 ox.va):=key 10 _ (by omega) rfl;have q11:wr.cell? ⟨b3,o3+j*13+11,none⟩=some (.int .i64 ox.vb):=key 11 _ (by omega) rfl;have q12:wr.cell? ⟨b3,o3+j*13+12,none⟩=some (.slice ox.A ox.l.length ox.c):=key 12 _ (by omega) rfl;have hwst:IntKind.i64.wrap (x.st+(j:Int))=x.st+(j:Int):=tH _ (by omega);have HJ:Hid (x.opsI.take (j+1)=x.opsI.take j++[(ox,(x.st+(j:Int),x.a))]):=by
       show _=_;rw[sQ,ChD.opsI,gL _ _ _ _ _ hox];rfl
      clear key hc3 hox HL2 hA3;go_wp2_with fail
      refine eB 23 (u5) (by kernel_rfl) (by kernel_rfl) (fun _ _ _ h=>h) (Or.inl ⟨by rfl,?_⟩) ?_
      ·(intro w;go_simp;try with_reducible rfl)
      simp only[tE,tO,tG,tT];go_frame;repeat (first|(refine aQ rfl (fun K hK=>?_);go_simp;refine hK _ ?_;clear hK K)|(refine wpStill_skip rfl ?_;go_frame))
      refine wpStill_nil ?_;generalize hwd:wr.drew=wd;have HBD:Hid (Below w.heap.size w wd):=by rw[←hwd];exact HB.o.drew
      have HOD:Hid (wd.ownsRow w.heap.size 115 15 u5 (nk+j) (bS (K0++x.opsI.take j))):=by rw[←hwd];exact HO.o
      clear hwd HB HO x0 x2 x4;clear q0 q1 q2 q3 q4 q5 q6 q7 q8 q9 q10 q11 q12;go_wp2_with (at_builtin;refine aX 56 115 (mS) 15 152 Tryz.underlying56 infoO rfl (by omega) rfl (.tmp 34) (.tmp 57) rfl (w.heap.size) (u5) (nk+j) (bS (K0++x.opsI.take j)) rfl (HOD.o.alloc _) (wd.heap.size) 1 (qC (ox,(x.st+(j:Int),x.a))) rfl ?c1 ?c2 ?c3 ?c4 ?c5 ?c6 ?_)
      try case c1=>rfl
      try case c2=>intro j u hj;exact dN _ _ _ hj
      try case c3=>first|exact jK [(ox,(x.st+(j:Int),x.a))]|exact⟨rfl,rfl⟩|rfl
      try case c4=>omega
      try case c5=>omega
      try case c6=>first|(have:=HBD.o.size;simp;omega)|(simp;done)
      intro v1 w1 hown1 hg1 hat1;have hb1:Below (w.heap.size) w w1:=(HBD.o.alloc HBD.o.size _).grown hg1 (by have:=HBD.o.size;first|(simp;omega)|(simp;done)) (fun g hg=>(aD (HOD.o) hg).1);have HJ2:Hid (w1.ownsRow w.heap.size 115 15 v1 (nk+(j+1)) (bS (K0++x.opsI.take (j+1)))):=by
       show w1.ownsRow _ _ _ _ _ _;rw[HJ.o,←sX,fZ,←tY];simpa[bS] using hown1
      have HB1':=Hi hb1;clear hown1 hat1 hg1 hb1 HBD HOD;go_wp2_with fail
      go_roundw
      case rel=>exact⟨j+1,by go_num,by omega,HJ2,HB1'⟩
      case measure=>simp[intOf];omega
     ·have HJ:Hid (K0++x.opsI.take j=bV (L.take (k+1)) R):=by show _=_;rw[HK.o,sL (by rw[fG,HNO.o];omega)]
      have hjn:nk+j=(bV (L.take (k+1)) R).length:=by rw[←HJ.o,sF,HNK.o,tD,fG,HNO.o];omega
      go_wp2_with fail
      go_roundw
      case rel=>exact⟨k+1,by go_num,by omega,by show wr.ownsRow _ _ _ _ _ _;rw[←hjn,←HJ.o];exact HO.o,HB⟩
      case measure=>simp[intOf];omega
   ·have HK:Hid (bV (L.take (k+1)) R=bV (L.take k) R):=by have:=pO (R:=R) HX.o;rwa [sT hxr,uW]at this
    rw[sI hxr];clear hxr;go_wp2_with fail
    go_roundw
    case rel=>exact⟨k+1,by go_num,by omega,by show w3.ownsRow _ _ _ _ _ _;rw[HK.o];exact HO3.o,HB3⟩
    case measure=>simp[intOf];omega
  ·have HK:Hid (bV (L.take k) R=bV L R):=by show _=_;rw[sL (by rw[HN.o];omega)]
   go_wp2_with fail
   go_ret;exact⟨_,rfl,by rw[←HK.o];exact HO.o,HB.o⟩
end
section
open Go.RowKit
def Tak(l:List UInt8)(i j:Nat)(bs:List UInt8):Prop:=l.drop i=bs++l.drop j∧j=i+bs.length
theorem Tak.app{l a b:List UInt8}{i j:Nat}: Tak l i j (a++b)↔∃k,Tak l i k a∧Tak l k j b:=by
 constructor
 ·rintro⟨h1,h2⟩
  rw[sX]at h1;have h3:l.drop (i+a.length)=b++l.drop j:=by rw[←wZ,h1,List.drop_left]
  rw[sF]at h2;exact⟨i+a.length,⟨by rw[h3];exact h1,rfl⟩,h3,by omega⟩
 ·rintro⟨k,⟨h1,h2⟩,h3,h4⟩
  exact⟨by rw[h1,h3,sX],by rw[sF];omega⟩
theorem Tak.nil{l:List UInt8}{i j:Nat}: Tak l i j []↔j=i:=by
 constructor
 ·rintro⟨_,h⟩;simpa using h
 ·rintro rfl;exact⟨rfl,rfl⟩
theorem cN{l:List UInt8}{most i j n:Nat}{b:Bool}(hm:most<2 ^ 64):cQ l most i b=(n,j,false)↔b=false∧n≤most∧Tak l i j (fO n):=by
 cases b with
 |true=>simp[cQ]
 |false =>
  simp only[cQ,uT,if_false,true_and];constructor
  ·intro h;cases hg:getN (l.drop i) with
   |none=>rw[hg]at h;simp at h
   |some x =>
    obtain⟨m,k⟩:=x
    rw[hg]at h;simp only at h;split at h
    ·rename_i hm;simp only[uV,and_true]at h;obtain⟨rfl,rfl⟩:=h
     have hk:=(getN_at hg).2;have ht:=putN_getN hg;refine⟨hm,?_,?_⟩
     ·rw[←ht,←wZ,uL]
     ·rw[←ht,tD];omega
    ·simp at h
  ·rintro⟨h1,h2,h3⟩
   rw[h2,getN_putN n _ (by omega)];simp only[tA h1,h3]
theorem int_tak{l:List UInt8}{i j:Nat}{x:Int}{b:Bool}: lU l i b=(x,j,false)↔b=false∧(-9223372036854775808≤x∧x≤9223372036854775807)∧Tak l i j (iN x):=by
 cases b with
 |true=>simp[lU]
 |false =>
  constructor
  ·intro h;have hb:=rdInt_bd (l:=l) (at_:=i) (bad:=false);rw[h]at hb;refine⟨rfl,hb,?_⟩
   simp only[lU,uT,if_false]at h;unfold getS at h;cases hg:getN (l.drop i) with
   |none=>rw[hg]at h;simp at h
   |some y =>
    obtain⟨m,k⟩:=y
    rw[hg]at h;simp only[vC,uV,and_true]at h;obtain⟨rfl,rfl⟩:=h
    have hk:=(getN_at hg).2;have ht:=putN_getN hg;rw[iN,zz_unzz];refine⟨?_,?_⟩
    ·rw[←ht,←wZ,uL]
    ·rw[←ht,tD];omega
  ·rintro⟨_,hb,h2,h3⟩
   simp only[lU,uT,if_false,getS];rw[h2,iN,getN_putN _ _ (zz_lt hb)];simp only[vC,unzz_zz];rw[h3,iN]
theorem mU{l t:List UInt8}{most i j:Nat}{b:Bool}(hm:most<2 ^ 64):iG l most i b=(t,j,false)↔b=false∧t.length≤most∧Tak l i j (fO t.length++t):=by
 obtain⟨n,a,b',hn⟩:∃n a b',cQ l most i b=(n,a,b'):=⟨_,_,_,rfl⟩
 constructor
 ·intro h;by_cases hc:b'=true∨l.length-a<n
  ·rw[rdText_no hn hc]at h;simp at h
  ·have hb:b'=false:=by cases b'<;>simp_all
   subst hb;rw[rdText_ok hn (by omega)]at h;simp only[uV,and_true]at h;obtain⟨rfl,rfl⟩:=h
   have hl:((l.drop a).take n).length=n:=by rw[tD,uG];omega
   obtain⟨h1,h2,h3⟩:=(cN hm).1 hn
   rw[hl];refine⟨h1,h2,Tak.app.2 ⟨a,h3,?_,by rw[hl]⟩⟩
   rw[←wZ,uL]
 ·rintro⟨h1,h2,h3⟩
  obtain⟨k,h4,h5⟩:=Tak.app.1 h3
  have h6:=(cN (l:=l) hm).2 ⟨h1,h2,h4⟩;have h7:=congrArg List.length h5.1;simp only[uG,sF]at h7;rw[rdText_ok h6 (by omega),h5.1,List.take_left,←h5.2]
def kB(m1 m2:Nat)(r:Rf):Prop:=0≤r.1∧r.1≤m1∧0≤r.2∧r.2≤m2
theorem mK(x:Int)(l:List Int):aZ (x::l)=fO x.toNat++aZ l:=by simp[aZ]
theorem oS:aZ []=[]:=rfl
theorem jJ{l:List UInt8}{m1 m2 i j:Nat}{b:Bool}{r:Rf}(h1:m1<2 ^ 64)(h2:m2<2 ^ 64):gX l m1 m2 (i,b)=(r,(j,false))↔b=false∧kB m1 m2 r∧Tak l i j (cS r):=by
 obtain⟨n1,a1,b1,e1⟩:∃n a b',cQ l m1 i b=(n,a,b'):=⟨_,_,_,rfl⟩
 obtain⟨n2,a2,b2,e2⟩:∃n a b',cQ l m2 a1 b1=(n,a,b'):=⟨_,_,_,rfl⟩
 obtain⟨x,y⟩:=r
 simp only[cS,mK,oS,uW];constructor
 ·intro h;rw[rdPair_of e1 e2]at h;simp only[uV]at h;obtain⟨⟨rfl,rfl⟩,rfl,rfl⟩:=h
  obtain⟨rfl,k1,k2⟩:=(cN h2).1 e2
  obtain⟨k3,k4,k5⟩:=(cN h1).1 e1
  exact⟨k3,⟨by simp,by simpa using k4,by simp,by simpa using k1⟩,Tak.app.2 ⟨a1,by simpa using k5,by simpa using k2⟩⟩
 ·rintro⟨k1,⟨k2,k3,k4,k5⟩,k6⟩
  simp only at k2 k3 k4 k5;obtain⟨a,k7,k8⟩:=Tak.app.1 k6
  have e1:=(cN (l:=l) h1).2 ⟨k1,by omega,k7⟩;have e2:=(cN (l:=l) (b:=false) h2).2 ⟨rfl,by omega,k8⟩;rw[rdPair_of e1 e2,vI k2,vI k4]
theorem iD{l:List UInt8}{m1 m2:Nat}(h1:m1<2 ^ 64)(h2:m2<2 ^ 64):∀(n i j:Nat) (b:Bool) (L:List Rf),fA l m1 m2 (i,b) n=(L,(j,false))↔b=false∧L.length=n∧(∀r∈L,kB m1 m2 r)∧Tak l i j (L.flatMap cS)
 |0,i,j,b,L=>by
  simp only[fA];constructor
  ·intro h;simp only[uV]at h;obtain⟨rfl,rfl,rfl⟩:=h
   exact⟨rfl,rfl,by simp,Tak.nil.2 rfl⟩
  ·rintro⟨rfl,k2,_,k4⟩
   obtain rfl:L=[]:=uK.1 k2;obtain rfl:=Tak.nil.1 k4;rfl
 |n+1,i,j,b,L=>by
  obtain⟨L',a',b',e1⟩:∃L a b',fA l m1 m2 (i,b) n=(L,(a,b')):=⟨_,_,_,rfl⟩
  obtain⟨r,a2,b2,e2⟩:∃r a b2,gX l m1 m2 (a',b')=(r,(a,b2)):=⟨_,_,_,rfl⟩
  constructor
  ·intro h;rw[mZ e1 e2]at h;simp only[uV]at h;obtain⟨rfl,rfl,rfl⟩:=h
   obtain⟨rfl,k1,k2⟩:=(jJ h1 h2).1 e2
   obtain⟨k3,k4,k5,k6⟩:=(iD h1 h2 n _ _ _ _).1 e1
   refine⟨k3,by simp[k4],fun x hx=>?_,?_⟩
   ·rcases sG.1 hx with hx|hx
    ·exact k5 x hx
    ·obtain rfl:x=r:=by simpa using hx
     exact k1
   ·rw[uC];exact Tak.app.2 ⟨a',k6,by simpa using k2⟩
  ·rintro⟨k1,k2,k3,k4⟩
   rcases wE L with rfl|⟨L1,x,rfl⟩
   ·simp at k2
   ·rw[wF]at k2 k3 k4 ⊢;rw[uC]at k4;obtain⟨a,k5,k6⟩:=Tak.app.1 k4
    have f1:=(iD h1 h2 n i a b L1).2 ⟨k1,by simpa using k2,fun r hr=>k3 r (by simp[hr]),k5⟩;have f2:=(jJ (l:=l) (i:=a) (j:=j) (b:=false) (r:=x) h1 h2).2 ⟨rfl,k3 x (by simp),by simpa using k6⟩;exact mZ f1 f2
structure OpR(o:OpD):Prop where
 k:0≤o.k∧o.k≤4
 ob:kB 1000000 99 (o.on,o.oa)
 key:o.key.size≤20
 el:kB 1000000 99 (o.en,o.ea)
 vk:0≤o.vk∧o.vk≤6
 vn:-9223372036854775808≤o.vn∧o.vn≤9223372036854775807
 vt:o.vt.size≤60
 v:o.va=0∧o.vb=0
 ll:o.l.length≤12
 l:∀r∈o.l,kB 1000000 99 r
 m:o.A=none∧o.c=0
theorem oK(s:ByteArray):s.data.toList.length=s.size:=by rw[ByteArray.size,vB]
theorem bytes_eta(s:ByteArray):(⟨s.data.toList.toArray⟩:ByteArray)=s:=by cases s;simp
theorem opB_split(o:OpD):opB o=fO o.k.toNat++(cS (o.on,o.oa)++((fO o.key.data.toList.length++o.key.data.toList)++(cS (o.en,o.ea)++(fO (inI o.ins).toNat++(fO o.vk.toNat++(iN o.vn++((fO o.vt.data.toList.length++o.vt.data.toList)++(fO o.l.length++o.l.flatMap cS)))))))):=by
 simp only[opB,cS,mK,oS,uW,sX,oK,Int.toNat_natCast]
theorem op_tak{l:List UInt8}{i j:Nat}{b:Bool}{o:OpD}: rdOp l (i,b)=(o,(j,false))↔b=false∧OpR o∧Tak l i j (opB o):=by
 rw[opB_split];constructor
 ·intro h;obtain⟨n1,a1,b1,e1⟩:∃n a b',cQ l 4 i b=(n,a,b'):=⟨_,_,_,rfl⟩
  obtain⟨⟨x2,y2⟩,a2,b2,e2⟩:∃n a b',gX l 1000000 99 (a1,b1)=(n,(a,b')):=⟨_,_,_,rfl⟩
  obtain⟨t3,a3,b3,e3⟩:∃n a b',iG l 20 a2 b2=(n,a,b'):=⟨_,_,_,rfl⟩
  obtain⟨⟨x4,y4⟩,a4,b4,e4⟩:∃n a b',gX l 1000000 99 (a3,b3)=(n,(a,b')):=⟨_,_,_,rfl⟩
  obtain⟨n5,a5,b5,e5⟩:∃n a b',cQ l 1 a4 b4=(n,a,b'):=⟨_,_,_,rfl⟩
  obtain⟨n6,a6,b6,e6⟩:∃n a b',cQ l 6 a5 b5=(n,a,b'):=⟨_,_,_,rfl⟩
  obtain⟨x7,a7,b7,e7⟩:∃n a b',lU l a6 b6=(n,a,b'):=⟨_,_,_,rfl⟩
  obtain⟨t8,a8,b8,e8⟩:∃n a b',iG l 60 a7 b7=(n,a,b'):=⟨_,_,_,rfl⟩
  obtain⟨n9,a9,b9,e9⟩:∃n a b',cQ l 12 a8 b8=(n,a,b'):=⟨_,_,_,rfl⟩
  obtain⟨ps,a0,b0,e0⟩:∃n a b',fA l 1000000 99 (a9,b9) n9=(n,(a,b')):=⟨_,_,_,rfl⟩
  rw[rdOp_of2 e1 e2 e3 e4 e5 e6 e7 e8 e9 e0]at h;simp only[uV]at h;obtain⟨rfl,rfl,rfl⟩:=h
  obtain⟨rfl,f0,g0,h0⟩:=(iD (by decide) (by decide) _ _ _ _ _).1 e0
  obtain⟨rfl,f9,g9⟩:=(cN (by decide)).1 e9
  obtain⟨rfl,f8,g8⟩:=(mU (by decide)).1 e8
  obtain⟨rfl,f7,g7⟩:=int_tak.1 e7
  obtain⟨rfl,f6,g6⟩:=(cN (by decide)).1 e6
  obtain⟨rfl,f5,g5⟩:=(cN (by decide)).1 e5
  obtain⟨rfl,f4,g4⟩:=(jJ (by decide) (by decide)).1 e4
  obtain⟨rfl,f3,g3⟩:=(mU (by decide)).1 e3
  obtain⟨rfl,f2,g2⟩:=(jJ (by decide) (by decide)).1 e2
  obtain⟨k,f1,g1⟩:=(cN (by decide)).1 e1
  have hin:(inI (n5 == 1)).toNat=n5:=by
   have:n5=0∨n5=1:=by omega
   rcases this with rfl|rfl<;>rfl
  refine⟨k,⟨⟨by simp,by simp;omega⟩,f2,?_,f4,⟨by simp,by simp;omega⟩,f7,?_,⟨rfl,rfl⟩,by simp only;omega,g0,rfl,rfl⟩,?_⟩
  ·simp only[ByteArray.size,List.size_toArray];exact f3
  ·simp only[ByteArray.size,List.size_toArray];exact f8
  ·simp only[Int.toNat_natCast,hin,f0];exact Tak.app.2 ⟨_,g1,Tak.app.2 ⟨_,g2,Tak.app.2 ⟨_,g3,Tak.app.2 ⟨_,g4,Tak.app.2 ⟨_,g5,Tak.app.2 ⟨_,g6,Tak.app.2 ⟨_,g7,Tak.app.2 ⟨_,g8,Tak.app.2 ⟨_,g9,h0⟩⟩⟩⟩⟩⟩⟩⟩⟩
 ·rintro⟨rfl,hR,h⟩
  obtain⟨a1,g1,h⟩:=Tak.app.1 h
  obtain⟨a2,g2,h⟩:=Tak.app.1 h
  obtain⟨a3,g3,h⟩:=Tak.app.1 h
  obtain⟨a4,g4,h⟩:=Tak.app.1 h
  obtain⟨a5,g5,h⟩:=Tak.app.1 h
  obtain⟨a6,g6,h⟩:=Tak.app.1 h
  obtain⟨a7,g7,h⟩:=Tak.app.1 h
  obtain⟨a8,g8,h⟩:=Tak.app.1 h
  obtain⟨a9,g9,h⟩:=Tak.app.1 h
  have e1:=(cN (l:=l) (most:=4) (b:=false) (by decide)).2 ⟨rfl,by have:=hR.k;omega,g1⟩;have e2:=(jJ (l:=l) (b:=false) (by decide) (by decide)).2 ⟨rfl,hR.ob,g2⟩;have e3:=(mU (l:=l) (most:=20) (b:=false) (by decide)).2 ⟨rfl,by rw[oK];exact hR.key,g3⟩;have e4:=(jJ (l:=l) (b:=false) (by decide) (by decide)).2 ⟨rfl,hR.el,g4⟩;have e5:=(cN (l:=l) (most:=1) (b:=false) (by decide)).2 ⟨rfl,by cases o.ins<;>decide,g5⟩;have e6:=(cN (l:=l) (most:=6) (b:=false) (by decide)).2 ⟨rfl,by have:=hR.vk;omega,g6⟩;have e7:=(int_tak (l:=l) (b:=false)).2 ⟨rfl,hR.vn,g7⟩;have e8:=(mU (l:=l) (most:=60) (b:=false) (by decide)).2 ⟨rfl,by rw[oK];exact hR.vt,g8⟩;have e9:=(cN (l:=l) (most:=12) (b:=false) (by decide)).2 ⟨rfl,hR.ll,g9⟩;have e0:=(iD (l:=l) (m1:=1000000) (m2:=99) (by decide) (by decide) o.l.length a9 j false o.l).2 ⟨rfl,rfl,hR.l,h⟩;rw[rdOp_of2 e1 e2 e3 e4 e5 e6 e7 e8 e9 e0];obtain⟨k,on,oa,key,en,ea,ins,vk,vn,vt,va,vb,A,c,ps⟩:=o
  obtain⟨v1,v2⟩:=hR.v
  obtain⟨m1,m2⟩:=hR.m
  have k1:=hR.k;have k6:=hR.vk;simp only at v1 v2 m1 m2 k1 k6;subst v1 v2 m1 m2;have hin:((inI ins).toNat == 1)=ins:=by cases ins<;>rfl
  simp only[bytes_eta,hin,vI k1.1,vI k6.1]
theorem qF{l:List UInt8}: ∀(n i j:Nat) (b:Bool) (L:List OpD),lT l (i,b) n=(L,(j,false))↔b=false∧L.length=n∧(∀r∈L,OpR r)∧Tak l i j (L.flatMap opB)
 |0,i,j,b,L=>by
  simp only[lT];constructor
  ·intro h;simp only[uV]at h;obtain⟨rfl,rfl,rfl⟩:=h
   exact⟨rfl,rfl,by simp,Tak.nil.2 rfl⟩
  ·rintro⟨rfl,k2,_,k4⟩
   obtain rfl:L=[]:=uK.1 k2;obtain rfl:=Tak.nil.1 k4;rfl
 |n+1,i,j,b,L=>by
  obtain⟨L',a',b',e1⟩:∃L a b',lT l (i,b) n=(L,(a,b')):=⟨_,_,_,rfl⟩
  obtain⟨r,a2,b2,e2⟩:∃r a b2,rdOp l (a',b')=(r,(a,b2)):=⟨_,_,_,rfl⟩
  constructor
  ·intro h;rw[rD e1 e2]at h;simp only[uV]at h;obtain⟨rfl,rfl,rfl⟩:=h
   obtain⟨rfl,k1,k2⟩:=op_tak.1 e2
   obtain⟨k3,k4,k5,k6⟩:=(qF n _ _ _ _).1 e1
   refine⟨k3,by simp[k4],fun x hx=>?_,?_⟩
   ·rcases sG.1 hx with hx|hx
    ·exact k5 x hx
    ·obtain rfl:x=r:=by simpa using hx
     exact k1
   ·rw[uC];exact Tak.app.2 ⟨a',k6,by simpa using k2⟩
  ·rintro⟨k1,k2,k3,k4⟩
   rcases wE L with rfl|⟨L1,x,rfl⟩
   ·simp at k2
   ·rw[wF]at k2 k3 k4 ⊢;rw[uC]at k4;obtain⟨a,k5,k6⟩:=Tak.app.1 k4
    have f1:=(qF n i a b L1).2 ⟨k1,by simpa using k2,fun r hr=>k3 r (by simp[hr]),k5⟩;have f2:=(op_tak (l:=l) (i:=a) (j:=j) (b:=false) (o:=x)).2 ⟨rfl,k3 x (by simp),by simpa using k6⟩;exact rD f1 f2
structure RdR(r:Rd):Prop where
 a:r.a≤99
 s:r.s≤1000000
 st:r.st≤1000000
 dl:r.deps.length≤12
 d:∀x∈r.deps,kB 99 1000000 x
 ol:r.ops.length≤40
 o:∀o∈r.ops,OpR o
theorem encL_split(a s st:Nat)(deps:List Rf)(ops:List OpD):gZ a s st deps ops=fO a++(fO s++(fO st++(fO deps.length++(deps.flatMap cS++(fO ops.length++ops.flatMap opB))))):=by
 simp only[gZ,mK,oS,uW,sX,Int.toNat_natCast]
theorem all_tak{l:List UInt8}{r:Rd}(hb:r.bad=false):rdAll l=r↔RdR r∧Tak l 0 r.at_ (gZ r.a r.s r.st r.deps r.ops):=by
 obtain⟨a,s,st,deps,ops,at_,bad⟩:=r
 simp only at hb;subst hb;simp only[encL_split];constructor
 ·intro h;obtain⟨n1,a1,b1,e1⟩:∃n a b',cQ l 99 0 false=(n,a,b'):=⟨_,_,_,rfl⟩
  obtain⟨n2,a2,b2,e2⟩:∃n a b',cQ l 1000000 a1 b1=(n,a,b'):=⟨_,_,_,rfl⟩
  obtain⟨n3,a3,b3,e3⟩:∃n a b',cQ l 1000000 a2 b2=(n,a,b'):=⟨_,_,_,rfl⟩
  obtain⟨n4,a4,b4,e4⟩:∃n a b',cQ l 12 a3 b3=(n,a,b'):=⟨_,_,_,rfl⟩
  obtain⟨d5,a5,b5,e5⟩:∃n a b',fA l 99 1000000 (a4,b4) n4=(n,(a,b')):=⟨_,_,_,rfl⟩
  obtain⟨n6,a6,b6,e6⟩:∃n a b',cQ l 40 a5 b5=(n,a,b'):=⟨_,_,_,rfl⟩
  obtain⟨o7,a7,b7,e7⟩:∃n a b',lT l (a6,b6) n6=(n,(a,b')):=⟨_,_,_,rfl⟩
  rw[rdAll_of e1 e2 e3 e4 e5 e6 e7]at h;simp only[Rd.mk.injEq]at h;obtain⟨rfl,rfl,rfl,rfl,rfl,rfl,rfl⟩:=h
  obtain⟨rfl,f7,g7,h7⟩:=(qF _ _ _ _ _).1 e7
  obtain⟨rfl,f6,g6⟩:=(cN (by decide)).1 e6
  obtain⟨rfl,f5,g5,h5⟩:=(iD (by decide) (by decide) _ _ _ _ _).1 e5
  obtain⟨rfl,f4,g4⟩:=(cN (by decide)).1 e4
  obtain⟨rfl,f3,g3⟩:=(cN (by decide)).1 e3
  obtain⟨rfl,f2,g2⟩:=(cN (by decide)).1 e2
  obtain⟨_,f1,g1⟩:=(cN (by decide)).1 e1
  rw[f5,f7];exact⟨⟨f1,f2,f3,by simp only;omega,g5,by simp only;omega,g7⟩,Tak.app.2 ⟨_,g1,Tak.app.2 ⟨_,g2,Tak.app.2 ⟨_,g3,Tak.app.2 ⟨_,g4,Tak.app.2 ⟨_,h5,Tak.app.2 ⟨_,g6,h7⟩⟩⟩⟩⟩⟩⟩
 ·rintro⟨hR,h⟩
  obtain⟨a1,g1,h⟩:=Tak.app.1 h
  obtain⟨a2,g2,h⟩:=Tak.app.1 h
  obtain⟨a3,g3,h⟩:=Tak.app.1 h
  obtain⟨a4,g4,h⟩:=Tak.app.1 h
  obtain⟨a5,g5,h⟩:=Tak.app.1 h
  obtain⟨a6,g6,h⟩:=Tak.app.1 h
  have e1:=(cN (l:=l) (most:=99) (b:=false) (by decide)).2 ⟨rfl,hR.a,g1⟩;have e2:=(cN (l:=l) (most:=1000000) (b:=false) (by decide)).2 ⟨rfl,hR.s,g2⟩;have e3:=(cN (l:=l) (most:=1000000) (b:=false) (by decide)).2 ⟨rfl,hR.st,g3⟩;have e4:=(cN (l:=l) (most:=12) (b:=false) (by decide)).2 ⟨rfl,hR.dl,g4⟩;have e5:=(iD (l:=l) (m1:=99) (m2:=1000000) (by decide) (by decide) _ a4 a5 false deps).2 ⟨rfl,rfl,hR.d,g5⟩;have e6:=(cN (l:=l) (most:=40) (b:=false) (by decide)).2 ⟨rfl,hR.ol,g6⟩;have e7:=(qF (l:=l) _ a6 at_ false ops).2 ⟨rfl,rfl,hR.o,h⟩;exact rdAll_of e1 e2 e3 e4 e5 e6 e7
theorem real_pairR{a b:Int}(h:cJ a b=true):kB 1000000 99 (a,b):=by
 simp only[cJ,oU,iZ,tJ,tL]at h;unfold kB;simp only;omega
theorem id_pairR{a b:Int}(h:idB a b=true):kB 1000000 99 (a,b):=by
 simp only[idB,bD,cJ,oU,iZ,wX,tJ,tL]at h;unfold kB;simp only;omega
theorem tail_kind{k:Int}{kn root ins pe v kb:Bool}(h:lS k kn root ins pe v kb=0):v=true∧kb=true:=by
 unfold lS at h;have h1:=(aR h (by omega)).2;obtain⟨h2,h3⟩:=aR h1 (by omega)
 have h4:=(aR h3 (by omega)).1;exact⟨by simpa using h2,by simpa using h4⟩
theorem value_root{k vk n:Int}{t:ByteArray}{a b:Int}(hk:1≤k∧k≤4)(h:aE vk n t a b=true)(h2:gG k vk a b=true):a=0∧b=0∧0≤vk∧vk≤6:=by
 have key:∀x:Bool,(bU t a b&&x)=true→a=0∧b=0:=fun x h=>by
  simp only[bU,bD,tJ,tL]at h;exact h.1.2
 have key2:bU t a b=true→a=0∧b=0:=fun h=>key true (by rw[h];rfl)
 unfold aE at h;split at h
 ·have:=key _ h;omega
 split at h
 ·have:=key _ h;omega
 split at h
 ·have:=key2 h;omega
 split at h
 ·simp only[bD,tJ,tL]at h;omega
 split at h
 ·rename_i h5;have ho:dE vk=true:=by unfold dE;rcases h5 with rfl|rfl<;>rfl
  unfold gG at h2;split at h2
  ·rw[ho]at h2;cases h2
  split at h2
  ·simp only[bD,tJ,tL]at h2;omega
  split at h2
  ·have:vk=0:=by simpa using h2
   omega
  ·have:vk=2:=by simpa using h2
   omega
 ·cases h
theorem op_read{o:OpD}(h:eP o=0)(hv:(Lit.int .i64 o.vn).wf=true):OpR (base o):=by
 have hG:=op_good h hv;unfold eP opE at h;obtain⟨h1,h⟩:=aR h (by omega)
 obtain⟨h2,h⟩:=aR h (by omega)
 obtain⟨h3,h⟩:=aR h (by omega)
 by_cases h4:eQ o.l≠0
 ·rw[tA h4]at h;exact absurd h h4
 rw[sT h4]at h;have hI:idB o.on o.oa=true:=by
  cases hx:idB o.on o.oa
  ·exact absurd (Or.inr (Or.inr (Or.inl hx))) h1
  ·rfl
 have hJ:idB o.en o.ea=true:=by
  cases hx:idB o.en o.ea
  ·exact absurd (Or.inr (Or.inr (Or.inr hx))) h1
  ·rfl
 have hk:¬o.k<1∧¬4<o.k:=⟨fun hx=>h1 (Or.inl hx),fun hx=>h1 (Or.inr (Or.inl hx))⟩;obtain⟨hv1,hv2⟩:=tail_kind h
 obtain⟨r1,r2,r3,r4⟩:=value_root ⟨by omega,by omega⟩ hv1 hv2
 have hw:-9223372036854775808≤o.vn∧o.vn≤9223372036854775807:=by
  simpa[Lit.wf,IntKind.min,IntKind.max,IntKind.signed,IntKind.bits] using hv
 refine⟨⟨by show 0≤o.k;omega,by show o.k≤4;omega⟩,id_pairR hI,hG.key,id_pairR hJ,⟨r3,r4⟩,hw,hG.vt,⟨r1,r2⟩,hG.ll,fun r hr=>?_,rfl,rfl⟩
 have:o.l.all (fun r=>cJ r.1 r.2)=true:=by simpa using h2
 exact real_pairR (tR.1 this r hr)
theorem ops_read:∀ {l:List OpD},eR l=0→(∀o∈l,(Lit.int .i64 o.vn).wf=true)→∀o∈l.map base,OpR o
 | [],_,_,_,h=>by cases h
 |x::l,h,hv,o,ho=>by
  have hx:eP x=0:=by
   by_cases h0:eP x=0
   ·exact h0
   ·simp only[eR,sT h0]at h;exact absurd h h0
  have hr:eR l=0:=by simp only[eR,tA hx]at h;exact h
  rw[tU]at ho;rcases sO.1 ho with rfl|ho
  ·exact op_read hx (hv _ (by simp))
  ·exact ops_read hr (fun o ho=>hv o (by simp[ho])) o ho
theorem refs_read:∀ {l:List Rf} {p:Int},cF p l=0→∀r∈l,kB 99 1000000 r
 | [],_,_,_,h=>by cases h
 |x::l,p,h,r,hr=>by
  simp only[cF]at h;obtain⟨h1,h⟩:=aR h (by omega)
  obtain⟨_,h⟩:=aR h (by omega)
  rcases sO.1 hr with rfl|hr
  ·have:dT r=true:=by simpa using h1
   simp only[dT,tJ,tL]at this;unfold kB;omega
  ·exact refs_read h r hr
theorem chg_read{a s st:Int}{deps:List Rf}{ops:List OpD}(h:dK a s st deps ops=0)(hv:∀o∈ops,(Lit.int .i64 o.vn).wf=true)(at_:Nat):
 RdR ⟨a.toNat,s.toNat,st.toNat,deps,ops.map base,at_,false⟩∧0≤a∧0≤s∧0≤st:=by
 unfold dK at h;obtain⟨h1,h⟩:=aR h (by omega)
 obtain⟨h2,h⟩:=aR h (by omega)
 by_cases h3:cF 0 deps≠0
 ·rw[tA h3]at h;exact absurd h h3
 rw[sT h3]at h;obtain⟨h4,h⟩:=aR h (by omega)
 obtain⟨h5,h⟩:=aR h (by omega)
 have hr:dT (a,s)=true:=by
  cases hx:dT (a,s)
  ·exact absurd (Or.inl hx) h1
  ·rfl
 simp only[dT,tJ,tL]at hr;have hs:¬st<1∧¬1000000<st:=⟨fun hx=>h1 (Or.inr (Or.inl hx)),fun hx=>h1 (Or.inr (Or.inr hx))⟩;have h3':cF 0 deps=0:=by omega
 exact⟨⟨by simp only;omega,by simp only;omega,by simp only;omega,by simp only;omega,refs_read (p:=0) h3',by simp only[tF];omega,ops_read h hv⟩,by omega,by omega,by omega⟩
theorem pA(l:List OpD):(l.map base).map base=l.map base:=ops_base rfl
theorem read_back{a s st:Int}{deps:List Rf}{ops:List OpD}(h:dK a s st deps ops=0)(hv:∀o∈ops,(Lit.int .i64 o.vn).wf=true)(more:List UInt8):
 rdAll (gZ a s st deps ops++more)=⟨a.toNat,s.toNat,st.toNat,deps,ops.map base,(gZ a s st deps ops).length,false⟩:=by
 obtain⟨hR,h1,h2,h3⟩:=chg_read h hv (gZ a s st deps ops).length
 refine(all_tak rfl).2 ⟨hR,?_⟩
 have e:gZ ((a.toNat:Nat):Int) ((s.toNat:Nat):Int) ((st.toNat:Nat):Int) deps (ops.map base)=gZ a s st deps ops:=by
  rw[vI h1,vI h2,vI h3];exact oZ (pA ops)
 simp only[e];exact⟨by rw[tT,List.drop_left],by simp⟩
end
section
theorem same_change(a s st:Int)(e1:List Rf)(DA1:Option Addr)(n1 DC1:Nat)(o1:List OpD)(OA1:Option Addr)(m1 OC1:Nat)(e2:List Rf)(DA2:Option Addr)(n2 DC2:Nat)(o2:List OpD)(OA2:Option Addr)(m2 OC2:Nat)(w:World)
 (h1:ChM w e1 DA1 o1 OA1) (h2:ChM w e2 DA2 o2 OA2) (hn1:e1.length=n1) (hm1:o1.length=m1) (hn2:e2.length=n2) (hm2:o2.length=m2) (g1:EncG a s st e1 o1) (g2:EncG a s st e2 o2) (he:gZ a s st e1 o1=gZ a s st e2 o2) :
 Calls Tryz.prog 50 #[.agg #[.int .i64 a,.int .i64 s,.int .i64 st,.slice DA1 n1 DC1,.slice OA1 m1 OC1],.agg #[.int .i64 a,.int .i64 s,.int .i64 st,.slice DA2 n2 DC2,.slice OA2 m2 OC2]] w
  fun e w'=>e=.returned (.bool true)∧Below w.heap.size w w':=by
 have HB0:=Hi (((sA _ w).alloc (sB _) (.cells #[.int .i64 a,.int .i64 s,.int .i64 st,.slice DA1 n1 DC1,.slice OA1 m1 OC1] 33)).alloc (by simp) (.cells #[.int .i64 a,.int .i64 s,.int .i64 st,.slice DA2 n2 DC2,.slice OA2 m2 OC2] 33));have HBB:Hid (Blk ((w.alloc (.cells #[.int .i64 a,.int .i64 s,.int .i64 st,.slice DA1 n1 DC1,.slice OA1 m1 OC1] 33)).alloc (.cells #[.int .i64 a,.int .i64 s,.int .i64 st,.slice DA2 n2 DC2,.slice OA2 m2 OC2] 33)) (w.heap.size+1) 33 #[.int .i64 a,.int .i64 s,.int .i64 st,.slice DA2 n2 DC2,.slice OA2 m2 OC2]):=by
  have:=Blk.new (w.alloc (.cells #[.int .i64 a,.int .i64 s,.int .i64 st,.slice DA1 n1 DC1,.slice OA1 m1 OC1] 33)) 33 #[.int .i64 a,.int .i64 s,.int .i64 st,.slice DA2 n2 DC2,.slice OA2 m2 OC2]
  rw[tB]at this;exact this
 have R1:=jU a s st e1 DA1 n1 DC1 o1 OA1 m1 OC1 _ (h1.keep HB0.o) hn1 hm1 g1;have H2:=Hi h2;have HN2:=Hi hn2;have HM2:=Hi hm2;have HG2:=Hi g2;rw[he]at R1;generalize hbs:gZ a s st e2 o2=bs at R1;have HBS:=Hi hbs;clear h1 h2 hn1 hm1 hn2 hm2 g1 g2 he hbs;go_enter Tryz.func50,Tryz.ntmps50;go_wp2_with fail
 go_at_call 94;refine R1.mono ?_;rintro e w1 ⟨v1,rfl,ho,hb⟩;obtain⟨A1,C1,hv1,_,_,hr1⟩:=aC.of_own ho
 subst hv1;have HR1:Hid (aC (fun x=>x<w1.heap.size) w1 1 A1 bs.length (bP bs)):=hr1.more fun x hx=>(aD ho hx).2
 have HB1:=Hi (HB0.o.trans (hb.mono HB0.o.size));have HBB1:=HBB.o.keep (hb.block _ HBB.o.lt);obtain⟨d0,d1,d2,d3,d4⟩:=ce5 HBB1
 clear R1 ho hr1 hb HBB1;have R2:=jU a s st e2 DA2 n2 DC2 o2 OA2 m2 OC2 w1 (H2.o.keep HB1.o) HN2.o HM2.o HG2.o;rw[HBS.o]at R2;go_wp2_with fail
 go_at_call 94;refine R2.mono ?_;rintro e w2 ⟨v2,rfl,ho,hb⟩;obtain⟨A2,C2,hv2,_,_,hr2⟩:=aC.of_own ho
 subst hv2;have cv1:(convert 147 9 (.slice A1 bs.length C1)).run Tryz.prog w2=.ok (.string ⟨bs.toArray⟩) w2:=jZ (aA HR1.o hb);have cv2:(convert 147 9 (.slice A2 bs.length C2)).run Tryz.prog w2=.ok (.string ⟨bs.toArray⟩) w2:=jZ hr2;have HB2:Hid (Below w.heap.size w w2):=HB1.o.trans (hb.mono HB1.o.size);clear R2 ho hr2 hb HR1;go_wp2_with fail
 go_ret;exact⟨rfl,HB2.o⟩
end
end Go.Proofs.YtjhkcbideddlgaaGreat
