/- Contracts of the document's state: the elements that have values. -/
import Derived.Test.YtjhkcbideddlgaaGreatP24
import Derived.Test.YtjhkcbideddlgaaGreatP14
import Derived.Deep.RegionHeld3
import Derived.Test.YtjhkcbideddlgaaGreatP17
import Derived.Test.YtjhkcbideddlgaaGreatP15
import Derived.Test.YtjhkcbideddlgaaGreatP23
import Derived.Test.YtjhkcbideddlgaaGreatP1
set_option maxHeartbeats 8000000
set_option maxRecDepth 20000
set_option linter.unusedVariables false
set_option linter.unusedSimpArgs false
namespace Go.Proofs.YtjhkcbideddlgaaGreat
open Go.ChangeShapes Go.WideShapes Go.ChangeAt Go.RowKit
section
def hO(K:List OpI)(obj n:Rf):Bool:=decide (0<(atJ K (obj,⟨#[]⟩,n)).length)
def iF(K:List OpI)(obj:Rf)(N:Int):List Rf:=(jS K obj N (0,0)).filter (hO K obj)
theorem atJ_len(K:List OpI)(w:Wh):(atJ K w).length≤K.length:=atG_len K w K.length
theorem sSeen_any{K:List OpI}{N:Int}(hK:KTree K N)(o1 o2:Int)(A:Option Addr)(c n:Nat)(w:World)(hr:OpsR (fun k=>k<w.heap.size) w A K)(hl:K.length≤50000)(hn:N<n)(hwf:∀x∈K,IntKind.i64.wrap x.1.vn=x.1.vn)(hkd:∀x∈K,1≤x.1.k):
 Calls Tryz.prog 23 #[.agg #[.slice A K.length c],.agg #[.int .i64 o1,.int .i64 o2]] w fun e w'=>∃v,e=.returned v∧w'.ownsRow w.heap.size 48 2 v (iF K (o1,o2) N).length (aF (iF K (o1,o2) N))∧Below w.heap.size w w':=by
 obtain⟨nK,hnK⟩:∃n,K.length=n:=⟨_,rfl⟩
 have HNK:=Hi hnK;have HWF:=Hi hwf;have HKD:=Hi hkd;have hsub:=hK.sub_eq (obj:=(o1,o2)) (n:=n) (el:=(0,0)) (by show N-0<n;omega);have hall:=(hK.all (obj:=(o1,o2))).2.1;have hb1:Below w.heap.size w (w.alloc (.cells #[.slice A nK c] 58)):=(sA _ w).alloc (sB _) _;have h1:=Blk.new w 58 #[.slice A nK c];have hb2:Below w.heap.size w ((w.alloc (.cells #[.slice A nK c] 58)).alloc (.cells #[.int .i64 o1,.int .i64 o2] 48)):=hb1.alloc hb1.size _;have h2:=Blk.new (w.alloc (.cells #[.slice A nK c] 58)) 48 #[.int .i64 o1,.int .i64 o2];have H1:=Hi (h1.keep (sM _ (.cells #[.int .i64 o1,.int .i64 o2] 48) _ h1.lt));have H2:=Hi h2;have HB:=Hi hb2;have HR:=Hi (hr.below hb2);have C1:=sElems_any hK o1 o2 A c n _ (hr.below hb2).row (by omega) hn (by rw[hsub];omega);rw[hsub]at C1;rw[tB]at H2;rw[hnK]at C1 hl ⊢;obtain⟨S,hS⟩:∃S,jS K (o1,o2) N (0,0)=S:=⟨_,rfl⟩
 have HS:Hid (iF K (o1,o2) N=S.filter (hO K (o1,o2))):=by show _=_;unfold iF;rw[hS]
 rw[hS]at C1 hall;have HSL:Hid (S.length≤50001):=by show _≤_;omega
 clear hr hwf hkd hnK hb1 hb2 h1 h2 hsub hS hall;go_enter Tryz.func23,Tryz.ntmps23;go_upto_region 1 with fail
 generalize (w.alloc (.cells #[.slice A nK c] 58)).alloc (.cells #[.int .i64 o1,.int .i64 o2] 48)=w1 at H1 H2 HB HR C1 ⊢;obtain⟨B,hB⟩:∃B,w.heap.size=B:=⟨_,rfl⟩
 have HBB:=Hi hB;rw[hB]at H1 H2 HB ⊢;clear hB;have HBL:Hid (B≤w1.heap.size):=by have h:=HB.o.size;rw[HBB.o]at h;exact h
 have j0:=cZ H1.o 0 rfl;obtain⟨q0,q1⟩:=ce2 H2.o
 go_wp2_with fail
 go_at_call 63;refine C1.mono ?_;rintro e w2 ⟨v2,rfl,ho2,hb2⟩;have HB2:Hid (Below B w w2):=HB.o.trans (hb2.mono HBL.o);have HBL2:Hid (B≤w2.heap.size):=sY HBL.o hb2.size;have H12:=Hi (H1.o.keep (hb2.block _ H1.o.lt));have H22:=Hi (H2.o.keep (hb2.block _ H2.o.lt));have HR2:=Hi (HR.o.below hb2);obtain⟨A2,c2,hv2,-,-,hr2⟩:=aC.of_own ho2
 have HRS:Hid (aC (fun k=>k<w2.heap.size) w2 2 A2 S.length (aF S)):=hr2.more fun k hk=>(aD ho2 hk).2
 obtain⟨m,hm⟩:∃m,S.length=m:=⟨_,rfl⟩
 have HM:=Hi hm;subst hv2;rw[hm]at HRS HSL ⊢;clear C1 j0 q0 q1 ho2 hb2 hr2 hm H1 H2 HB HR HBL;have hms:m≤50001:=HSL.o;go_upto_region 4 with fail
 go_loopw [6,7,8,9] (fun s6 s7 _ _ wr=>∃(i:Nat) (v6:Value),v6=s6∧s7=.int .i64 i∧i≤m∧Hid (wr.ownsRow w2.heap.size 48 2 v6 ((S.take i).filter (hO K (o1,o2))).length (aF ((S.take i).filter (hO K (o1,o2)))))∧Hid (Below w2.heap.size w2 wr)) (fun _ s7 _ _ _=>m-(intOf s7).toNat)
 case atStart=>exact⟨0,_,rfl,rfl,by omega,bB _ _ _ _,sA _ _⟩
 case round =>
  obtain⟨i,v6,rfl,rfl,hi,HO,HW⟩:=hrel
  by_cases hlt:i<m
  ·obtain⟨⟨y1,y2⟩,hy⟩:∃y,S[i]?=some y:=⟨_,sC (by rw[HM.o];exact hlt)⟩
   obtain⟨bs,os,rfl,-,hc1⟩:=(aA (by exact HRS.o) HW.o).at_ (by omega) (by omega)
   have z1:wr.cell? ⟨bs,os+i*2,none⟩=some (.int .i64 y1):=hc1 _ _ (aN hy).1;have z2:wr.cell? ⟨bs,os+i*2+1,none⟩=some (.int .i64 y2):=by have:=hc1 _ _ (aN hy).2;rw[←tY]at this;exact this
   have HZ:Hid (∀V,Below wr.heap.size wr V→V.cell? ⟨bs,os+i*2,none⟩=some (.int .i64 y1)∧V.cell? ⟨bs,os+i*2+1,none⟩=some (.int .i64 y2)):=fun V hv=>⟨(hv.cell (World.block_lt_of_cell? wr _ z1)).trans z1,(hv.cell (World.block_lt_of_cell? wr _ z2)).trans z2⟩
   have j0:=cZ (H12.o.keep (HW.o.block _ H12.o.lt)) 0 rfl;obtain⟨q0,q1⟩:=ce2 (H22.o.keep (HW.o.block _ H22.o.lt))
   have C2:=sAt_any K o1 o2 ⟨#[]⟩ y1 y2 A c wr.drew (HR2.o.below (HW.o.drew)) (by rw[HNK.o];omega) HWF.o HKD.o;obtain⟨ml,hml⟩:∃k,(atJ K ((o1,o2),⟨#[]⟩,(y1,y2))).length=k:=⟨_,rfl⟩
   have HTK:Hid ((S.take (i+1)).filter (hO K (o1,o2))=(S.take i).filter (hO K (o1,o2))++if 0<ml then [(y1,y2)] else []):=by
    show _=_;rw[sQ,hy,wQ];congr 1;unfold hO;rw[←hml];by_cases h:0<(atJ K ((o1,o2),⟨#[]⟩,(y1,y2))).length
    ·simp[h]
    ·simp[h]
   rw[hml,HNK.o]at C2;have HLT:=Hi hlt;obtain⟨F,hF⟩:∃F,(S.take i).filter (hO K (o1,o2))=F:=⟨_,rfl⟩
   have HFL:Hid (F.length≤100000):=by
    have h1:=wD (hO K (o1,o2)) (S.take i);rw[hF,tD]at h1;show _≤_;omega
   rw[hF]at HO HTK;clear hy hc1 hml hF;have KS:∀V,Below wr.drew.heap.size wr.drew V→V.cell? ⟨B,0,none⟩=some (.slice A nK c)∧V.cell? ⟨B+1,0,none⟩=some (.int .i64 o1)∧V.cell? ⟨B+1,1,none⟩=some (.int .i64 o2)∧V.cell? ⟨bs,os+i*2,none⟩=some (.int .i64 y1)∧V.cell? ⟨bs,os+i*2+1,none⟩=some (.int .i64 y2):=fun V hv=>by
    have hw:Below w2.heap.size w2 V:=HW.o.drew.trans (hv.mono HW.o.size);exact⟨(H12.o.keep (hw.block _ H12.o.lt)).cell 0,(H22.o.keep (hw.block _ H22.o.lt)).cell 0,(H22.o.keep (hw.block _ H22.o.lt)).cell 1,HZ.o V ((sA _ wr).drew.trans hv)⟩
   go_upto_region 6 with fail
   go_region_held3 (fun w'=>w'.cell? ⟨B,0,none⟩=some (.slice A nK c)∧w'.cell? ⟨B+1,0,none⟩=some (.int .i64 o1)∧w'.cell? ⟨B+1,1,none⟩=some (.int .i64 o2)∧w'.cell? ⟨bs,os+i*2,none⟩=some (.int .i64 y1)∧w'.cell? ⟨bs,os+i*2+1,none⟩=some (.int .i64 y2)) (first|exact⟨j0,q0,q1,z1,z2⟩|exact KS _ (by assumption)) (first|(go_at_call 64;refine C2.mono ?_;rintro e w4 ⟨v4,n4,rfl,ho4,-,hb4⟩))
   clear j0 q0 q1 z1 z2 KS;obtain⟨A4,c4,rfl,-,-,-⟩:=aC.of_own ho4
   have hb5:Below wr.heap.size wr w4:=(sA _ wr).drew.trans hb4;have HO4:=Hi (aO HO.o hb5);have HW4:Hid (Below w2.heap.size w2 w4):=HW.o.trans (hb5.mono HW.o.size);have z1:w4.cell? ⟨bs,os+i*2,none⟩=some (.int .i64 y1):=(HZ.o w4 hb5).1;have z2:w4.cell? ⟨bs,os+i*2+1,none⟩=some (.int .i64 y2):=(HZ.o w4 hb5).2;clear C2 ho4 hb4 hb5 HO HW HZ;by_cases hp:0<ml
   ·rw[tA hp]at HTK;have hfl:=HFL.o;obtain⟨nF,hnF⟩:∃k,F.length=k:=⟨_,rfl⟩
    have HNF:=Hi hnF;rw[hnF]at HO4 hfl;clear hnF;go_wp2_with (at_builtin;refine aX 51 48 (.agg #[.int .i64 0,.int .i64 0]) 2 16 Tryz.underlying51 hU rfl (by omega) rfl (.tmp 32) (.tmp 37) rfl (w2.heap.size) (_) (nF) (aF F) rfl (HO4.o.alloc _) (w4.heap.size) 1 ([.int .i64 y1,.int .i64 y2]) rfl ?c1 ?c2 ?c3 ?c4 ?c5 ?c6 ?_)
    try case c1=>rfl
    try case c2=>intro j u hj;exact dN _ _ _ hj
    try case c3=>exact aY [(y1,y2)]
    try case c4=>omega
    try case c5=>omega
    try case c6=>first|(have:=HW4.o.size;simp;omega)|(simp;done)
    intro v7 w7 ho7 hg7 _;have HW7:Hid (Below w2.heap.size w2 w7):=(HW4.o.alloc HW4.o.size _).grown hg7 (by have:=HW4.o.size;simp;omega) (fun g hg=>(aD HO4.o hg).1);have HO7:Hid (w7.ownsRow w2.heap.size 48 2 v7 ((S.take (i+1)).filter (hO K (o1,o2))).length (aF ((S.take (i+1)).filter (hO K (o1,o2))))):=by
     show World.ownsRow _ _ _ _ _ _ _;rw[HTK.o,sF,HNF.o,bH];exact ho7
    clear ho7 hg7 z1 z2 HO4 HW4;go_wp2_with fail
    go_roundw
    case rel=>exact⟨i+1,v7,rfl,by go_num,by have:=HLT.o;omega,HO7,HW7⟩
    case measure=>have:=HLT.o;simp[intOf];omega
   ·rw[sT hp,uW]at HTK;have HO7:Hid (w4.ownsRow w2.heap.size 48 2 v6 ((S.take (i+1)).filter (hO K (o1,o2))).length (aF ((S.take (i+1)).filter (hO K (o1,o2))))):=by
     show World.ownsRow _ _ _ _ _ _ _;rw[HTK.o];exact HO4.o
    clear z1 z2 HO4;go_wp2_with fail
    go_roundw
    case rel=>exact⟨i+1,v6,rfl,by go_num,by have:=HLT.o;omega,HO7,HW4⟩
    case measure=>have:=HLT.o;simp[intOf];omega
  ·have HF:Hid ((S.take i).filter (hO K (o1,o2))=iF K (o1,o2) N):=by show _=_;rw[sL (by rw[HM.o];omega),HS.o]
   rw[HF.o]at HO;have HO9:=Hi (bG HO.o (base':=B) fun k hk=>sY HBL2.o (aD HO.o hk).1);have HW9:Hid (Below B w wr):=HB2.o.trans (HW.o.mono HBL2.o);clear HO HW;go_wp2_with fail
   go_ret;exact⟨v6,rfl,by rw[HBB.o];exact HO9.o,by rw[HBB.o];exact HW9.o⟩
end
section
open Go.RowKit
structure HandD where
 a:Int
 L:List ChD
 W:List ChD
 P:List OpD
def kH(n:Int)(c:ChD):Int:=if n<c.st+c.ops.length then c.st+c.ops.length else n
def pG(a s:Int)(c:ChD):Int:=if c.a=a∧s≤c.s then c.s+1 else s
def dH(L:List ChD):Int:=L.foldl kH 1
def gW(a:Int)(L:List ChD):Int:=L.foldl (pG a) 1
def HandD.more(h:HandD):List OpI:=cC h.a (dH h.L) h.P
def HandD.K(h:HandD):List OpI:=bE h.L++h.more
def HandD.nid(h:HandD):Rf:=(dH h.L+h.P.length,h.a)
structure HandI(h:HandD):Prop where
 inv:Inv h.L h.W
 act:1≤h.a∧h.a≤99
 few:h.P.length≤40
 ok:∀o∈h.P,1≤o.k∧IntKind.i64.wrap o.vn=o.vn∧o.l.length≤12
 num:h.P≠[]→dH h.L+h.P.length≤1000001
 up:∀x∈h.more,x.1.ins=true→(elP x).1<x.2.1
theorem stepN_le(n:Int)(c:ChD):n≤kH n c∧c.st+c.ops.length≤kH n c:=by unfold kH;split<;>omega
theorem lZ:∀(L:List ChD) (n:Int),n≤L.foldl kH n∧∀c∈L,c.st+c.ops.length≤L.foldl kH n
 | [],n=>⟨Int.le_refl _,fun c hc=>by cases hc⟩
 |x::L,n=>by
  rw[vJ];obtain⟨h1,h2⟩:=lZ L (kH n x)
  have h3:=stepN_le n x;refine⟨by omega,fun c hc=>?_⟩
  rcases sO.1 hc with rfl|hc
  ·omega
  ·exact h2 c hc
theorem gH(L:List ChD):1≤dH L:=(lZ L 1).1
theorem startN_ge{L:List ChD}{c:ChD}(h:c∈L):c.st+c.ops.length≤dH L:=(lZ L 1).2 c h
theorem lG{L:List ChD}(h:∀c∈L,ChOk c):dH L≤1000040:=by
 have key:∀(L:List ChD) (n:Int),(∀c∈L,ChOk c)→n≤1000040→L.foldl kH n≤1000040:=by
  intro L;induction L with
  |nil=>intro n _ h;exact h
  |cons x L ih =>
   intro n hL hn;rw[vJ];refine ih _ (fun c hc=>hL c (by simp[hc])) ?_;have:=hL x (by simp)
   unfold ChOk at this;unfold kH;split<;>omega
 exact key L 1 h (by omega)
theorem qQ{a:Int}{L:List ChD}(h:∀c∈L,c.s≤1000000):1≤gW a L∧gW a L≤1000001:=by
 have key:∀(L:List ChD) (n:Int),(∀c∈L,c.s≤1000000)→1≤n→n≤1000001→1≤L.foldl (pG a) n∧L.foldl (pG a) n≤1000001:=by
  intro L;induction L with
  |nil=>intro n _ h1 h2;exact⟨h1,h2⟩
  |cons x L ih =>
   intro n hL h1 h2;rw[vJ];have:=hL x (by simp)
   have h3:1≤pG a n x∧pG a n x≤1000001:=by unfold pG;split<;>omega
   exact ih _ (fun c hc=>hL c (by simp[hc])) h3.1 h3.2
 exact key L 1 h (by omega) (by omega)
theorem startN_snoc{L:List ChD}{k:Nat}{c:ChD}(h:L[k]?=some c):dH (L.take (k+1))=kH (dH (L.take k)) c:=by
 unfold dH;rw[sQ,h,uH,wJ];rfl
theorem startS_snoc{a:Int}{L:List ChD}{k:Nat}{c:ChD}(h:L[k]?=some c):gW a (L.take (k+1))=pG a (gW a (L.take k)) c:=by
 unfold gW;rw[sQ,h,uH,wJ];rfl
theorem num_lt{L:List ChD}{x:OpI}(h:x∈bE L):x.2.1<dH L:=by
 obtain⟨c,hc,hx⟩:=iL.1 h
 have h1:=startN_ge hc;have h2:=(bQ hx).2.2.1;omega
theorem HandI.nil{a:Int}(h:1≤a∧a≤99):HandI ⟨a,[],[],[]⟩:=⟨Inv.nil,h,by simp,by simp,by simp,by simp[HandD.more,cC]⟩
theorem HandI.tree{h:HandD}(hi:HandI h):KTree h.K 1000100:=by
 have ht:=hi.inv.bk.tree;have hm:∀x∈h.more,x.2.2=h.a∧dH h.L≤x.2.1∧x.2.1<dH h.L+h.P.length∧x.1∈h.P:=fun x hx=>bQ hx
 have h1:=gH h.L;constructor
 ·show((bE h.L++h.more).map Prod.snd).Nodup
  rw[tN,uM];refine⟨ht.nd,fH _ _ _,fun r hr q hq e=>?_⟩
  obtain⟨x,hx,rfl⟩:=sW.1 hr
  obtain⟨y,hy,rfl⟩:=sW.1 hq
  have:=num_lt hx
  have:=(hm y hy).2.1
  rw[e]at *;omega
 ·intro x hx;rcases sG.1 hx with hx|hx
  ·exact ht.up x hx
  ·exact hi.up x hx
 ·intro x hx;rcases sG.1 hx with hx|hx
  ·exact ht.pos x hx
  ·have:=(hm x hx).2.1;omega
 ·intro x hx;rcases sG.1 hx with hx|hx
  ·exact ht.top x hx
  ·have h2:=hm x hx;have h3:=hi.num (fun e=>by rw[e]at h2;exact absurd h2.2.2.2 (by simp));omega
theorem HandI.wf{h:HandD}(hi:HandI h):∀x∈h.K,IntKind.i64.wrap x.1.vn=x.1.vn∧1≤x.1.k∧x.1.l.length≤12:=by
 intro x hx;rcases sG.1 hx with hx|hx
 ·obtain⟨h1,h2⟩:=hi.inv.bk.opsOk hx
  exact⟨wrap_wf h2,(oR h1).1,(opE_sizes h1).2.1⟩
 ·obtain⟨h1,h2,h3⟩:=hi.ok x.1 (bQ hx).2.2.2
  exact⟨h2,h1,h3⟩
theorem HandI.len{h:HandD}(hi:HandI h):h.K.length≤4840:=by
 have h1:=hi.inv.bk.lenOps;have h2:=hi.inv.most;have h3:h.more.length=h.P.length:=opsI_len' ⟨h.a,0,dH h.L,[],none,0,h.P,none,0⟩;have h4:=hi.few;show(bE h.L++h.more).length≤_
 rw[sF];omega
def HandD.push(h:HandD)(o:OpD):HandD:={ h with P:=h.P++[o] }
theorem nN(a:Int)(o:OpD):∀(l:List OpD) (st:Int),cC a st (l++[o])=cC a st l++[(o,(st+l.length,a))]
 | [],st=>by simp[cC]
 |x::l,st=>by
  have e:st+1+(l.length:Int)=st+((x::l).length:Nat):=by simp only[sV];omega
  rw[vX,cC,cC,nN a o l (st+1),vX,e]
theorem HandI.push{h:HandD}(hi:HandI h){o:OpD}(h40:h.P.length<40)(hn:h.nid.1≤1000000)(hk:1≤o.k∧IntKind.i64.wrap o.vn=o.vn∧o.l.length≤12)(hu:o.ins=true→o.en<h.nid.1):HandI (h.push o) where
 inv:=hi.inv
 act:=hi.act
 few:=by show(h.P++[o]).length≤40;rw[sF];simp only[sV,vU];omega
 ok:=fun x hx=>by
  rcases sG.1 hx with hx|hx
  ·exact hi.ok x hx
  ·rw[sP.1 hx];exact hk
 num:=fun _=>by
  show dH h.L+((h.P++[o]).length:Int)≤1000001;unfold HandD.nid at hn;rw[sF];simp only[sV,vU];omega
 up:=fun x hx=>by
  show _=true→_;have hx':x∈cC h.a (dH h.L) (h.P++[o]):=hx;rw[nN,sG]at hx';rcases hx' with hx'|hx'
  ·exact hi.up x hx'
  ·rw[sP.1 hx'];exact hu
theorem seen_num{h:HandD}(hi:HandI h){obj r:Rf}(hr:r∈iF h.K obj 1000100):r.1<h.nid.1:=by
 obtain⟨x,hx,e,-,-⟩:=(hi.tree.all (obj:=obj)).2.2 r (vT.1 hr).1
 rw[←e];show x.2.1<dH h.L+h.P.length;rcases sG.1 hx with hx|hx
 ·have:=num_lt hx;omega
 ·exact(bQ hx).2.2.1
end
section
def lC(D:Nat→Prop)(w:World)(P:List OpD):Prop:=∀o∈P,aC D w 2 o.A o.l.length (aF o.l)∧o.l.length≤9223372036854775807
theorem lC.keep{D:Nat→Prop}{w w':World}{P:List OpD}(h:lC D w P)(hk:lD D w w'):lC D w' P:=fun o ho=>⟨(h o ho).1.keep hk,(h o ho).2⟩
theorem lC.more{D D':Nat→Prop}{w:World}{P:List OpD}(h:lC D w P)(hD:∀k,D k→D' k):lC D' w P:=fun o ho=>⟨(h o ho).1.more hD,(h o ho).2⟩
structure HM(D FB F:Nat→Prop)(w:World)(g gb:Nat)(h:HandD)(VL VW VP:Value):Prop where
 blk:Blk w g 83 #[.int .i64 h.a,.pointer (some ⟨gb,0,none⟩),VP]
 bm:BM D FB w gb h.L h.W VL VW
 oP:w.ownsRow 0 53 13 VP h.P.length (eF h.P)
 pin:lC D w h.P
 hF:∀k,F k↔k=g∨FB k∨VP.ownBlock=some k
 hD:∀k,D k→¬F k
section
variable{D FB F:Nat→Prop}{w w':World}{g gb:Nat}{h:HandD}{VL VW VP:Value}
theorem HM.nP(m:HM D FB F w g gb h VL VW VP):∀k,VP.ownBlock=some k→¬FB k:=by
 intro k hk hb;rcases(m.bm.hF k).1 hb with rfl|e|e
 ·exact dI m.oP m.bm.blk (by decide) hk
 ·exact fP m.oP m.bm.oL (by decide) k hk e
 ·exact fP m.oP m.bm.oW (by decide) k hk e
theorem HM.ng(m:HM D FB F w g gb h VL VW VP):¬FB g:=by
 intro hb;rcases(m.bm.hF g).1 hb with e|e|e
 ·exact Blk.ne_ m.blk m.bm.blk (by decide) e
 ·exact dI m.bm.oL m.blk (by decide) e
 ·exact dI m.bm.oW m.blk (by decide) e
theorem HM.npg(m:HM D FB F w g gb h VL VW VP):VP.ownBlock≠some g:=dI m.oP m.blk (by decide)
theorem HM.flt(m:HM D FB F w g gb h VL VW VP){k:Nat}(hk:F k):k<w.heap.size:=by
 rcases(m.hF k).1 hk with rfl|hk|hk
 ·exact m.blk.lt
 ·exact m.bm.flt hk
 ·exact(aD m.oP hk).2
theorem HM.dlt(m:HM D FB F w g gb h VL VW VP){k:Nat}(hk:D k):k<w.heap.size:=(m.bm.hD k hk).1
theorem HM.inG(m:HM D FB F w g gb h VL VW VP):F g:=(m.hF g).2 (.inl rfl)
theorem HM.inB(m:HM D FB F w g gb h VL VW VP){k:Nat}(hk:FB k):F k:=(m.hF k).2 (.inr (.inl hk))
theorem HM.inP(m:HM D FB F w g gb h VL VW VP){k:Nat}(hk:VP.ownBlock=some k):F k:=(m.hF k).2 (.inr (.inr hk))
theorem HM.keep(m:HM D FB F w g gb h VL VW VP)(hs:w.heap.size≤w'.heap.size)(kD:∀k,D k→w'.heap[k]?=w.heap[k]?)(kF:∀k,F k→w'.heap[k]?=w.heap[k]?):HM D FB F w' g gb h VL VW VP :=
 ⟨m.blk.keep (kF g m.inG),m.bm.keep hs kD (fun k hk=>kF k (m.inB hk)),aT m.oP (fun k hk=>kF k (m.inP hk)),m.pin.keep kD,m.hF,m.hD⟩
theorem HM.below(m:HM D FB F w g gb h VL VW VP)(hb:Below w.heap.size w w'):HM D FB F w' g gb h VL VW VP :=
 m.keep hb.size (fun k hk=>hb.block k (m.dlt hk)) (fun k hk=>hb.block k (m.flt hk))
theorem HM.moreD{D':Nat→Prop}(m:HM D FB F w g gb h VL VW VP)(k1:∀k,D k→D' k)(k2:∀k,D' k→k<w.heap.size∧¬F k):HM D' FB F w g gb h VL VW VP :=
 ⟨m.blk,m.bm.moreD k1 (fun k hk=>⟨(k2 k hk).1,fun e=>(k2 k hk).2 (m.inB e)⟩),m.oP,m.pin.more k1,m.hF,fun k hk=>(k2 k hk).2⟩
theorem HM.book{FB':Nat→Prop}{L' W':List ChD}{VL' VW':Value}(m:HM D FB F w g gb h VL VW VP)(b:BM D FB' w' gb L' W' VL' VW')(hf:∀k,FB' k→FB k∨w.heap.size≤k)(hc:Chg FB w w'):
 HM D FB' (fun k=>k=g∨FB' k∨VP.ownBlock=some k) w' g gb { h with L:=L',W:=W' } VL' VW' VP where
 blk:=m.blk.keep (hc.block g m.blk.lt m.ng)
 bm:=b
 oP:=aT m.oP fun k hk=>hc.block k (aD m.oP hk).2 (m.nP k hk)
 pin:=m.pin.keep fun k hk=>hc.block k (m.dlt hk) (fun e=>m.hD k hk (m.inB e))
 hF:=fun _=>Iff.rfl
 hD:=fun k hk e=>by
  rcases e with rfl|e|e
  ·exact m.hD _ hk m.inG
  ·rcases hf k e with e|e
   ·exact m.hD k hk (m.inB e)
   ·have:=m.dlt hk;omega
  ·exact m.hD k hk (m.inP e)
theorem HM.setP{D':Nat→Prop}{V':Value}{P':List OpD}(m:HM D FB F w g gb h VL VW VP)(hs:w.heap.size≤w'.heap.size)(hk:∀k,k<w.heap.size→VP.ownBlock≠some k→w'.heap[k]?=w.heap[k]?)
 (ho:w'.ownsRow 0 53 13 V' P'.length (eF P')) (hat:V'.ownBlock=VP.ownBlock∨∀k,V'.ownBlock=some k→w.heap.size≤k)
 (k1:∀k,D k→D' k) (k2:∀k,D' k→k<w'.heap.size∧k≠g∧¬FB k∧V'.ownBlock≠some k) (hp:lC D' w' P') :
 HM D' FB (fun k=>k=g∨FB k∨V'.ownBlock=some k) (w'.setCell ⟨g,2,none⟩ V') g gb { h with P:=P' } VL VW V':=by
 have hg:w'.heap[g]?=w.heap[g]?:=hk g m.blk.lt m.npg;have hB:Blk w' g 83 #[.int .i64 h.a,.pointer (some ⟨gb,0,none⟩),VP]:=m.blk.keep hg;have hneg:V'.ownBlock≠some g:=dI ho hB (by decide);have hset:∀k,k≠g→(w'.setCell ⟨g,2,none⟩ V').heap[k]?=w'.heap[k]?:=fun k hk=>sU _ _ _ _ hk
 have hsz:(w'.setCell ⟨g,2,none⟩ V').heap.size=w'.heap.size:=by simp
 have b1:BM D FB w' gb h.L h.W VL VW:=m.bm.keep hs (fun k hd=>hk k (m.dlt hd) (fun e=>m.hD k hd (m.inP e))) (fun k hf=>hk k (m.bm.flt hf) (fun e=>m.nP k e hf));have b2:BM D' FB w' gb h.L h.W VL VW:=b1.moreD k1 (fun k hd=>⟨(k2 k hd).1,(k2 k hd).2.2.1⟩);refine⟨hB.set_ 2 V',b2.keep (by rw[hsz];exact sB _) (fun k hd=>hset k (k2 k hd).2.1) (fun k hf=>hset k (fun e=>m.ng (e▸hf))),aT ho fun k e=>hset k (fun e'=>hneg (e'▸e)),hp.keep fun k hd=>hset k (k2 k hd).2.1,fun _=>Iff.rfl,fun k hd e=>?_⟩
 rcases e with e|e|e
 ·exact(k2 k hd).2.1 e
 ·exact(k2 k hd).2.2.1 e
 ·exact(k2 k hd).2.2.2 e
end
def HMx(D F:Nat→Prop)(w:World)(g:Nat)(h:HandD):Prop:=∃FB gb VL VW VP,HM D FB F w g gb h VL VW VP
def kA(D F:Nat→Prop)(w w':World)(g:Nat)(h':HandD):Prop :=
 ∃D' F',HMx D' F' w' g h'∧(∀k,D k→D' k)∧(∀k,D' k→D k∨F k∨w.heap.size≤k)∧(∀k,F' k→F k∨w.heap.size≤k)∧Chg F w w'
end
section
open Go.RowKit
theorem wf_wrap{x:Int}(h:IntKind.i64.wrap x=x):(Lit.int .i64 x).wf=true:=by
 have h2:wrap64 x=x:=by rw[←IntWalk.i64_left];exact h
 unfold wrap64 at h2;simp only[Lit.wf,IntKind.min,IntKind.max,IntKind.signed,IntKind.bits];simp;omega
theorem HandI.drop{h:HandD}(hi:HandI h):HandI { h with P:=[] }:=⟨hi.inv,hi.act,by simp,by simp,by simp,by simp[HandD.more,cC]⟩
theorem HandI.empty{h:HandD}{L W:List ChD}(hi:HandI h)(hv:Inv L W):HandI { h with L:=L,W:=W,P:=[] }:=⟨hv,hi.act,by simp,by simp,by simp,by simp[HandD.more,cC]⟩
def HandD.ch(h:HandD)(DA:Option Addr)(DC:Nat)(OA:Option Addr)(OC:Nat):ChD:=⟨h.a,gW h.a h.L,dH h.L,gY h.L,DA,DC,h.P,OA,OC⟩
theorem HandI.wfP{h:HandD}(hi:HandI h):∀o∈h.P,(Lit.int .i64 o.vn).wf=true:=fun o ho=>wf_wrap (hi.ok o ho).2.1
theorem HandI.commit{h:HandD}(hi:HandI h)(DA:Option Addr)(DC:Nat)(OA:Option Addr)(OC:Nat):
 HandI { h with L:=(aS h.L h.W (h.ch DA DC OA OC)).1.1,W:=(aS h.L h.W (h.ch DA DC OA OC)).1.2,P:=[] }:=hi.empty (jC hi.inv hi.wfP)
theorem takeP_no{L W:List ChD}{c:ChD}(h:(aS L W c).2≠0):(aS L W c).1=(L,W):=by
 unfold aS at h ⊢;split
 ·rfl
 ·rename_i h1;rw[sT h1]at h;split
  ·rfl
  ·rename_i h2;simp only[h2]at h;split
   ·rfl
   ·rename_i h3;simp only[h3]at h;split
    ·rfl
    ·rename_i h4;rw[sT h4]at h;split
     ·rename_i h5;rw[tA h5]at h;exact absurd rfl h
     ·rename_i h5;rw[sT h5]at h;split
      ·rfl
      ·rename_i h6;rw[sT h6]at h;exact absurd rfl h
end
section
theorem hNew_any(a:Int)(D:Nat→Prop)(w:World)(hD:∀k,D k→k<w.heap.size):
 Calls Tryz.prog 26 #[.int .i64 a] w fun e w'=>∃g F,e=.returned (.pointer (some ⟨g,0,none⟩))∧HMx D F w' g ⟨a,[],[],[]⟩∧(∀k,F k→w.heap.size≤k)∧Below w.heap.size w w':=by
 have h1:=Blk.new w 88 #[.slice none 0 0,.slice none 0 0];have hb1:Below w.heap.size w (w.alloc (.cells #[.slice none 0 0,.slice none 0 0] 88)):=(sA _ w).alloc (sB _) _;have h2:=Blk.new (w.alloc (.cells #[.slice none 0 0,.slice none 0 0] 88)) 83 #[.int .i64 a,.pointer (some ⟨w.heap.size,0,none⟩),.slice none 0 0];have hb2:=hb1.alloc hb1.size (.cells #[.int .i64 a,.pointer (some ⟨w.heap.size,0,none⟩),.slice none 0 0] 83);have h1':=h1.alloc (.cells #[.int .i64 a,.pointer (some ⟨w.heap.size,0,none⟩),.slice none 0 0] 83);rw[tB]at h2;have HD:=Hi hD;have H1:=Hi h1';have H2:=Hi h2;have HB:=Hi hb2;clear h1 h2 hb1 hb2 h1' hD;go_enter Tryz.func26,Tryz.ntmps26;go_wp2_with fail
 generalize (w.alloc (.cells #[.slice none 0 0,.slice none 0 0] 88)).alloc (.cells #[.int .i64 a,.pointer (some ⟨w.heap.size,0,none⟩),.slice none 0 0] 83)=w2 at *;go_wp2_with fail
 go_ret;have hbm:BM D (fun k=>k=w.heap.size) w2 w.heap.size [] [] (.slice none 0 0) (.slice none 0 0) :=
  ⟨H1.o,bB _ _ _ _,bB _ _ _ _,(fun k hk=>by cases hk),(fun k=>⟨.inl,fun h=>h.elim id fun h=>by rcases h with h|h<;>cases h⟩),(fun x hx=>by cases hx),(fun x hx=>by cases hx),fun k hk=>⟨sD (HD.o k hk) HB.o.size,fun e=>by have:=HD.o k hk;omega⟩⟩
 refine⟨w.heap.size+1,fun k=>k=w.heap.size+1∨k=w.heap.size,rfl,⟨fun k=>k=w.heap.size,w.heap.size,.slice none 0 0,.slice none 0 0,.slice none 0 0,⟨H2.o,hbm,bB _ _ _ _,(fun o ho=>by cases ho),fun k=>⟨fun h=>h.elim .inl fun h=>.inr (.inl h),fun h=>h.elim .inl fun h=>h.elim .inr fun h=>by cases h⟩,fun k hk e=>by have:=HD.o k hk;omega⟩⟩,fun k hk=>by omega,HB.o⟩
theorem mN(L W:List ChD)(a:Int)(g gb:Nat)(VP:Value)(w:World)(hB:Blk w g 83 #[.int .i64 a,.pointer (some ⟨gb,0,none⟩),VP])(hb:BR w gb L W)(he:∀c∈L,c.err=0)(hl:L.length≤1000000):
 Calls Tryz.prog 74 #[.pointer (some ⟨g,0,none⟩)] w fun e w'=>e=.returned (.tuple #[.int .i64 (dH L),.int .i64 (gW a L)])∧Below w.heap.size w w':=by
 obtain⟨A,c,A',c',hg,hL,-⟩:=hb
 obtain⟨n,hn⟩:∃n,L.length=n:=⟨_,rfl⟩
 have HN:=Hi hn;have HL:=Hi hL;have HE:=Hi he;have HB:=Hi hB;have HG:=Hi hg;rw[hn]at hl HG;clear hn hL he hB hg;go_enter Tryz.func74,Tryz.ntmps74;go_wp2_with fail
 go_loopw [4,5,6] (fun s4 s5 s6 wr=>∃k:Nat,s4=.int .i64 (dH (L.take k))∧s5=.int .i64 (gW a (L.take k))∧s6=.int .i64 k∧k≤n∧Hid (Below w.heap.size w wr)) (fun _ _ s6 _=>n-(intOf s6).toNat)
 case atStart=>exact⟨0,rfl,rfl,rfl,uU _,sA _ _⟩
 case round =>
  obtain⟨k,rfl,rfl,rfl,hk,HW⟩:=hrel
  obtain⟨b0,b1⟩:=ce2 (HB.o.keep (HW.o.block _ HB.o.lt))
  have g0:=cZ (HG.o.keep (HW.o.block _ HG.o.lt)) 0 rfl;by_cases hlt:k<n
  ·obtain⟨x,hx⟩:∃x,L[k]?=some x:=⟨_,sC (by rw[HN.o];exact hlt)⟩
   have HXN:=Hi (startN_snoc hx);have HXS:=Hi (startS_snoc (a:=a) hx);have hxe:=HE.o x (sJ hx);obtain⟨hs1,hs2,hs3,-⟩:=eE hxe
   have hss:=(eU (iX hxe).1).2;simp only[ChD.rf]at hss;have hN1:=gH (L.take k);have hN2:=lG (L:=L.take k) (fun y hy=>eE (HE.o y (uY hy)));have hS:=qQ (a:=a) (L:=L.take k) (fun y hy=>(eU (iX (HE.o y (uY hy))).1).2.2);obtain⟨q1,p1,hA,-,hc1⟩:=(aA HL.o.row HW.o).at_ (by rw[HN.o];omega) (by omega)
   have x0:wr.cell? ⟨q1,p1+k*5,none⟩=some (.int .i64 x.a):=hc1 _ _ (aI hx 0 (by omega));have x1:wr.cell? ⟨q1,p1+k*5+1,none⟩=some (.int .i64 x.s):=hc1 _ _ (aI hx 1 (by omega));have x2:wr.cell? ⟨q1,p1+k*5+2,none⟩=some (.int .i64 x.st):=hc1 _ _ (aI hx 2 (by omega));have x3:wr.cell? ⟨q1,p1+k*5+3,none⟩=some (.slice x.DA x.deps.length x.DC):=hc1 _ _ (aI hx 3 (by omega));have x4:wr.cell? ⟨q1,p1+k*5+4,none⟩=some (.slice x.OA x.ops.length x.OC):=hc1 _ _ (aI hx 4 (by omega));rw[hA]at g0;generalize dH (L.take k)=sN at HXN hN1 hN2 ⊢;generalize gW a (L.take k)=sS at HXS hS ⊢;obtain⟨m,hm⟩:∃m,x.ops.length=m:=⟨_,rfl⟩
   have HX2:Hid (kH sN x=if sN<x.st+m then x.st+m else sN):=by show _=_;rw[←hm];rfl
   have HX3:Hid (pG a sS x=if x.a=a∧sS≤x.s then x.s+1 else sS):=rfl;have hlen:(m:Int)≤40:=by omega
   rw[hm]at x4;have hw1:IntKind.i64.wrap (x.st+(m:Int))=x.st+(m:Int):=tH _ (by omega);have hw2:IntKind.i64.wrap (x.s+1)=x.s+1:=tH _ (by omega);obtain⟨z1,hz1⟩:∃b,decide (sN<x.st+(m:Int))=b:=⟨_,rfl⟩
   obtain⟨z2,hz2⟩:∃b,(x.a == a)=b:=⟨_,rfl⟩
   obtain⟨z3,hz3⟩:∃b,decide (sS≤x.s)=b:=⟨_,rfl⟩
   have HZ:=Hi (And.intro hz1 (And.intro hz2 hz3));have HQ:=Hi (Blk.new wr 33 #[.int .i64 x.a,.int .i64 x.s,.int .i64 x.st,.slice x.DA x.deps.length x.DC,.slice x.OA m x.OC]);have HW1:Hid (Below w.heap.size w (wr.alloc (.cells #[.int .i64 x.a,.int .i64 x.s,.int .i64 x.st,.slice x.DA x.deps.length x.DC,.slice x.OA m x.OC] 33))):=HW.o.alloc HW.o.size _;clear hc1 hA hx hxe hm;go_upto_region 7 with fail
   generalize wr.alloc (.cells #[.int .i64 x.a,.int .i64 x.s,.int .i64 x.st,.slice x.DA x.deps.length x.DC,.slice x.OA m x.OC] 33)=w1 at HQ HW1 ⊢;have b0':=cZ (HB.o.keep (HW1.o.block _ HB.o.lt)) 0 rfl;obtain⟨q0,q1',q2⟩:=ce3 HQ.o
   have q4:=cZ HQ.o 4 rfl;generalize wr.heap.size=B at HQ q0 q1' q2 q4 ⊢;clear x0 x1 x2 x3 x4 b0 b1 g0 HW;cases z1 with
   |true =>
    go_upto_region 9 with fail
    cases z2 with
    |false =>
     go_quiet (fail)
     change Exit.then _ _ _ _ (w1.drewN nq);have HW2:Hid (Below w.heap.size w (w1.drewN nq)):=aH HW1.o nq;have q1c:(w1.drewN nq).cell? ⟨B,1,none⟩=some (.int .i64 x.s):=q1';generalize w1.drewN nq=w2 at HW2 q1c ⊢;clear q0 q1' q2 q4 b0';go_wp2_with fail
     go_roundw
     case rel=>exact⟨k+1,by rw[HXN.o,HX2.o,tA (of_decide_eq_true HZ.o.1)],by rw[HXS.o,HX3.o,sT (fun h=>by have:=HZ.o.2.1;rw[h.1]at this;simp at this)],by go_num,hlt,HW2⟩
     case measure=>simp[intOf];omega
    |true =>
     cases z3 with
     |true =>
      go_quiet (fail)
      change Exit.then _ _ _ _ (w1.drewN nq);have HW2:Hid (Below w.heap.size w (w1.drewN nq)):=aH HW1.o nq;have q1c:(w1.drewN nq).cell? ⟨B,1,none⟩=some (.int .i64 x.s):=q1';generalize w1.drewN nq=w2 at HW2 q1c ⊢;clear q0 q1' q2 q4 b0';go_wp2_with fail
      go_roundw
      case rel=>exact⟨k+1,by rw[HXN.o,HX2.o,tA (of_decide_eq_true HZ.o.1)],by rw[HXS.o,HX3.o,tA ⟨by have:=HZ.o.2.1;simpa using this,of_decide_eq_true HZ.o.2.2⟩],by go_num,hlt,HW2⟩
      case measure=>simp[intOf];omega
     |false =>
      go_quiet (fail)
      change Exit.then _ _ _ _ (w1.drewN nq);have HW2:Hid (Below w.heap.size w (w1.drewN nq)):=aH HW1.o nq;have q1c:(w1.drewN nq).cell? ⟨B,1,none⟩=some (.int .i64 x.s):=q1';generalize w1.drewN nq=w2 at HW2 q1c ⊢;clear q0 q1' q2 q4 b0';go_wp2_with fail
      go_roundw
      case rel=>exact⟨k+1,by rw[HXN.o,HX2.o,tA (of_decide_eq_true HZ.o.1)],by rw[HXS.o,HX3.o,sT (fun h=>of_decide_eq_false HZ.o.2.2 h.2)],by go_num,hlt,HW2⟩
      case measure=>simp[intOf];omega
   |false =>
    go_upto_region 9 with fail
    cases z2 with
    |false =>
     go_quiet (fail)
     change Exit.then _ _ _ _ (w1.drewN nq);have HW2:Hid (Below w.heap.size w (w1.drewN nq)):=aH HW1.o nq;have q1c:(w1.drewN nq).cell? ⟨B,1,none⟩=some (.int .i64 x.s):=q1';generalize w1.drewN nq=w2 at HW2 q1c ⊢;clear q0 q1' q2 q4 b0';go_wp2_with fail
     go_roundw
     case rel=>exact⟨k+1,by rw[HXN.o,HX2.o,sT (of_decide_eq_false HZ.o.1)],by rw[HXS.o,HX3.o,sT (fun h=>by have:=HZ.o.2.1;rw[h.1]at this;simp at this)],by go_num,hlt,HW2⟩
     case measure=>simp[intOf];omega
    |true =>
     cases z3 with
     |true =>
      go_quiet (fail)
      change Exit.then _ _ _ _ (w1.drewN nq);have HW2:Hid (Below w.heap.size w (w1.drewN nq)):=aH HW1.o nq;have q1c:(w1.drewN nq).cell? ⟨B,1,none⟩=some (.int .i64 x.s):=q1';generalize w1.drewN nq=w2 at HW2 q1c ⊢;clear q0 q1' q2 q4 b0';go_wp2_with fail
      go_roundw
      case rel=>exact⟨k+1,by rw[HXN.o,HX2.o,sT (of_decide_eq_false HZ.o.1)],by rw[HXS.o,HX3.o,tA ⟨by have:=HZ.o.2.1;simpa using this,of_decide_eq_true HZ.o.2.2⟩],by go_num,hlt,HW2⟩
      case measure=>simp[intOf];omega
     |false =>
      go_quiet (fail)
      change Exit.then _ _ _ _ (w1.drewN nq);have HW2:Hid (Below w.heap.size w (w1.drewN nq)):=aH HW1.o nq;have q1c:(w1.drewN nq).cell? ⟨B,1,none⟩=some (.int .i64 x.s):=q1';generalize w1.drewN nq=w2 at HW2 q1c ⊢;clear q0 q1' q2 q4 b0';go_wp2_with fail
      go_roundw
      case rel=>exact⟨k+1,by rw[HXN.o,HX2.o,sT (of_decide_eq_false HZ.o.1)],by rw[HXS.o,HX3.o,sT (fun h=>of_decide_eq_false HZ.o.2.2 h.2)],by go_num,hlt,HW2⟩
      case measure=>simp[intOf];omega
  ·have HK:Hid (L.take k=L):=by show _=_;rw[sL (by rw[HN.o];omega)]
   rw[HK.o];go_wp2_with fail
   go_ret2;exact⟨rfl,HW.o⟩
end
section
theorem opsR_hand{D:Nat→Prop}{w:World}{A:Option Addr}{h:HandD}(hi:HandI h)(hr:aC D w 15 A h.K.length (bS h.K))(hL:∀c∈h.L,ChIn D w c)(hP:lC D w h.P):OpsR D w A h.K where
 row:=hr
 each:=fun x hx=>by
  have h12:=(hi.wf x hx).2.2;rcases sG.1 hx with hx|hx
  ·obtain⟨c,hc,hxc⟩:=iL.1 hx
   exact⟨((hL c hc).hp x.1 (bQ hxc).2.2.2).1,by omega⟩
  ·exact⟨(hP x.1 (bQ hx).2.2.2).1,by omega⟩
theorem hJ_all{D FB F:Nat→Prop}{w:World}{g gb:Nat}{h:HandD}{VL VW VP:Value}(m:HM D FB F w g gb h VL VW VP)(hi:HandI h):
 Calls Tryz.prog 67 #[.pointer (some ⟨g,0,none⟩)] w fun e w'=>∃A c,e=.returned (.agg #[.slice A h.K.length c])∧OpsR (fun k=>D k∨w.heap.size≤k∧k<w'.heap.size) w' A h.K∧Below w.heap.size w w':=by
 obtain⟨AP,cP,hVP,-,-,hrP⟩:=aC.of_own m.oP
 have HP:Hid (aC (fun k=>k<w.heap.size) w 13 AP h.P.length (eF h.P)):=hrP.more fun k hk=>(aD m.oP hk).2
 have HPI:Hid (lC D w h.P):=m.pin;have HDL:Hid (∀k,D k→k<w.heap.size):=fun k hk=>m.dlt hk
 have HBC:=Hi m.bm.brc;have HBK:=Hi m.blk;have HBR:=Hi m.bm.br;have HI:=Hi hi;have HIN:Hid (∀c∈h.L,ChIn D w c):=m.bm.inL;subst hVP;have hfew:=hi.few;have hnum:=hi.num;obtain⟨n,hn⟩:∃n,h.P.length=n:=⟨_,rfl⟩
 have HN:=Hi hn;have HG:=Hi (Blk.new w 58 #[.slice none 0 0]);have hw0:Below w.heap.size w (w.alloc (.cells #[.slice none 0 0] 58)):=(sA _ w).alloc (sB _) _;have HW0:=Hi hw0;have hmost:=hi.inv.most;have C1:=mN h.L h.W h.a g gb _ (w.alloc (.cells #[.slice none 0 0] 58)) (m.blk.keep (hw0.block _ m.blk.lt)) (m.bm.br.below hw0) (fun c hc=>(hi.inv.bk.err c hc).1) (by omega);have hs1:=gH h.L;have hs2:=lG (L:=h.L) (fun c hc=>eE (hi.inv.bk.err c hc).1);have HMR:Hid (∀k:Nat,∀o,h.P[k]?=some o→h.more.take (k+1)=h.more.take k++[(o,(dH h.L+(k:Int),h.a))]):=fun k o ho=>by
  rw[sQ,HandD.more,gL _ _ _ _ _ ho];rfl
 have HML:Hid (h.more.length=n):=by show _=_;rw[←hn];exact kX ..
 rw[hn]at hfew HBK;generalize dH h.L=sN at C1 hs1 hs2 HMR;generalize gW h.a h.L=sS at C1;clear hw0 hn hrP m hi hnum;go_enter Tryz.func67,Tryz.ntmps67;go_wp2_with fail
 generalize w.alloc (.cells #[.slice none 0 0] 58)=w1 at *;go_at_call 74;refine C1.mono ?_;rintro e w2 ⟨rfl,hb2⟩;have HG2:=Hi (HG.o.keep (hb2.block _ HG.o.lt));have HW2:Hid (Below w.heap.size w w2):=HW0.o.trans (hb2.mono HW0.o.size);obtain⟨q,hq⟩:∃q,w.heap.size=q:=⟨_,rfl⟩
 have HQ:=Hi hq;rw[hq]at HG2 ⊢;clear C1 hb2 HG HW0 hq;go_wp2_with fail
 go_loopw [5,6] (fun s5 s6 wr=>∃(k:Nat) (v5:Value),v5=s5∧s6=.int .i64 k∧k≤n∧Hid (wr.ownsRow (q+1) 115 15 v5 k (bS (h.more.take k)))∧Hid (Blk wr q 58 #[.slice none 0 0])∧Hid (Below w.heap.size w wr)) (fun _ s6 _=>n-(intOf s6).toNat)
 case atStart=>exact⟨0,_,rfl,rfl,uU _,by show World.ownsRow _ _ _ _ _ _ _;simpa[bS] using bB _ _ _ _,HG2,HW2⟩
 case round =>
  clear HG2 HW2;obtain⟨k,u5,rfl,rfl,hk,HO,HG,HB⟩:=hrel
  have hbl:=HBK.o.keep (HB.o.block _ HBK.o.lt);obtain⟨b0,b1,b2⟩:=ce3 hbl
  clear hbl;by_cases hlt:k<n
  ·obtain⟨ox,hox⟩:∃ox,h.P[k]?=some ox:=⟨_,sC (by rw[HN.o];exact hlt)⟩
   have HJ:=Hi (HMR.o k ox hox);obtain⟨b3,o3,hA3,-,hc3⟩:=(aA HP.o HB.o).at_ (by rw[HN.o];omega) (by omega)
   have key:∀i v,i<13→(opC ox)[i]?=some v→wr.cell? ⟨b3,o3+k*13+i,none⟩=some v:=fun i v h1 h2=>by
    have h3:=bM hox i h1;rw[h2]at h3;have:=hc3 _ _ h3
    rw[←tY]at this;exact this
   rw[hA3]at b2;have q0:wr.cell? ⟨b3,o3+k*13,none⟩=some (.int .i64 ox.k):=key 0 _ (by omega) rfl;have q1:wr.cell? ⟨b3,o3+k*13+1,none⟩=some (.int .i64 ox.on):=key 1 _ (by omega) rfl;have q2:wr.cell? ⟨b3,o3+k*13+2,none⟩=some (.int .i64 ox.oa):=key 2 _ (by omega) rfl;have q3:wr.cell? ⟨b3,o3+k*13+3,none⟩=some (.string ox.key):=key 3 _ (by omega) rfl;have q4:wr.cell? ⟨b3,o3+k*13+4,none⟩=some (.int .i64 ox.en):=key 4 _ (by omega) rfl;have q5:wr.cell? ⟨b3,o3+k*13+5,none⟩=some (.int .i64 ox.ea):=key 5 _ (by omega) rfl;have q6:wr.cell? ⟨b3,o3+k*13+6,none⟩=some (.bool ox.ins):=key 6 _ (by omega) rfl;have q7:wr.cell? ⟨b3,o3+k*13+7,none⟩=some (.int .i64 ox.vk):=key 7 _ (by omega) rfl;have q8:wr.cell? ⟨b3,o3+k*13+8,none⟩=some (.int .i64 ox.vn):=key 8 _ (by omega) rfl;have q9:wr.cell? ⟨b3,o3+k*13+9,none⟩=some (.string ox.vt):=key 9 _ (by omega) rfl;have q10:wr.cell? ⟨b3,o3+k*13+10,none⟩=some (.int .i64 ox.va):=key 10 _ (by omega) rfl;have q11:wr.cell? ⟨b3,o3+k*13+11,none⟩=some (.int .i64 ox.vb):=key 11 _ (by omega) rfl;have q12:wr.cell? ⟨b3,o3+k*13+12,none⟩=some (.slice ox.A ox.l.length ox.c):=key 12 _ (by omega) rfl;have hwst:IntKind.i64.wrap (sN+(k:Int))=sN+(k:Int):=tH _ (by omega);clear key hc3 hox hA3;go_upto_region 6 with fail
   refine eB 17 (u5) (by kernel_rfl) (by kernel_rfl) (fun _ _ _ h=>h) (Or.inl ⟨by rfl,?_⟩) ?_
   ·(intro w;go_simp;try with_reducible rfl)
   simp only[tE,tO,tG,tT];go_frame;repeat (first|(refine aQ rfl (fun K hK=>?_);go_simp;refine hK _ ?_;clear hK K)|(refine wpStill_skip rfl ?_;go_frame))
   refine wpStill_nil ?_;generalize hwd:wr.drew=wd;have HBD:Hid (Below w.heap.size w wd):=by rw[←hwd];exact HB.o.drew
   have HOD:Hid (wd.ownsRow (q+1) 115 15 u5 k (bS (h.more.take k))):=by rw[←hwd];exact HO.o
   have HGD:Hid (Blk wd q 58 #[.slice none 0 0]):=by rw[←hwd];exact HG.o
   clear hwd HB HO HG b0 b1 b2;clear q0 q1 q2 q3 q4 q5 q6 q7 q8 q9 q10 q11 q12;go_wp2_with (at_builtin;refine aX 56 115 (mS) 15 152 Tryz.underlying56 infoO rfl (by omega) rfl (.tmp 21) (.tmp 38) rfl (q+1) (u5) (k) (bS (h.more.take k)) rfl (HOD.o.alloc _) (wd.heap.size) 1 (qC (ox,(sN+(k:Int),h.a))) rfl ?c1 ?c2 ?c3 ?c4 ?c5 ?c6 ?_)
   try case c1=>rfl
   try case c2=>intro j u hj;exact dN _ _ _ hj
   try case c3=>first|exact jK [(ox,(sN+(k:Int),h.a))]|exact⟨rfl,rfl⟩|rfl
   try case c4=>omega
   try case c5=>omega
   try case c6=>(have h1:=HGD.o.lt;simp;omega)
   intro v1 w3 hown1 hg1 hat1;have hneg:u5.ownBlock≠some q:=fun e=>by have:=(aD HOD.o e).1;omega
   have HB1:Hid (Below w.heap.size w w3):=(HBD.o.alloc HBD.o.size _).grown hg1 (by have:=HBD.o.size;simp;omega) (fun j hj=>by have h1:=(aD HOD.o hj).1;have h2:=HQ.o;omega);have HG1:Hid (Blk w3 q 58 #[.slice none 0 0]):=(HGD.o.alloc _).grown hg1 hneg;have HO1:Hid (w3.ownsRow (q+1) 115 15 v1 (k+1) (bS (h.more.take (k+1)))):=by
    show World.ownsRow _ _ _ _ _ _ _;rw[HJ.o,fZ];simpa[bS] using hown1
   clear hown1 hat1 hg1 hneg HBD HOD HGD;go_wp2_with fail
   go_roundw
   case rel=>exact⟨k+1,v1,rfl,by go_num,by omega,HO1,HG1,HB1⟩
   case measure=>simp[intOf];omega
  ·have hkn:k=n:=by omega
   subst hkn;have HMK:Hid (h.more.take k=h.more):=by show _=_;rw[sL (by rw[HML.o];exact sB _)]
   rw[HMK.o]at HO;obtain⟨AM,cM,e5,-,-,hrM⟩:=aC.of_own HO.o
   subst e5;obtain⟨A,c,VW',hg0,hL0,hcc,hcm⟩:=HBC.o.below HB.o
   have hal:=HI.o.inv.most;have C2:=sState_more h.L A c h.more AM cM wr hL0 (by rw[HML.o];exact hrM.more fun j hj=>(aD HO.o hj).2) (by rw[HML.o];omega) (fun c hc=>eE (HI.o.inv.bk.err c hc).1) (by omega) hcc hcm;rw[HML.o]at C2;have e0:bE h.L++h.more=h.K:=rfl;obtain⟨nK,hnK⟩:∃n,h.K.length=n:=⟨_,rfl⟩
   have HNK:=Hi hnK;rw[e0,hnK]at C2;clear e0 hnK;have g0:=cZ hg0 0 rfl;generalize h.L.length=nL at g0 C2;clear hg0 hL0 hcc hcm hal hrM hlt;go_wp2_with fail
   go_at_call 20;refine C2.mono ?_;rintro e w4 ⟨v4,rfl,ho4,hb4⟩;obtain⟨A4,c4,e4,-,-,-⟩:=aC.of_own ho4
   subst e4;have HG4:=Hi (HG.o.keep (hb4.block _ HG.o.lt));have HB4:Hid (Below w.heap.size w w4):=HB.o.trans (hb4.mono HB.o.size);have HO4:Hid (w4.ownsRow (q+1) 115 15 (.slice A4 nK c4) nK (bS h.K)):=bG ho4 fun j hj=>by have h1:=(aD ho4 hj).1;have h2:=HG.o.lt;omega
   have p0:=cZ HG4.o 0 rfl;have f0:=HG4.o.frozen 0;clear C2 ho4 hb4 g0 b0 b1 b2 HO HG HB HBK;go_wp2_with fail
   have hch:Chg (fun j=>j=q) w4 (w4.setCell ⟨q,0,none⟩ (.slice A4 nK c4)):=(Chg.refl (M:=fun j=>j=q) w4).setCell (p:=⟨q,0,none⟩) (.inl rfl) _;have hq0:=HQ.o;have hB5:Below w.heap.size w (w4.setCell ⟨q,0,none⟩ (.slice A4 nK c4)):=HB4.o.setCell (p:=⟨q,0,none⟩) (by show w.heap.size≤q;omega) _;have ho5:=aT HO4.o fun j hj=>hch.block j (aD HO4.o hj).2 (by have:=(aD HO4.o hj).1;omega)
   obtain⟨A5,c5,e5,-,-,hr5⟩:=aC.of_own ho5
   simp only[tS,true_and]at e5;obtain⟨rfl,rfl⟩:=e5
   refine bodyPost_ret (results_cell_row rfl _ _ q _ _ _ _ rfl (HG4.o.set_ 0 (.slice A4 nK c4)) Tryz.underlying58 rfl (by kernel_rfl)) rfl ?_;refine⟨_,_,by rw[HNK.o];rfl,opsR_hand HI.o (by rw[HNK.o];exact hr5.more fun j hj=>.inr ⟨by have:=(aD ho5 hj).1;omega,(aD ho5 hj).2⟩) (fun x hx=>((HIN.o x hx).keep fun j hj=>hB5.block j (HDL.o j hj)).more fun j hj=>.inl hj) (fun x hx=>⟨(((HPI.o x hx).1).keep fun j hj=>hB5.block j (HDL.o j hj)).more fun j hj=>.inl hj,(HPI.o x hx).2⟩),hB5⟩
theorem hJ_any{D FB F:Nat→Prop}{w:World}{g gb:Nat}{h:HandD}{VL VW VP:Value}(m:HM D FB F w g gb h VL VW VP)(hi:HandI h):
 Calls Tryz.prog 67 #[.pointer (some ⟨g,0,none⟩)] w fun e w'=>∃A c,e=.returned (.agg #[.slice A h.K.length c])∧OpsR (fun k=>k<w'.heap.size) w' A h.K∧Below w.heap.size w w':=by
 refine(hJ_all m hi).mono ?_
 rintro e w' ⟨A,c,rfl,hr,hb⟩;exact⟨A,c,rfl,hr.more fun k hk=>hk.elim (fun h=>sD (m.dlt h) hb.size) fun h=>h.2,hb⟩
end
section
theorem hKey_any(K:List OpI)(o1 o2:Int)(ky:ByteArray)(A:Option Addr)(c:Nat)(w:World)(hr:aC (fun k=>k<w.heap.size) w 15 A K.length (bS K))(hl:K.length≤100000):
 Calls Tryz.prog 70 #[.agg #[.slice A K.length c],.agg #[.int .i64 o1,.int .i64 o2],.string ky] w fun e w'=>(∃k:Int,e=.returned (.int .i64 k))∧Below w.heap.size w w':=by
 obtain⟨n,hn⟩:∃n,K.length=n:=⟨_,rfl⟩
 have h1:=Blk.new w 58 #[.slice A n c];have hb1:Below w.heap.size w (w.alloc (.cells #[.slice A n c] 58)):=(sA _ w).alloc (sB _) _;have h2:=Blk.new (w.alloc (.cells #[.slice A n c] 58)) 48 #[.int .i64 o1,.int .i64 o2];have hb2:=hb1.alloc hb1.size (.cells #[.int .i64 o1,.int .i64 o2] 48);have H1:=Hi (h1.alloc (.cells #[.int .i64 o1,.int .i64 o2] 48));have C1:=sKind_any K o1 o2 A c _ (aA hr hb2) hl;rw[tB]at h2;have H2:=Hi h2;have HB:=Hi hb2;rw[hn]at C1 ⊢;clear hr hb1 hb2 h1 h2 hn;go_enter Tryz.func70,Tryz.ntmps70;go_upto_region 1 with fail
 generalize (w.alloc (.cells #[.slice A n c] 58)).alloc (.cells #[.int .i64 o1,.int .i64 o2] 48)=w1 at H1 H2 HB C1 ⊢;have p0:=cZ H1.o 0 rfl;obtain⟨p1,p2⟩:=ce2 H2.o
 go_wp2_with fail
 go_at_call 22;refine C1.mono ?_;rintro e w2 ⟨rfl,hb⟩;have HB2:Hid (Below w.heap.size w w2):=HB.o.trans (hb.mono HB.o.size);clear C1 hb p0 p1 p2 H1 H2 HB;generalize kV K (o1,o2)=kd;go_wp2_with fail
 all_goals (go_ret;exact⟨⟨_,rfl⟩,HB2.o⟩)
def IndexR(K:List OpI)(obj:Rf)(at_ more:Int)(base:Nat)(e:Ending)(w':World):Prop :=
 (∃k:Int,k≠0∧e=.returned (.tuple #[.slice none 0 0,.int .i64 k])) ∨
 (∃v,e=.returned (.tuple #[v,.int .i64 0])∧w'.ownsRow base 48 2 v (iF K obj 1000100).length (aF (iF K obj 1000100))∧0≤at_∧at_<(iF K obj 1000100).length+more)
theorem hIndex_any{K:List OpI}(hK:KTree K 1000100)(o1 o2 at_ more:Int)(hm:0≤more∧more≤1)(A:Option Addr)(c:Nat)(w:World)(hr:OpsR (fun k=>k<w.heap.size) w A K)(hl:K.length≤50000)(hwf:∀x∈K,IntKind.i64.wrap x.1.vn=x.1.vn)(hkd:∀x∈K,1≤x.1.k):
 Calls Tryz.prog 72 #[.agg #[.slice A K.length c],.agg #[.int .i64 o1,.int .i64 o2],.int .i64 at_,.int .i64 more] w fun e w'=>IndexR K (o1,o2) at_ more w.heap.size e w'∧Below w.heap.size w w':=by
 obtain⟨n,hn⟩:∃n,K.length=n:=⟨_,rfl⟩
 have h1:=Blk.new w 58 #[.slice A n c];have hb1:Below w.heap.size w (w.alloc (.cells #[.slice A n c] 58)):=(sA _ w).alloc (sB _) _;have h2:=Blk.new (w.alloc (.cells #[.slice A n c] 58)) 48 #[.int .i64 o1,.int .i64 o2];have hb2:=hb1.alloc hb1.size (.cells #[.int .i64 o1,.int .i64 o2] 48);have H1:=Hi (h1.alloc (.cells #[.int .i64 o1,.int .i64 o2] 48));have C1:=sKind_any K o1 o2 A c _ (aA hr.row hb2) (by omega);have C2:=fun(V:World) (hv:Below _ _ V)=>sSeen_any hK o1 o2 A c 1000101 V ((hr.below hb2).below hv) hl (by omega) hwf hkd
 have HSL:Hid ((iF K (o1,o2) 1000100).length≤50001):=by
  have h1:=(hK.all (obj:=(o1,o2))).2.1;have h3:=wD (hO K (o1,o2)) (jS K (o1,o2) 1000100 (0,0));show _≤_;unfold iF;omega
 rw[tB]at h2;have H2:=Hi h2;have HB:=Hi hb2;have C2:=Hi C2;rw[hn]at C1 C2 ⊢;clear hr hb1 hb2 h1 h2 hn hwf hkd;go_enter Tryz.func72,Tryz.ntmps72;go_upto_region 1 with fail
 generalize (w.alloc (.cells #[.slice A n c] 58)).alloc (.cells #[.int .i64 o1,.int .i64 o2] 48)=w1 at H1 H2 HB C1 C2 ⊢;have p0:=cZ H1.o 0 rfl;obtain⟨p1,p2⟩:=ce2 H2.o
 go_wp2_with fail
 go_at_call 22;refine C1.mono ?_;rintro e w2 ⟨rfl,hb⟩;have HB2:Hid (Below w.heap.size w w2):=HB.o.trans (hb.mono HB.o.size);have C2:=C2.out w2 hb;have H1:=Hi (H1.o.keep (hb.block _ H1.o.lt));have H2:=Hi (H2.o.keep (hb.block _ H2.o.lt));have p0:=cZ H1.o 0 rfl;obtain⟨p1,p2⟩:=ce2 H2.o
 clear C1 hb H1 H2 HB;generalize kV K (o1,o2)=kd;by_cases h0:kd=0
 ·subst h0;go_wp2_with fail
  go_ret2;exact⟨.inl ⟨6,by decide,rfl⟩,HB2.o⟩
 by_cases h6:kd=6
 case neg =>
  go_wp2_with fail
  go_ret2;exact⟨.inl ⟨10,by decide,rfl⟩,HB2.o⟩
 subst h6;clear h0;go_wp2_with fail
 go_at_call 23;refine C2.mono ?_;rintro e w3 ⟨v,rfl,ho,hb⟩;have HB3:Hid (Below w.heap.size w w3):=HB2.o.trans (hb.mono HB2.o.size);have HBS:=Hi HB2.o.size;generalize hS:iF K (o1,o2) 1000100=S at ho HSL;have HS:=Hi hS;have HO:Hid (w3.ownsRow w.heap.size 48 2 v S.length (aF S)):=bG ho fun k hk=>sY HBS.o (aD ho hk).1
 obtain⟨A3,c3,e3,-,-,-⟩:=aC.of_own ho
 subst e3;obtain⟨s,hs⟩:∃s,S.length=s:=⟨_,rfl⟩
 have hs2:=HSL.o;rw[hs]at hs2;have HSS:=Hi hs;rw[hs];clear C2 hb ho hS hs HB2 p0 p1 p2;have hw1:IntKind.i64.wrap ((s:Int)+more)=(s:Int)+more:=tH _ (by omega);by_cases hneg:at_<0
 ·go_wp2_with fail
  go_ret2;exact⟨.inl ⟨1,by decide,rfl⟩,HB3.o⟩
 by_cases hge:at_≥(s:Int)+more
 ·go_wp2_with fail
  go_ret2;exact⟨.inl ⟨1,by decide,rfl⟩,HB3.o⟩
 ·go_wp2_with fail
  go_ret2;refine⟨.inr ⟨_,rfl,?_,by omega,by rw[HS.o,HSS.o];omega⟩,HB3.o⟩
  rw[HS.o];have:=HO.o
  rw[HSS.o]at this ⊢;exact this
end
section
theorem kA.same{D F:Nat→Prop}{w w':World}{g:Nat}{h:HandD}(m:HMx D F w g h)(hb:Below w.heap.size w w'):kA D F w w' g h:=by
 obtain⟨FB,gb,VL,VW,VP,m⟩:=m
 exact⟨D,F,⟨FB,gb,VL,VW,VP,m.below hb⟩,fun _ h=>h,fun _ h=>.inl h,fun _ h=>.inl h,Chg.of_below hb⟩
def kE(D F:Nat→Prop)(w:World)(g:Nat)(e:Ending)(w':World):Prop :=
 ∃(h':HandD) (i1 i2 k:Int),e=.returned (.tuple #[.agg #[.int .i64 i1,.int .i64 i2],.int .i64 k])∧eL (i1,i2)∧HandI h'∧kA D F w w' g h'
theorem kE.no{D F:Nat→Prop}{w w':World}{g:Nat}{h:HandD}(k:Int)(hi:HandI h)(m:HMx D F w g h)(hb:Below w.heap.size w w'):kE D F w g (.returned (.tuple #[.agg #[.int .i64 0,.int .i64 0],.int .i64 k])) w' :=
 ⟨h,0,0,k,rfl,⟨by decide,by decide⟩,hi,kA.same m hb⟩
theorem HM.pushOp{D FB F:Nat→Prop}{w0 w8 w5:World}{g gb:Nat}{h:HandD}{VL VW VP V5 vp:Value}(m0:HM D FB F w0 g gb h VL VW VP)(hb:Below w0.heap.size w0 w8){o:OpD}{cells:Array Value}{T:TypeId}
 (hg5:(w8.drew.alloc (.cells cells T)).grownBy w5 VP.ownBlock) (ho5:w5.ownsRow 0 53 13 V5 (h.P.length+1) (eF h.P++opC o)) (hat:V5.ownBlock=VP.ownBlock∨V5.ownBlock=some (w8.drew.alloc (.cells cells T)).heap.size)
 {base:Nat} (hp:w8.ownsRow base 48 2 vp o.l.length (aF o.l)) (hvp:vp=.slice o.A o.l.length o.c) (hbase:w0.heap.size≤base) (hl:o.l.length≤12) {q:Nat} (hq:w0.heap.size≤q) (hq8:q<w8.heap.size) (hqv:vp.ownBlock≠some q) (x0 x1:Value) :
 kA D F w0 (((w5.setCell ⟨g,2,none⟩ V5).setCell ⟨q,0,none⟩ x0).setCell ⟨q,1,none⟩ x1) g (h.push o):=by
 have m:=m0.below hb;have hsz:(w8.drew.alloc (.cells cells T)).heap.size=w8.heap.size+1:=tB ..;have hs5:w8.heap.size+1≤w5.heap.size:=by have:=hg5.size;omega
 have hk:∀k,k<w8.heap.size→VP.ownBlock≠some k→w5.heap[k]?=w8.heap[k]?:=fun k h1 h2=>(hg5.block k (by omega) (fun e=>h2 e.symm)).trans (sM w8.drew _ k h1)
 have hvpl:∀k,vp.ownBlock=some k→w0.heap.size≤k∧k<w8.heap.size:=fun k e=>⟨sY hbase (aD hp e).1,(aD hp e).2⟩
 have hVPl:∀k,VP.ownBlock=some k→k<w0.heap.size:=fun k e=>(aD m0.oP e).2
 have hgl:g<w0.heap.size:=m0.blk.lt;have hV5:∀k,V5.ownBlock=some k→VP.ownBlock=some k∨k=w8.heap.size+1:=fun k e=>by
  rcases hat with h1|h1
  ·rw[h1]at e;exact .inl e
  ·rw[h1,hsz]at e;exact .inr (tK e).symm
 have hD':∀k,(D k∨vp.ownBlock=some k)→k<w5.heap.size∧k≠g∧¬FB k∧V5.ownBlock≠some k:=by
  intro k hd;rcases hd with hd|hd
  ·have h1:=m0.dlt hd;have h2:=hb.size;refine⟨by omega,fun e=>m0.hD k hd (e▸m0.inG),fun e=>m0.hD k hd (m0.inB e),fun e=>?_⟩
   rcases hV5 k e with h3|h3
   ·exact m0.hD k hd (m0.inP h3)
   ·omega
  ·obtain⟨h1,h2⟩:=hvpl k hd
   refine⟨by omega,by omega,fun e=>by have:=m0.bm.flt e;omega,fun e=>?_⟩
   rcases hV5 k e with h3|h3
   ·have:=hVPl k h3;omega
   ·omega
 have hr5:aC (fun k=>D k∨vp.ownBlock=some k) w5 2 o.A o.l.length (aF o.l):=by
  have h1:w5.ownsRow base 48 2 vp o.l.length (aF o.l):=aT hp fun k e=>hk k (hvpl k e).2 fun e'=>by have:=hVPl k e';have:=(hvpl k e).1;omega
  obtain⟨A,c,e1,-,-,h2⟩:=aC.of_own h1
  rw[hvp]at e1;simp only[tS,true_and]at e1;obtain⟨rfl,rfl⟩:=e1
  exact h2.more fun k hk=>.inr hk
 have hpin:lC (fun k=>D k∨vp.ownBlock=some k) w5 (h.P++[o]):=fun x hx=>by
  rcases sG.1 hx with hx|hx
  ·have h1:=m.pin x hx;refine⟨(h1.1.keep fun k hd=>hk k (m.dlt hd) fun e=>m.hD k hd (m.inP e)).more fun k hd=>.inl hd,h1.2⟩
  ·rw[sP.1 hx];exact⟨hr5,by omega⟩
 have ho':w5.ownsRow 0 53 13 V5 (h.P++[o]).length (eF (h.P++[o])):=by
  have e1:eF (h.P++[o])=eF h.P++opC o:=by simp[eF]
  rw[sF,wS,e1];exact ho5
 have hm:=m.setP (w':=w5) (V':=V5) (P':=h.P++[o]) (D':=fun k=>D k∨vp.ownBlock=some k) (by omega) hk ho' (hat.elim .inl fun h1=>.inr fun k e=>by rw[h1,hsz]at e;have:=tK e;omega) (fun k hd=>.inl hd) hD' hpin;have hqF:∀k,(k=g∨FB k∨V5.ownBlock=some k)→k≠q:=fun k hf e=>by
  subst e;rcases hf with h1|h1|h1
  ·omega
  ·have:=m0.bm.flt h1;omega
  ·rcases hV5 k h1 with h3|h3
   ·have:=hVPl k h3;omega
   ·omega
 have hqD:∀k,(D k∨vp.ownBlock=some k)→k≠q:=fun k hd e=>by
  subst e;rcases hd with h1|h1
  ·have:=m0.dlt h1;omega
  ·exact hqv h1
 have hset:∀k,k≠q→∀W:World,((W.setCell ⟨q,0,none⟩ x0).setCell ⟨q,1,none⟩ x1).heap[k]?=W.heap[k]?:=fun k hk W=>(sU _ _ _ _ hk).trans (sU _ _ _ _ hk)
 refine⟨_,_,⟨FB,gb,VL,VW,V5,hm.keep (by simp) (fun k hd=>hset k (hqD k hd) _) (fun k hf=>hset k (hqF k hf) _)⟩,fun k hd=>.inl hd,fun k hd=>?_,fun k hf=>?_,?_⟩
 ·rcases hd with h1|h1
  ·exact .inl h1
  ·exact .inr (.inr (hvpl k h1).1)
 ·rcases hf with rfl|h1|h1
  ·exact .inl m0.inG
  ·exact .inl (m0.inB h1)
  ·rcases hV5 k h1 with h3|h3
   ·exact .inl (m0.inP h3)
   ·have:=hb.size;exact .inr (by omega)
 ·refine(((Chg.grown ((Chg.of_below hb).drew.alloc _) hg5 fun k e=>.inl (m0.inP e)).setCell (.inl m0.inG) _).setCell (.inr hq) _).setCell (.inr hq) _
end
section
def oD(q:Nat)(D F:Nat→Prop)(w w':World)(g:Nat)(h':HandD):Prop :=
 ∃D' F',HMx D' F' w' g h'∧(∀k,D k→D' k)∧(∀k,D' k→D k∨F k∨w.heap.size≤k)∧(∀k,F' k→F k∨w.heap.size≤k)∧Chg F w w'∧¬D' q∧¬F' q
theorem oD.below{q:Nat}{D F:Nat→Prop}{w w' w'':World}{g:Nat}{h:HandD}(r:oD q D F w w' g h)(hb:Below w'.heap.size w' w''):oD q D F w w'' g h:=by
 obtain⟨D',F',⟨FB,gb,VL,VW,VP,m⟩,h1,h2,h3,h4,h5⟩:=r
 exact⟨D',F',⟨FB,gb,VL,VW,VP,m.below hb⟩,h1,h2,h3,h4.trans (Chg.of_below hb) (fun i _ h=>h),h5⟩
theorem oD.fin{q:Nat}{D F:Nat→Prop}{w w':World}{g:Nat}{h:HandD}(r:oD q D F w w' g h)(hq:w.heap.size≤q)(x0 x1:Value):kA D F w ((w'.setCell ⟨q,0,none⟩ x0).setCell ⟨q,1,none⟩ x1) g h:=by
 obtain⟨D',F',⟨FB,gb,VL,VW,VP,m⟩,h1,h2,h3,h4,h5,h6⟩:=r
 have hset:∀k,k≠q→((w'.setCell ⟨q,0,none⟩ x0).setCell ⟨q,1,none⟩ x1).heap[k]?=w'.heap[k]?:=fun k hk=>(sU _ _ _ _ hk).trans (sU _ _ _ _ hk)
 exact⟨D',F',⟨FB,gb,VL,VW,VP,m.keep (by simp) (fun k hk=>hset k fun e=>h5 (e▸hk)) (fun k hk=>hset k fun e=>h6 (e▸hk))⟩,h1,h2,h3,(h4.setCell (.inr hq) _).setCell (.inr hq) _⟩
theorem BM.less{D D1 F:Nat→Prop}{w:World}{g:Nat}{L W:List ChD}{VL VW:Value}(b:BM D1 F w g L W VL VW)(hD:∀k,D k→D1 k)(hL:∀c∈L,ChIn D w c)(hW:∀c∈W,ChIn D w c):BM D F w g L W VL VW :=
 ⟨b.blk,b.oL,b.oW,b.ne,b.hF,hL,hW,fun k hk=>b.hD k (hD k hk)⟩
section
variable{D FB F E:Nat→Prop}{w w8 w9:World}{g gb q:Nat}{h:HandD}{VL VW VP:Value}
theorem HM.commitD(m:HM D FB F w g gb h VL VW VP)(hb:Below w.heap.size w w8)(hE:∀k,E k→w.heap.size≤k∧k<w8.heap.size):
 BM (fun k=>D k∨VP.ownBlock=some k∨E k) FB w8 gb h.L h.W VL VW:=by
 refine(m.bm.below hb).moreD (fun k hk=>.inl hk) fun k hk=>?_
 have hs:=hb.size;rcases hk with hk|hk|hk
 ·exact⟨sD (m.dlt hk) hs,fun e=>m.hD k hk (m.inB e)⟩
 ·exact⟨sD (aD m.oP hk).2 hs,m.nP k hk⟩
 ·have:=hE k hk
  exact⟨this.2,fun e=>by have:=m.bm.flt e;omega⟩
theorem HM.committed(m:HM D FB F w g gb h VL VW VP)(hb:Below w.heap.size w w8)(hE:∀k,E k→w.heap.size≤k∧k<w8.heap.size∧k≠q)(hq:w.heap.size≤q)(hq8:q<w8.heap.size){L' W':List ChD}
 (ht:TakeR (fun k=>D k∨VP.ownBlock=some k∨E k) FB w8 w9 gb L' W'):oD q D F w (w9.setCell ⟨g,2,none⟩ (.slice none 0 0)) g { h with L:=L',W:=W',P:=[] }:=by
 obtain⟨F',VL',VW',b,hF',hc⟩:=ht
 have hs:=hb.size;have hgl:=m.blk.lt;have hg9:Blk w9 g 83 #[.int .i64 h.a,.pointer (some ⟨gb,0,none⟩),VP]:=(m.blk.keep (hb.block _ hgl)).keep (hc.block g (by omega) m.ng);have hgD:¬(D g∨VP.ownBlock=some g∨E g):=fun e=>by
  rcases e with e|e|e
  ·exact m.hD g e m.inG
  ·exact m.npg e
  ·have:=hE g e;omega
 have hgF:¬F' g:=fun e=>by
  rcases hF' g e with e|e
  ·exact m.ng e
  ·omega
 refine⟨fun k=>D k∨VP.ownBlock=some k∨E k,fun k=>k=g∨F' k,⟨F',gb,VL',VW',.slice none 0 0,⟨hg9.set_ 2 _,b.keep (by simp) (fun k hk=>sU _ _ _ _ fun e=>hgD (by have e:k=g:=e;rw[←e];exact hk)) (fun k hk=>sU _ _ _ _ fun e=>hgF (by have e:k=g:=e;rw[←e];exact hk)),bB _ _ _ _,(fun o ho=>by cases ho),fun k=>⟨fun e=>e.elim .inl fun e=>.inr (.inl e),fun e=>e.elim .inl fun e=>e.elim .inr fun e=>by cases e⟩,fun k hk e=>?_⟩⟩,
  fun k hk=>.inl hk,fun k hk=>?_,fun k hk=>?_,?_,fun e=>?_,fun e=>?_⟩
 ·rcases e with e|e
  ·exact hgD (e▸hk)
  ·exact(b.hD k hk).2 e
 ·rcases hk with e|e|e
  ·exact .inl e
  ·exact .inr (.inl (m.inP e))
  ·exact .inr (.inr (hE k e).1)
 ·rcases hk with e|e
  ·exact .inl (e▸m.inG)
  ·rcases hF' k e with e|e
   ·exact .inl (m.inB e)
   ·exact .inr (by omega)
 ·exact((Chg.of_below hb).trans hc (fun i _ e=>m.inB e)).setCell (.inl m.inG) _
 ·rcases e with e|e|e
  ·have:=m.dlt e;omega
  ·have:=(aD m.oP e).2;omega
  ·exact(hE q e).2.2 rfl
 ·rcases e with e|e
  ·omega
  ·rcases hF' q e with e|e
   ·have:=m.bm.flt e;omega
   ·omega
theorem HM.refused(m:HM D FB F w g gb h VL VW VP)(hb:Below w.heap.size w w8)(hE:∀k,E k→w.heap.size≤k∧k<w8.heap.size∧k≠q)(hq:w.heap.size≤q)(hq8:q<w8.heap.size)
 (ht:TakeR (fun k=>D k∨VP.ownBlock=some k∨E k) FB w8 w9 gb h.L h.W):oD q D F w w9 g h:=by
 obtain⟨F',VL',VW',b,hF',hc⟩:=ht
 have hs:=hb.size;have m8:=m.below hb;have hk:lD D w8 w9:=fun k hk=>hc.block k (m8.dlt hk) fun e=>m8.hD k hk (m8.inB e)
 have b':BM D F' w9 gb h.L h.W VL' VW':=b.less (fun k hk=>.inl hk) (fun c hc=>(m8.bm.inL c hc).keep hk) (fun c hc=>(m8.bm.inW c hc).keep hk);have m9:=m8.book b' hF' hc;refine⟨D,_,⟨F',gb,VL',VW',VP,m9⟩,fun k hk=>hk,fun k hk=>.inl hk,fun k hk=>?_,(Chg.of_below hb).trans hc (fun i _ e=>m.inB e),fun e=>?_,fun e=>?_⟩
 ·rcases hk with e|e|e
  ·exact .inl (e▸m.inG)
  ·rcases hF' k e with e|e
   ·exact .inl (m.inB e)
   ·exact .inr (by omega)
  ·exact .inl (m.inP e)
 ·have:=m.dlt e;omega
 ·rcases e with e|e|e
  ·have:=m.blk.lt;omega
  ·rcases hF' q e with e|e
   ·have:=m.bm.flt e;omega
   ·omega
  ·have:=(aD m.oP e).2;omega
end
end
section
theorem tmod_lo(k n:Int)(hn:0<n):-n<k.tmod n:=by
 rcases Int.le_total 0 k with h|h
 ·have:=Int.tmod_nonneg n h;omega
 ·have h1:(-k).tmod n<n:=Int.tmod_lt_of_pos (-k) hn;rw[Int.neg_tmod]at h1;omega
theorem gI(k:Int)(n:Nat)(w:World)(hk:-9223372036854775808≤k∧k≤9223372036854775807)(hn:0<n∧n≤1000000):
 Calls Tryz.prog 10 #[.int .i64 k,.int .i64 n] w fun e w'=>(∃p:Nat,p<n∧(p:Int)=(k.tmod n+n) % n∧e=.returned (.int .i64 p))∧w'=w:=by
 have h1:-(n:Int)<k.tmod n:=tmod_lo k n (by omega);have h2:k.tmod n<n:=Int.tmod_lt_of_pos k (by omega);have hn0:(n:Int)≠0:=by omega
 go_enter Tryz.func10,Tryz.ntmps10;go_wp2_with fail
 go_ret;have h3:=Int.emod_nonneg (k.tmod n+n) (b:=n) (by omega);have h4:=Int.emod_lt_of_pos (k.tmod n+n) (b:=n) (by omega);exact⟨⟨((k.tmod n+n) % n).toNat,by omega,by omega,by rw[vI h3];rfl⟩,rfl⟩
theorem lJ(n:Int)(w:World):Calls Tryz.prog 29 #[.int .i64 n] w fun e w'=>(∃s,e=.returned (.string s))∧w'=w:=by
 go_enter Tryz.func29,Tryz.ntmps29;go_wp2_with fail
 all_goals (go_ret;exact⟨⟨_,rfl⟩,rfl⟩)
theorem iP{P:Program}{fn:Func}{p:Tmp}{ty:TypeId}(h:fn.results=#[.cell p ty])(tmps:Array Value)(w:World)(g:Nat)(t:TypeId)(cs:Array Value)(d:TypeDesc)
 (hp:tmps.getD p undef=.pointer (some ⟨g,0,none⟩)) (hg:Blk w g t cs)
 (hu:P.underlying ty=some d) (hd:(match d with | .struct _ | .array _ _=>true|_=>false)=true) (hi:(P.info? ty).map (·.size)=some cs.size) :
 (results fn tmps).run P w=.ok (.agg cs) w:=by
 have hp':tmps[p]?.getD undef=.pointer (some ⟨g,0,none⟩):=by simpa using hp
 simp[results,h,hp',asAddr,run_loadVar_row w g t ty cs (0,0) d hg hu hd hi]
theorem kG(n:Int)(hn:IntKind.i64.wrap n=n)(w:World):Calls Tryz.prog 30 #[.int .i64 n] w fun e w' =>
 (∃(k v:Int) (t:ByteArray),IntKind.i64.wrap v=v∧e=.returned (.agg #[.int .i64 k,.int .i64 v,.string t,.int .i64 0,.int .i64 0]))∧Below w.heap.size w w':=by
 have hb1:Below w.heap.size w (w.alloc (.cells #[.int .i64 0,.int .i64 0,.string ⟨#[]⟩,.int .i64 0,.int .i64 0] 50)):=(sA _ w).alloc (sB _) _;have HB:=Hi hb1;have HR:=Hi (Blk.new w 50 #[.int .i64 0,.int .i64 0,.string ⟨#[]⟩,.int .i64 0,.int .i64 0]);have HN:=Hi hn;clear hb1 hn;go_enter Tryz.func30,Tryz.ntmps30;go_upto_region 1 with fail
 generalize w.alloc (.cells #[.int .i64 0,.int .i64 0,.string ⟨#[]⟩,.int .i64 0,.int .i64 0] 50)=w1 at HB HR ⊢;obtain⟨q,hq⟩:∃q,w.heap.size=q:=⟨_,rfl⟩
 have HQ:=Hi hq;rw[hq]at HR ⊢;clear hq;obtain⟨r0,r1,r2,r3,r4⟩:=ce5 HR.o
 have f0:=HR.o.frozen 0;have f1:=HR.o.frozen 1;have f2:=HR.o.frozen 2;have f3:=HR.o.frozen 3;have f4:=HR.o.frozen 4;have FIN:Hid (∀(a b:Int) (t:ByteArray),Below w.heap.size w (((((w1.setCell ⟨q,0,none⟩ (.int .i64 a)).setCell ⟨q,1,none⟩ (.int .i64 b)).setCell ⟨q,2,none⟩ (.string t)).setCell ⟨q,3,none⟩ (.int .i64 0)).setCell ⟨q,4,none⟩ (.int .i64 0))∧Blk (((((w1.setCell ⟨q,0,none⟩ (.int .i64 a)).setCell ⟨q,1,none⟩ (.int .i64 b)).setCell ⟨q,2,none⟩ (.string t)).setCell ⟨q,3,none⟩ (.int .i64 0)).setCell ⟨q,4,none⟩ (.int .i64 0)) q 50 #[.int .i64 a,.int .i64 b,.string t,.int .i64 0,.int .i64 0]):=fun a b t=>by
  have h1:w.heap.size≤q:=by have:=HQ.o;omega
  exact⟨((((HB.o.setCell (p:=⟨q,0,none⟩) h1 _).setCell (p:=⟨q,1,none⟩) h1 _).setCell (p:=⟨q,2,none⟩) h1 _).setCell (p:=⟨q,3,none⟩) h1 _).setCell (p:=⟨q,4,none⟩) h1 _,((((HR.o.set_ 0 _).set_ 1 _).set_ 2 _).set_ 3 _).set_ 4 _⟩
 by_cases n0:n=0
 ·subst n0;go_wp2_with fail
  refine bodyPost_ret (iP (p:=2) (by kernel_rfl) _ _ q 50 _ _ rfl (FIN.out _ _ _).2 Tryz.underlying50 rfl (by kernel_rfl)) rfl ?_;exact⟨⟨_,_,_,by first|exact HN.o|decide,rfl⟩,(FIN.out _ _ _).1⟩
 by_cases n1:n=1
 ·subst n1;go_wp2_with fail
  refine bodyPost_ret (iP (p:=2) (by kernel_rfl) _ _ q 50 _ _ rfl (FIN.out _ _ _).2 Tryz.underlying50 rfl (by kernel_rfl)) rfl ?_;exact⟨⟨_,_,_,by first|exact HN.o|decide,rfl⟩,(FIN.out _ _ _).1⟩
 by_cases n2:n=2
 ·subst n2;go_wp2_with fail
  refine bodyPost_ret (iP (p:=2) (by kernel_rfl) _ _ q 50 _ _ rfl (FIN.out _ _ _).2 Tryz.underlying50 rfl (by kernel_rfl)) rfl ?_;exact⟨⟨_,_,_,by first|exact HN.o|decide,rfl⟩,(FIN.out _ _ _).1⟩
 by_cases n3:n=3
 ·subst n3;go_wp2_with fail
  refine bodyPost_ret (iP (p:=2) (by kernel_rfl) _ _ q 50 _ _ rfl (FIN.out _ _ _).2 Tryz.underlying50 rfl (by kernel_rfl)) rfl ?_;exact⟨⟨_,_,_,by first|exact HN.o|decide,rfl⟩,(FIN.out _ _ _).1⟩
 by_cases n4:n=4
 ·subst n4;go_wp2_with fail
  refine bodyPost_ret (iP (p:=2) (by kernel_rfl) _ _ q 50 _ _ rfl (FIN.out _ _ _).2 Tryz.underlying50 rfl (by kernel_rfl)) rfl ?_;exact⟨⟨_,_,_,by first|exact HN.o|decide,rfl⟩,(FIN.out _ _ _).1⟩
 by_cases n5:n=5
 ·subst n5;go_wp2_with fail
  refine bodyPost_ret (iP (p:=2) (by kernel_rfl) _ _ q 50 _ _ rfl (FIN.out _ _ _).2 Tryz.underlying50 rfl (by kernel_rfl)) rfl ?_;exact⟨⟨_,_,_,by first|exact HN.o|decide,rfl⟩,(FIN.out _ _ _).1⟩
 by_cases n6:n=6
 ·subst n6;go_wp2_with fail
  refine bodyPost_ret (iP (p:=2) (by kernel_rfl) _ _ q 50 _ _ rfl (FIN.out _ _ _).2 Tryz.underlying50 rfl (by kernel_rfl)) rfl ?_;exact⟨⟨_,_,_,by first|exact HN.o|decide,rfl⟩,(FIN.out _ _ _).1⟩
 go_wp2_with fail
 refine bodyPost_ret (iP (p:=2) (by kernel_rfl) _ _ q 50 _ _ rfl (FIN.out _ _ _).2 Tryz.underlying50 rfl (by kernel_rfl)) rfl ?_;exact⟨⟨_,_,_,by first|exact HN.o|decide,rfl⟩,(FIN.out _ _ _).1⟩
end
end Go.Proofs.YtjhkcbideddlgaaGreat
