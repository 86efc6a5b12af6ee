/- Contracts of the document's state: the elements that have values. -/
import Derived.Test.YtmpkejflgpodkaaGreatDoorP27
import Derived.Test.YtmpkejflgpodkaaGreatDoorP15
import Derived.Deep.RegionHeld3
import Derived.Test.YtmpkejflgpodkaaGreatDoorP19
import Derived.Test.YtmpkejflgpodkaaGreatDoorP26
import Derived.Test.YtmpkejflgpodkaaGreatDoorP21
import Derived.Test.YtmpkejflgpodkaaGreatDoorP1
set_option maxHeartbeats 8000000
set_option maxRecDepth 20000
set_option linter.unusedVariables false
set_option linter.unusedSimpArgs false
namespace Go.Proofs.YtmpkejflgpodkaaGreatDoor
open Go.ChangeShapes Go.WideShapes Go.ChangeAt Go.RowKit
section
def dU(K:List OpI)(obj n:Rf):Bool:=decide (0<(atJ K (obj,⟨#[]⟩,n)).length)
def dD(K:List OpI)(obj:Rf)(N:Int):List Rf:=(eP K obj N (0,0)).filter (dU K obj)
theorem sSeen_any{K:List OpI}{N:Int}(hK:KTree K N)(o1 o2:Int)(A:Option Addr)(c n:Nat)(w:World)(hr:OpsR (fun k=>k<w.heap.size) w A K)(hl:K.length≤50000)(hn:N<n)(hwf:∀x∈K,IntKind.i64.wrap x.1.vn=x.1.vn)(hkd:∀x∈K,1≤x.1.k):
 Calls Tryz.prog 13 #[.agg #[.slice A K.length c],.agg #[.int .i64 o1,.int .i64 o2]] w fun e w'=>∃v,e=.returned v∧w'.ownsRow w.heap.size 24 2 v (dD K (o1,o2) N).length (aE (dD K (o1,o2) N))∧Below w.heap.size w w':=by
 obtain⟨nK,hnK⟩:∃n,K.length=n:=⟨_,rfl⟩
 have HNK:=Hi hnK;have HWF:=Hi hwf;have HKD:=Hi hkd;have hsub:=hK.sub_eq (obj:=(o1,o2)) (n:=n) (el:=(0,0)) (by show N-0<n;omega);have hall:=(hK.all (obj:=(o1,o2))).2.1;have hb1:Below w.heap.size w (w.alloc (.cells #[.slice A nK c] 31)):=(sB _ w).alloc (sC _) _;have h1:=Blk.new w 31 #[.slice A nK c];have hb2:Below w.heap.size w ((w.alloc (.cells #[.slice A nK c] 31)).alloc (.cells #[.int .i64 o1,.int .i64 o2] 24)):=hb1.alloc hb1.size _;have h2:=Blk.new (w.alloc (.cells #[.slice A nK c] 31)) 24 #[.int .i64 o1,.int .i64 o2];have H1:=Hi (h1.keep (sO _ (.cells #[.int .i64 o1,.int .i64 o2] 24) _ h1.lt));have H2:=Hi h2;have HB:=Hi hb2;have HR:=Hi (hr.below hb2);have C1:=sElems_any hK o1 o2 A c n _ (hr.below hb2).row (by omega) hn (by rw[hsub];omega);rw[hsub]at C1;rw[World.size_alloc]at H2;rw[hnK]at C1 hl ⊢;obtain⟨S,hS⟩:∃S,eP K (o1,o2) N (0,0)=S:=⟨_,rfl⟩
 have HS:Hid (dD K (o1,o2) N=S.filter (dU K (o1,o2))):=by show _=_;unfold dD;rw[hS]
 rw[hS]at C1 hall;have HSL:Hid (S.length≤50001):=by show _≤_;omega
 clear hr hwf hkd hnK hb1 hb2 h1 h2 hsub hS hall;go_enter Tryz.func13,Tryz.ntmps13;go_upto_region 1 with fail
 generalize (w.alloc (.cells #[.slice A nK c] 31)).alloc (.cells #[.int .i64 o1,.int .i64 o2] 24)=w1 at H1 H2 HB HR C1 ⊢;obtain⟨B,hB⟩:∃B,w.heap.size=B:=⟨_,rfl⟩
 have HBB:=Hi hB;rw[hB]at H1 H2 HB ⊢;clear hB;have HBL:Hid (B≤w1.heap.size):=by have h:=HB.o.size;rw[HBB.o]at h;exact h
 have j0:=cZ H1.o 0 rfl;have q0:=cZ H2.o 0 rfl;have q1:=cZ H2.o 1 rfl
 go_wp2_with fail
 go_at_call 9;refine C1.mono ?_;rintro e w2 ⟨v2,rfl,ho2,hb2⟩;have HB2:Hid (Below B w w2):=HB.o.trans (hb2.mono HBL.o);have HBL2:Hid (B≤w2.heap.size):=sR HBL.o hb2.size;have H12:=Hi (H1.o.keep (hb2.block _ H1.o.lt));have H22:=Hi (H2.o.keep (hb2.block _ H2.o.lt));have HR2:=Hi (HR.o.below hb2);obtain⟨A2,c2,hv2,-,-,hr2⟩:=aC.of_own ho2
 have HRS:Hid (aC (fun k=>k<w2.heap.size) w2 2 A2 S.length (aE S)):=hr2.more fun k hk=>(aF ho2 hk).2
 obtain⟨m,hm⟩:∃m,S.length=m:=⟨_,rfl⟩
 have HM:=Hi hm;subst hv2;rw[hm]at HRS HSL ⊢;clear C1 j0 q0 q1 ho2 hb2 hr2 hm H1 H2 HB HR HBL;have hms:m≤50001:=HSL.o;go_upto_region 4 with fail
 go_loopw [6,7,8,9] (fun s6 s7 _ _ wr=>∃(i:Nat) (v6:Value),v6=s6∧s7=.int .i64 i∧i≤m∧Hid (wr.ownsRow w2.heap.size 24 2 v6 ((S.take i).filter (dU K (o1,o2))).length (aE ((S.take i).filter (dU K (o1,o2)))))∧Hid (Below w2.heap.size w2 wr)) (fun _ s7 _ _ _=>m-(intOf s7).toNat)
 case atStart=>exact⟨0,_,rfl,rfl,by omega,bT _ _ _ _,sB _ _⟩
 case round =>
  obtain⟨i,v6,rfl,rfl,hi,HO,HW⟩:=hrel
  by_cases hlt:i<m
  ·obtain⟨⟨y1,y2⟩,hy⟩:∃y,S[i]?=some y:=⟨_,sD (by rw[HM.o];exact hlt)⟩
   obtain⟨bs,os,rfl,-,hc1⟩:=(aA (by exact HRS.o) HW.o).at_ (by omega) (by omega)
   have z1:wr.cell? ⟨bs,os+i*2,none⟩=some (.int .i64 y1):=hc1 _ _ (aL hy).1;have z2:wr.cell? ⟨bs,os+i*2+1,none⟩=some (.int .i64 y2):=by have:=hc1 _ _ (aL hy).2;rw[←tL]at this;exact this
   have HZ:Hid (∀V,Below wr.heap.size wr V→V.cell? ⟨bs,os+i*2,none⟩=some (.int .i64 y1)∧V.cell? ⟨bs,os+i*2+1,none⟩=some (.int .i64 y2)):=fun V hv=>⟨(hv.cell (wD wr _ z1)).trans z1,(hv.cell (wD wr _ z2)).trans z2⟩
   have j0:=cZ (H12.o.keep (HW.o.block _ H12.o.lt)) 0 rfl;have q0:=cZ (H22.o.keep (HW.o.block _ H22.o.lt)) 0 rfl;have q1:=cZ (H22.o.keep (HW.o.block _ H22.o.lt)) 1 rfl
   have C2:=sAt_any K o1 o2 ⟨#[]⟩ y1 y2 A c wr.drew (HR2.o.below (HW.o.drew)) (by rw[HNK.o];omega) HWF.o HKD.o;obtain⟨ml,hml⟩:∃k,(atJ K ((o1,o2),⟨#[]⟩,(y1,y2))).length=k:=⟨_,rfl⟩
   have HTK:Hid ((S.take (i+1)).filter (dU K (o1,o2))=(S.take i).filter (dU K (o1,o2))++if 0<ml then [(y1,y2)] else []):=by
    show _=_;rw[sS,hy,uN];congr 1;unfold dU;rw[←hml];by_cases h:0<(atJ K ((o1,o2),⟨#[]⟩,(y1,y2))).length
    ·simp[h]
    ·simp[h]
   rw[hml,HNK.o]at C2;have HLT:=Hi hlt;obtain⟨F,hF⟩:∃F,(S.take i).filter (dU K (o1,o2))=F:=⟨_,rfl⟩
   have HFL:Hid (F.length≤100000):=by
    have h1:=vC (dU K (o1,o2)) (S.take i);rw[hF,tD]at h1;show _≤_;omega
   rw[hF]at HO HTK;clear hy hc1 hml hF;have KS:∀V,Below wr.drew.heap.size wr.drew V→V.cell? ⟨B,0,none⟩=some (.slice A nK c)∧V.cell? ⟨B+1,0,none⟩=some (.int .i64 o1)∧V.cell? ⟨B+1,1,none⟩=some (.int .i64 o2)∧V.cell? ⟨bs,os+i*2,none⟩=some (.int .i64 y1)∧V.cell? ⟨bs,os+i*2+1,none⟩=some (.int .i64 y2):=fun V hv=>by
    have hw:Below w2.heap.size w2 V:=HW.o.drew.trans (hv.mono HW.o.size);exact⟨(H12.o.keep (hw.block _ H12.o.lt)).cell 0,(H22.o.keep (hw.block _ H22.o.lt)).cell 0,(H22.o.keep (hw.block _ H22.o.lt)).cell 1,HZ.o V ((sB _ wr).drew.trans hv)⟩
   go_upto_region 6 with fail
   go_region_held3 (fun w'=>w'.cell? ⟨B,0,none⟩=some (.slice A nK c)∧w'.cell? ⟨B+1,0,none⟩=some (.int .i64 o1)∧w'.cell? ⟨B+1,1,none⟩=some (.int .i64 o2)∧w'.cell? ⟨bs,os+i*2,none⟩=some (.int .i64 y1)∧w'.cell? ⟨bs,os+i*2+1,none⟩=some (.int .i64 y2)) (first|exact⟨j0,q0,q1,z1,z2⟩|exact KS _ (by assumption)) (first|(go_at_call 15;refine C2.mono ?_;rintro e w4 ⟨v4,n4,rfl,ho4,-,hb4⟩))
   clear j0 q0 q1 z1 z2 KS;obtain⟨A4,c4,rfl,-,-,-⟩:=aC.of_own ho4
   have hb5:Below wr.heap.size wr w4:=(sB _ wr).drew.trans hb4;have HO4:=Hi (aS HO.o hb5);have HW4:Hid (Below w2.heap.size w2 w4):=HW.o.trans (hb5.mono HW.o.size);have z1:w4.cell? ⟨bs,os+i*2,none⟩=some (.int .i64 y1):=(HZ.o w4 hb5).1;have z2:w4.cell? ⟨bs,os+i*2+1,none⟩=some (.int .i64 y2):=(HZ.o w4 hb5).2;clear C2 ho4 hb4 hb5 HO HW HZ;by_cases hp:0<ml
   ·rw[if_pos hp]at HTK;have hfl:=HFL.o;obtain⟨nF,hnF⟩:∃k,F.length=k:=⟨_,rfl⟩
    have HNF:=Hi hnF;rw[hnF]at HO4 hfl;clear hnF;go_wp2_with (at_builtin;refine bJ 28 24 (.agg #[.int .i64 0,.int .i64 0]) 2 16 Tryz.underlying28 iX rfl (by omega) rfl (.tmp 32) (.tmp 37) rfl (w2.heap.size) (_) (nF) (aE F) rfl (HO4.o.alloc _) (w4.heap.size) 1 ([.int .i64 y1,.int .i64 y2]) rfl ?c1 ?c2 ?c3 ?c4 ?c5 ?c6 ?_)
    try case c1=>rfl
    try case c2=>intro j u hj;exact eD _ _ _ hj
    try case c3=>exact aX [(y1,y2)]
    try case c4=>omega
    try case c5=>omega
    try case c6=>first|(have:=HW4.o.size;simp;omega)|(simp;done)
    intro v7 w7 ho7 hg7 _;have HW7:Hid (Below w2.heap.size w2 w7):=(HW4.o.alloc HW4.o.size _).grown hg7 (by have:=HW4.o.size;simp;omega) (fun g hg=>(aF HO4.o hg).1);have HO7:Hid (w7.ownsRow w2.heap.size 24 2 v7 ((S.take (i+1)).filter (dU K (o1,o2))).length (aE ((S.take (i+1)).filter (dU K (o1,o2))))):=by
     show World.ownsRow _ _ _ _ _ _ _;rw[HTK.o,sG,HNF.o,bC];exact ho7
    clear ho7 hg7 z1 z2 HO4 HW4;go_wp2_with fail
    go_roundw
    case rel=>exact⟨i+1,v7,rfl,by go_num,by have:=HLT.o;omega,HO7,HW7⟩
    case measure=>have:=HLT.o;simp[intOf];omega
   ·rw[if_neg hp,uL]at HTK;have HO7:Hid (w4.ownsRow w2.heap.size 24 2 v6 ((S.take (i+1)).filter (dU K (o1,o2))).length (aE ((S.take (i+1)).filter (dU K (o1,o2))))):=by
     show World.ownsRow _ _ _ _ _ _ _;rw[HTK.o];exact HO4.o
    clear z1 z2 HO4;go_wp2_with fail
    go_roundw
    case rel=>exact⟨i+1,v6,rfl,by go_num,by have:=HLT.o;omega,HO7,HW4⟩
    case measure=>have:=HLT.o;simp[intOf];omega
  ·have HF:Hid ((S.take i).filter (dU K (o1,o2))=dD K (o1,o2) N):=by show _=_;rw[sL (by rw[HM.o];omega),HS.o]
   rw[HF.o]at HO;have HO9:=Hi (bU HO.o (base':=B) fun k hk=>sR HBL2.o (aF HO.o hk).1);have HW9:Hid (Below B w wr):=HB2.o.trans (HW.o.mono HBL2.o);clear HO HW;go_wp2_with fail
   go_ret;exact⟨v6,rfl,by rw[HBB.o];exact HO9.o,by rw[HBB.o];exact HW9.o⟩
end
section
def fD(p:Rf→Bool)(el:Rf):List Rf→Nat→Nat×Bool
 | [],n=>(n,decide (el=(0,0)))
 |x::l,n=>if x=el then (n,true) else fD p el l (if p x then n+1 else n)
def cT(K:List OpI)(obj:Rf)(N:Int)(el:Rf):Nat×Bool:=fD (dU K obj) el (eP K obj N (0,0)) 0
theorem sWhere_any{K:List OpI}{N:Int}(hK:KTree K N)(o1 o2 l1 l2:Int)(A:Option Addr)(c n:Nat)(w:World)(hr:OpsR (fun k=>k<w.heap.size) w A K)(hl:K.length≤50000)(hn:N<n)(hwf:∀x∈K,IntKind.i64.wrap x.1.vn=x.1.vn)(hkd:∀x∈K,1≤x.1.k):
 Calls Tryz.prog 14 #[.agg #[.slice A K.length c],.agg #[.int .i64 o1,.int .i64 o2],.agg #[.int .i64 l1,.int .i64 l2]] w fun e w'=>e=.returned (.tuple #[.int .i64 (cT K (o1,o2) N (l1,l2)).1,.bool (cT K (o1,o2) N (l1,l2)).2])∧Below w.heap.size w w':=by
 obtain⟨nK,hnK⟩:∃n,K.length=n:=⟨_,rfl⟩
 have HNK:=Hi hnK;have HWF:=Hi hwf;have HKD:=Hi hkd;have hsub:=hK.sub_eq (obj:=(o1,o2)) (n:=n) (el:=(0,0)) (by show N-0<n;omega);have hall:=(hK.all (obj:=(o1,o2))).2.1;have hb1:Below w.heap.size w (w.alloc (.cells #[.slice A nK c] 31)):=(sB _ w).alloc (sC _) _;have h1:=Blk.new w 31 #[.slice A nK c];have hb2:Below w.heap.size w ((w.alloc (.cells #[.slice A nK c] 31)).alloc (.cells #[.int .i64 o1,.int .i64 o2] 24)):=hb1.alloc hb1.size _;have h2:=Blk.new (w.alloc (.cells #[.slice A nK c] 31)) 24 #[.int .i64 o1,.int .i64 o2];have hb3:Below w.heap.size w (((w.alloc (.cells #[.slice A nK c] 31)).alloc (.cells #[.int .i64 o1,.int .i64 o2] 24)).alloc (.cells #[.int .i64 l1,.int .i64 l2] 24)):=hb2.alloc hb2.size _;have h3:=Blk.new ((w.alloc (.cells #[.slice A nK c] 31)).alloc (.cells #[.int .i64 o1,.int .i64 o2] 24)) 24 #[.int .i64 l1,.int .i64 l2];have H1:=Hi ((h1.keep (sO _ (.cells #[.int .i64 o1,.int .i64 o2] 24) _ h1.lt)).keep (sO _ (.cells #[.int .i64 l1,.int .i64 l2] 24) _ (by rw[World.size_alloc];have:=h1.lt;omega)));have H2:=Hi (h2.keep (sO _ (.cells #[.int .i64 l1,.int .i64 l2] 24) _ h2.lt));have H3:=Hi h3;have HB:=Hi hb3;have HR:=Hi (hr.below hb3);have C1:=sElems_any hK o1 o2 A c n _ (hr.below hb3).row (by omega) hn (by rw[hsub];omega);rw[hsub]at C1;rw[World.size_alloc]at H2;rw[World.size_alloc,World.size_alloc]at H3;rw[hnK]at C1 hl ⊢;obtain⟨S,hS⟩:∃S,eP K (o1,o2) N (0,0)=S:=⟨_,rfl⟩
 obtain⟨⟨wn,wb⟩,hwp⟩:∃r,cT K (o1,o2) N (l1,l2)=r:=⟨_,rfl⟩
 have HS:Hid (fD (dU K (o1,o2)) (l1,l2) S 0=(wn,wb)):=by show _=_;rw[←hwp];unfold cT;rw[hS]
 rw[hwp];rw[hS]at C1 hall;have HSL:Hid (S.length≤50001):=by show _≤_;omega
 clear hr hwf hkd hnK hb1 hb2 hb3 h1 h2 h3 hsub hS hall hwp;go_enter Tryz.func14,Tryz.ntmps14;go_upto_region 1 with fail
 generalize ((w.alloc (.cells #[.slice A nK c] 31)).alloc (.cells #[.int .i64 o1,.int .i64 o2] 24)).alloc (.cells #[.int .i64 l1,.int .i64 l2] 24)=w1 at H1 H2 H3 HB HR C1 ⊢;obtain⟨B,hB⟩:∃B,w.heap.size=B:=⟨_,rfl⟩
 have HBB:=Hi hB;rw[hB]at H1 H2 H3 HB ⊢;clear hB;have HBL:Hid (B≤w1.heap.size):=by have h:=HB.o.size;rw[HBB.o]at h;exact h
 have j0:=cZ H1.o 0 rfl;have q0:=cZ H2.o 0 rfl;have q1:=cZ H2.o 1 rfl
 go_wp2_with fail
 go_at_call 9;refine C1.mono ?_;rintro e w2 ⟨v2,rfl,ho2,hb2⟩;have HB2:Hid (Below B w w2):=HB.o.trans (hb2.mono HBL.o);have HBL2:Hid (B≤w2.heap.size):=sR HBL.o hb2.size;have H12:=Hi (H1.o.keep (hb2.block _ H1.o.lt));have H22:=Hi (H2.o.keep (hb2.block _ H2.o.lt));have H32:=Hi (H3.o.keep (hb2.block _ H3.o.lt));have HR2:=Hi (HR.o.below hb2);obtain⟨A2,c2,hv2,-,-,hr2⟩:=aC.of_own ho2
 have HRS:Hid (aC (fun k=>k<w2.heap.size) w2 2 A2 S.length (aE S)):=hr2.more fun k hk=>(aF ho2 hk).2
 obtain⟨m,hm⟩:∃m,S.length=m:=⟨_,rfl⟩
 have HM:=Hi hm;subst hv2;rw[hm]at HRS HSL ⊢;clear C1 j0 q0 q1 ho2 hb2 hr2 hm H1 H2 H3 HB HR HBL;have hms:m≤50001:=HSL.o;go_upto_region 4 with fail
 go_loopw [6,7,9,10,11,12] (fun s6 s7 s9 s10 _ _ wr=>∃(i k:Nat),s6=.int .i64 0∧s7=.bool false∧s9=.int .i64 k∧s10=.int .i64 i∧i≤m∧k≤i∧Hid (fD (dU K (o1,o2)) (l1,l2) (S.drop i) k=(wn,wb))∧Hid (Below w2.heap.size w2 wr)) (fun _ _ _ s10 _ _ _=>m-(intOf s10).toNat)
 case atStart=>exact⟨0,0,rfl,rfl,rfl,rfl,by omega,sC _,HS,sB _ _⟩
 case round =>
  clear HS;obtain⟨i,k,rfl,rfl,rfl,rfl,hi,hki,HI,HW⟩:=hrel
  have e0:=cZ (H32.o.keep (HW.o.block _ H32.o.lt)) 0 rfl;have e1:=cZ (H32.o.keep (HW.o.block _ H32.o.lt)) 1 rfl
  by_cases hlt:i<m
  ·obtain⟨⟨y1,y2⟩,hy⟩:∃y,S[i]?=some y:=⟨_,sD (by rw[HM.o];exact hlt)⟩
   obtain⟨bs,os,rfl,-,hc1⟩:=(aA (by exact HRS.o) HW.o).at_ (by omega) (by omega)
   have z1:wr.cell? ⟨bs,os+i*2,none⟩=some (.int .i64 y1):=hc1 _ _ (aL hy).1;have z2:wr.cell? ⟨bs,os+i*2+1,none⟩=some (.int .i64 y2):=by have:=hc1 _ _ (aL hy).2;rw[←tL]at this;exact this
   have HZ:Hid (∀V,Below wr.heap.size wr V→V.cell? ⟨bs,os+i*2,none⟩=some (.int .i64 y1)∧V.cell? ⟨bs,os+i*2+1,none⟩=some (.int .i64 y2)):=fun V hv=>⟨(hv.cell (wD wr _ z1)).trans z1,(hv.cell (wD wr _ z2)).trans z2⟩
   have E:=fun w=>iS y1 y2 l1 l2 w
   obtain⟨eb,heb⟩:∃eb,(y1 == l1&&y2 == l2)=eb:=⟨_,rfl⟩
   rw[heb]at E;have HEB:Hid (eb=decide ((y1,y2)=(l1,l2))):=by show _=_;rw[eN,heb]
   have HDR:Hid (S.drop i=(y1,y2)::S.drop (i+1)):=drop_at hy;obtain⟨ml,hml⟩:∃k,(atJ K ((o1,o2),⟨#[]⟩,(y1,y2))).length=k:=⟨_,rfl⟩
   have HML:Hid (dU K (o1,o2) (y1,y2)=decide (0<ml)):=by show _=_;unfold dU;rw[hml]
   have HMV:=Hi hml;have HLT:=Hi hlt;clear hy hc1 hml heb;go_upto_region 6 with fail
   go_quiet (fail)
   change Exit.then _ _ _ _ (wr.drewN nq);have HWd:Hid (Below w2.heap.size w2 (wr.drewN nq)):=aJ HW.o nq;have HZd:Hid (∀V,Below (wr.drewN nq).heap.size (wr.drewN nq) V→V.cell? ⟨bs,os+i*2,none⟩=some (.int .i64 y1)∧V.cell? ⟨bs,os+i*2+1,none⟩=some (.int .i64 y2)):=fun V hv=>HZ.o V ((aJ (sB _ wr) nq).trans hv)
   clear z1 z2 e0 e1 E HW HZ;generalize wr.drewN nq=wx at HWd HZd ⊢;cases eb with
   |true =>
    have HF:Hid ((wn,wb)=(k,true)):=by
     show _=_;rw[←HI.o,HDR.o];unfold fD;rw[if_pos (of_decide_eq_true HEB.o.symm)]
    have HW9:Hid (Below B w wx):=HB2.o.trans (HWd.o.mono HBL2.o);go_wp2_with fail
    go_ret2;have h:=HF.o;simp only[uT]at h;exact⟨by rw[h.1,h.2];rfl,by rw[HBB.o];exact HW9.o⟩
   |false =>
    have HIN:Hid (fD (dU K (o1,o2)) (l1,l2) (S.drop (i+1)) (if 0<ml then k+1 else k)=(wn,wb)):=by
     show _=_;rw[←HI.o,HDR.o]
     conv=>rhs;unfold fD
     rw[if_neg (of_decide_eq_false HEB.o.symm),HML.o];by_cases h:0<ml<;>simp[h]
    have j0:=cZ (H12.o.keep (HWd.o.block _ H12.o.lt)) 0 rfl;have q0:=cZ (H22.o.keep (HWd.o.block _ H22.o.lt)) 0 rfl;have q1:=cZ (H22.o.keep (HWd.o.block _ H22.o.lt)) 1 rfl
    have z1:wx.cell? ⟨bs,os+i*2,none⟩=some (.int .i64 y1):=(HZd.o wx (sB _ _)).1;have z2:wx.cell? ⟨bs,os+i*2+1,none⟩=some (.int .i64 y2):=(HZd.o wx (sB _ _)).2;have C2:=sAt_any K o1 o2 ⟨#[]⟩ y1 y2 A c wx.drew (HR2.o.below (HWd.o.drew)) (by rw[HNK.o];omega) HWF.o HKD.o;rw[HMV.o,HNK.o]at C2;have KS:∀V,Below wx.drew.heap.size wx.drew V→V.cell? ⟨B,0,none⟩=some (.slice A nK c)∧V.cell? ⟨B+1,0,none⟩=some (.int .i64 o1)∧V.cell? ⟨B+1,1,none⟩=some (.int .i64 o2)∧V.cell? ⟨bs,os+i*2,none⟩=some (.int .i64 y1)∧V.cell? ⟨bs,os+i*2+1,none⟩=some (.int .i64 y2):=fun V hv=>by
     have hw:Below w2.heap.size w2 V:=HWd.o.drew.trans (hv.mono HWd.o.size);exact⟨(H12.o.keep (hw.block _ H12.o.lt)).cell 0,(H22.o.keep (hw.block _ H22.o.lt)).cell 0,(H22.o.keep (hw.block _ H22.o.lt)).cell 1,HZd.o V ((sB _ wx).drew.trans hv)⟩
    go_upto_region 8 with fail
    go_region_held3 (fun w'=>w'.cell? ⟨B,0,none⟩=some (.slice A nK c)∧w'.cell? ⟨B+1,0,none⟩=some (.int .i64 o1)∧w'.cell? ⟨B+1,1,none⟩=some (.int .i64 o2)∧w'.cell? ⟨bs,os+i*2,none⟩=some (.int .i64 y1)∧w'.cell? ⟨bs,os+i*2+1,none⟩=some (.int .i64 y2)) (first|exact⟨j0,q0,q1,z1,z2⟩|exact KS _ (by assumption)) (first|(go_at_call 15;refine C2.mono ?_;rintro e w4 ⟨v4,n4,rfl,ho4,-,hb4⟩))
    clear j0 q0 q1 z1 z2 KS;obtain⟨A4,c4,rfl,-,-,-⟩:=aC.of_own ho4
    have HW4:Hid (Below w2.heap.size w2 w4):=HWd.o.drew.trans (hb4.mono HWd.o.size);clear C2 ho4 hb4 HWd HZd;by_cases hp:0<ml
    ·rw[if_pos hp]at HIN;go_wp2_with fail
     go_roundw
     case rel=>exact⟨i+1,k+1,rfl,rfl,by go_num,by go_num,by have:=HLT.o;omega,by omega,HIN,HW4⟩
     case measure=>have:=HLT.o;simp[intOf];omega
    ·rw[if_neg hp]at HIN;go_wp2_with fail
     go_roundw
     case rel=>exact⟨i+1,k,rfl,rfl,rfl,by go_num,by have:=HLT.o;omega,by omega,HIN,HW4⟩
     case measure=>have:=HLT.o;simp[intOf];omega
  ·have HF:Hid ((wn,wb)=(k,decide (((l1,l2):Rf)=(0,0)))):=by
    show _=_;rw[←HI.o,xE (by rw[HM.o];omega)];rfl
   have C3:=cG l1 l2 wr;obtain⟨rb,hrb⟩:∃b,bK l1 l2=b:=⟨_,rfl⟩
   have HRD:Hid (rb=decide (((l1,l2):Rf)=(0,0))):=by show _=_;rw[←hrb,eN];rfl
   rw[hrb]at C3;clear hrb;go_wp2_with fail
   go_at_call 30;refine C3.mono ?_;rintro e w5 ⟨rfl,hb5⟩;have HW9:Hid (Below B w w5):=HB2.o.trans ((HW.o.trans (hb5.mono HW.o.size)).mono HBL2.o);clear C3 hb5 e0 e1;go_wp2_with fail
   go_ret2;have h1:wn=k:=congrArg Prod.fst HF.o;have h2:wb=rb:=(congrArg Prod.snd HF.o).trans HRD.o.symm;exact⟨by rw[h1,h2];rfl,by rw[HBB.o];exact HW9.o⟩
end
section
open Go.RowKit
def kE(p:Rf→Bool)(l:List Rf)(i:Nat):Nat:=((l.take i).filter p).length
theorem split_at{l:List Rf}{i:Nat}{x:Rf}(h:l[i]?=some x):l=l.take i++x::l.drop (i+1):=by
 obtain⟨hi,rfl⟩:=sF.1 h
 rw[←tJ hi,uE]
theorem take_at{l:List Rf}{i:Nat}{x:Rf}(h:l[i]?=some x):l.take (i+1)=l.take i++[x]:=by
 rw[sS,h];rfl
theorem cnt_yes{p:Rf→Bool}{l:List Rf}{i:Nat}{x:Rf}(h:l[i]?=some x)(hp:p x=true):(l.filter p)[kE p l i]?=some x∧kE p l (i+1)=kE p l i+1:=by
 constructor
 ·unfold kE
  conv=>lhs;rw[split_at h]
  rw[List.take_append_of_le_length (by rw[tD];have:=(sF.1 h).1;omega),List.take_take,Nat.min_self,uN,uI hp,tR (sC _),Nat.sub_self];rfl
 ·unfold kE;rw[take_at h,uN,sG,uI hp];rfl
theorem cnt_no{p:Rf→Bool}{l:List Rf}{i:Nat}{x:Rf}(h:l[i]?=some x)(hp:p x=false):(l.filter p)[kE p l i]?≠some x∧kE p l (i+1)=kE p l i:=by
 constructor
 ·intro e;have:=(uH.1 (sJ e)).2
  rw[hp]at this;cases this
 ·unfold kE;rw[take_at h,uN,sG,uJ (by rw[hp];decide)];rfl
theorem cntL_le(p:Rf→Bool)(l:List Rf)(i:Nat):kE p l i≤(l.filter p).length:=by
 unfold kE;exact((List.take_sublist i l).filter p).length_le
theorem oZ(p:Rf→Bool){el:Rf}: ∀(l:List Rf) (n:Nat) {i:Nat},l[i]?=some el→(∀y∈l.take i,y≠el)→fD p el l n=(n+kE p l i,true)
 | [],n,i,h,_=>by simp at h
 |x::l,n,0,h,_=>by
  rw[List.getElem?_cons_zero]at h;cases h;unfold fD;rw[if_pos rfl];rfl
 |x::l,n,i+1,h,hn=>by
  have hx:x≠el:=hn x (by rw[sV];exact tA ..);unfold fD;rw[if_neg hx,oZ p l _ (by rwa [wE]at h) (fun y hy=>hn y (by rw[sV];exact tS _ hy))];unfold kE;rw[sV,xN];split<;>simp<;>omega
theorem kV(p:Rf→Bool){el:Rf}: ∀(l:List Rf) (n:Nat),(∀y∈l,y≠el)→fD p el l n=(n+(l.filter p).length,decide (el=(0,0)))
 | [],n,_=>rfl
 |x::l,n,hn=>by
  have hx:x≠el:=hn x (tA ..);unfold fD;rw[if_neg hx,kV p l _ (fun y hy=>hn y (tS _ hy)),xN];split<;>simp<;>omega
theorem nZ(p:Rf→Bool)(el:Rf):∀(l:List Rf) (n:Nat),(fD p el l n).1≤n+(l.filter p).length
 | [],n=>sC _
 |x::l,n=>by
  unfold fD;rw[xN];split
  ·show n≤_;omega
  ·have:=nZ p el l (if p x then n+1 else n)
   split<;>simp_all<;>omega
theorem atJ_perm{K K':List OpI}(h:Rows1 K)(h':Rows1 K')(hn:(K.map Prod.snd).Nodup)(hn':(K'.map Prod.snd).Nodup)(hp:(K.map bI).Perm (K'.map bI))(w:Wh):atJ K w=atJ K' w:=by
 rw[atJ_is h,atJ_is h'];have h1:=pX (mW hn w);have h2:=pX (mW hn' w);exact fall_pairs (h1.1.trans ((atV_same hp w).trans h2.1.symm)) h1.2 h2.2
theorem liveE_perm{K K':List OpI}(h:Rows1 K)(h':Rows1 K')(hn:(K.map Prod.snd).Nodup)(hn':(K'.map Prod.snd).Nodup)(hp:(K.map bI).Perm (K'.map bI))(obj:Rf):dU K obj=dU K' obj:=by
 funext n;unfold dU;rw[atJ_perm h h' hn hn' hp]
theorem seenP_perm{K K':List OpI}{N:Int}(hK:KTree K N)(hK':KTree K' N)(h:Rows1 K)(h':Rows1 K')(hp:(K.map bI).Perm (K'.map bI))(obj:Rf):dD K obj N=dD K' obj N:=by
 unfold dD;rw[subE_perm hK hK' hp,liveE_perm h h' hK.nd hK'.nd hp]
theorem whereP_perm{K K':List OpI}{N:Int}(hK:KTree K N)(hK':KTree K' N)(h:Rows1 K)(h':Rows1 K')(hp:(K.map bI).Perm (K'.map bI))(obj el:Rf):cT K obj N el=cT K' obj N el:=by
 unfold cT;rw[subE_perm hK hK' hp,liveE_perm h h' hK.nd hK'.nd hp]
def whR(K:List OpI)(obj:Rf)(N:Int)(el:Rf):Nat×Nat:=if (cT K obj N el).2 then ((cT K obj N el).1,0) else (0,6)
theorem root_not{K:List OpI}{N:Int}(hK:KTree K N)(obj:Rf):∀y∈eP K obj N (0,0),y≠(0,0):=by
 intro y hy e;obtain⟨x,hx,h,-,-⟩:=hK.all.2.2 y hy
 have:=hK.pos x hx
 rw[h,e]at this;simp at this
theorem whR_root{K:List OpI}{N:Int}(hK:KTree K N)(obj:Rf):whR K obj N (0,0)=((dD K obj N).length,0):=by
 unfold whR cT;rw[kV _ _ _ (root_not hK obj)];simp[dD]
theorem whR_none{K:List OpI}{N:Int}{obj el:Rf}(h:∀y∈eP K obj N (0,0),y≠el)(hne:el≠(0,0)):whR K obj N el=(0,6):=by
 unfold whR cT;rw[kV _ _ _ h];simp[hne]
theorem whR_some{K:List OpI}{N:Int}{obj el:Rf}{i:Nat}(h:(eP K obj N (0,0))[i]?=some el)(hn:∀y∈(eP K obj N (0,0)).take i,y≠el):whR K obj N el=(kE (dU K obj) (eP K obj N (0,0)) i,0):=by
 unfold whR cT;rw[oZ _ _ _ h hn];simp
theorem whR_le(K:List OpI)(obj:Rf)(N:Int)(el:Rf):(whR K obj N el).1≤(dD K obj N).length:=by
 unfold whR;split
 ·have:=nZ (dU K obj) el (eP K obj N (0,0)) 0
  unfold cT dD;omega
 ·exact vI _
theorem find_first{α:Type}{p:α→Bool}{l:List α}{k:Nat}(h:l.findIdx? p=some k):∃x,l[k]?=some x∧p x=true∧∀y∈l.take k,p y=false:=by
 obtain⟨hkl,hpk,hlt⟩:=wF.1 h
 refine⟨l[k],sD hkl,hpk,fun y hy=>?_⟩
 obtain⟨j,hj,e⟩:=vW hy
 have hj':j<k:=by rw[tD]at hj;omega
 have:=hlt j hj'
 rw[List.getElem_take]at e;rw[e]at this;simpa using this
end
section
theorem fst_one{α β:Type}: ∀ {L:List (α×β)},(L.map Prod.fst).Nodup→∀ {x y:α×β},x∈L→y∈L→x.1=y.1→x=y
 | [],_,x,y,hx,_,_=>by cases hx
 |z::L,hn,x,y,hx,hy,hxy=>by
  rw[sT,tN]at hn;rcases sK.1 hx with rfl|hx2
  ·rcases sK.1 hy with rfl|hy2
   ·rfl
   ·exact(hn.1 (hxy▸tY (f:=Prod.fst) hy2)).elim
  ·rcases sK.1 hy with rfl|hy2
   ·exact(hn.1 (hxy▸tY (f:=Prod.fst) hx2)).elim
   ·exact fst_one hn.2 hx2 hy2 hxy
theorem getPl_at{S:StV}(hn:(S.map Prod.fst).Nodup){p:Wh}{E:List (Rf×VD)}(hm:(p,E)∈S):eY S p=E:=by
 unfold eY;cases hf:S.find? (fun e=>decide (e.1=p)) with
 |none=>exact absurd (uR.1 hf _ hm) (by simp)
 |some x =>
  have h1:=uB hf;have h2:x.1=p:=by simpa using vR hf
  exact congrArg Prod.snd (fst_one hn h1 hm h2)
theorem getPl_no{S:StV}{p:Wh}(hm:∀e∈S,e.1≠p):eY S p=[]:=by
 unfold eY;rw[uR.2 fun e he=>by simpa using hm e he]
section
variable{K:List OpI}{N:Int}{B g kb vb cb lb:Nat}{V:dM}{C:dE}{w:World}
theorem SMem.place(h:SMem B w g kb vb cb lb K V C)(hR:Rows1 K){p:Wh}(h1:I64R p.1)(h2:I64R p.2.2)(h3:p.2.1.size≤maxLen):
 ∃mb:Option Nat,oX w 24 mb ((atV K p).map kvd)∧(∀b,mb=some b→b<w.heap.size)∧∀U:World,U.heap[vb]?=w.heap[vb]?→(Instr.lookup 96 (.map (some vb)) (whV p) false).run Tryz.prog U=.ok (.map mb) U:=by
 have hat:eY (lA K) p=atV K p:=by
  unfold lA;rw[getPl_new];exact values_are hR p
 by_cases hm:∃x∈V,x.1=p
 ·obtain⟨⟨p',b,E⟩,hx,rfl⟩:=hm
  have hE:atV K p'=E:=by
   rw[←hat,←h.isV];refine getPl_at ?_ (sH.2 ⟨_,hx,rfl⟩);rw[vG];exact h.sg.places
  rw[hE];have he:=h.each _ hx;exact⟨some b,he,(fun b' e=>by cases e;exact aI.lt he),fun U hU=>aI.hit (aI.keep h.vals hU) bY Tryz.underlying96 (eX U) (sH.2 ⟨_,hx,rfl⟩) false⟩
 ·obtain⟨kl,hkl⟩:=iP h1 h2 h3
  have hE:atV K p=[]:=by
   rw[←hat,←h.isV];refine getPl_no fun e he hp=>?_
   obtain⟨y,hy,rfl⟩:=sH.1 he
   exact hm ⟨y,hy,hp⟩
  rw[hE];refine⟨none,rfl,(fun b e=>by cases e),fun U hU=>aI.miss (aI.keep h.vals hU) bY Tryz.underlying96 (eX U) hkl (fun q hq e=>?_) false⟩
  obtain⟨y,hy,rfl⟩:=sH.1 hq
  exact hm ⟨y,hy,pA e⟩
theorem atJ_atV(hR:Rows1 K)(p:Wh)(hn:(K.map Prod.snd).Nodup){l:List (Rf×VD)}(hp:l.Perm (atV K p))(hd:DescW (l.map Prod.fst)):l=atJ K p:=by
 have h1:=pX (mW hn p);rw[atJ_is hR];refine fall_pairs (hp.trans h1.1.symm) (desc_fall hd ?_) h1.2;exact((hp.map Prod.fst).nodup_iff).2 (mW hn p)
theorem atJ_atV_len(hR:Rows1 K)(p:Wh)(hn:(K.map Prod.snd).Nodup):(atJ K p).length=(atV K p).length:=by
 rw[atJ_is hR];exact(pX (mW hn p)).1.length_eq
theorem stAtK_any(hm:SMem B w g kb vb cb lb K V C)(hR:Rows1 K)(hn:(K.map Prod.snd).Nodup)(p:Wh)(h1:I64R p.1)(h2:I64R p.2.2)(h3:p.2.1.size≤maxLen)(hl:K.length≤100000):
 Calls Tryz.prog 66 #[.pointer (some ⟨g,0,none⟩),whV p] w fun e w'=>PlR p (atJ K p) w.heap.size e w'∧Below w.heap.size w w':=by
 obtain⟨mb,hmo,-,hlk⟩:=hm.place hR h1 h2 h3
 refine(stAt_any p.1.1 p.1.2 p.2.1 p.2.2.1 p.2.2.2 (atV K p) mb g vb _ _ _ w hm.blk (fun U hU _=>hlk U hU) (aI.lt hm.vals) hmo (mW hn p) (by have:=atV_len K p;omega)).mono ?_
 rintro e w' ⟨l,hp,hd,hpl,hb⟩;rw[←atJ_atV hR p hn hp hd];exact⟨hpl,hb⟩
end
theorem build_wh2(a b c d:Int)(w:World):(Instr.build 126 #[(0,.agg #[.int .i64 a,.int .i64 b]),(2,.agg #[.int .i64 c,.int .i64 d])]).run Tryz.prog w=.ok (.agg #[.int .i64 a,.int .i64 b,.string ⟨#[]⟩,.int .i64 c,.int .i64 d]) w:=by kernel_rfl
theorem stElem_any{K:List OpI}{B g kb vb cb lb:Nat}{V:dM}{C:dE}(w:World)(hm:SMem B w g kb vb cb lb K V C)(hR:Rows1 K)(hn:(K.map Prod.snd).Nodup)(o1 o2 n1 n2:Int)(h1:I64R (o1,o2))(h2:I64R (n1,n2))(hl:K.length≤100000):
 Calls Tryz.prog 42 #[.pointer (some ⟨g,0,none⟩),.agg #[.int .i64 o1,.int .i64 o2],.agg #[.int .i64 n1,.int .i64 n2]] w fun e w'=>PlR ((o1,o2),⟨#[]⟩,(n1,n2)) (atJ K ((o1,o2),⟨#[]⟩,(n1,n2))) w.heap.size e w'∧Below w.heap.size w w':=by
 have hb1:Below w.heap.size w (w.alloc (.cells #[.int .i64 o1,.int .i64 o2] 24)):=(sB _ w).alloc (sC _) _;have hb2:Below w.heap.size w ((w.alloc (.cells #[.int .i64 o1,.int .i64 o2] 24)).alloc (.cells #[.int .i64 n1,.int .i64 n2] 24)):=hb1.alloc hb1.size _;have hb3:Below w.heap.size w (((w.alloc (.cells #[.int .i64 o1,.int .i64 o2] 24)).alloc (.cells #[.int .i64 n1,.int .i64 n2] 24)).alloc (.cells #[.int .i64 0,.int .i64 0,.string ⟨#[]⟩,.int .i64 0,.int .i64 0,.slice none 0 0,.slice none 0 0] 73)):=hb2.alloc hb2.size _;have h1':=Blk.new w 24 #[.int .i64 o1,.int .i64 o2];have h2':=Blk.new (w.alloc (.cells #[.int .i64 o1,.int .i64 o2] 24)) 24 #[.int .i64 n1,.int .i64 n2];have h3':=Blk.new ((w.alloc (.cells #[.int .i64 o1,.int .i64 o2] 24)).alloc (.cells #[.int .i64 n1,.int .i64 n2] 24)) 73 #[.int .i64 0,.int .i64 0,.string ⟨#[]⟩,.int .i64 0,.int .i64 0,.slice none 0 0,.slice none 0 0];have HO:=Hi ((h1'.alloc (.cells #[.int .i64 n1,.int .i64 n2] 24)).alloc (.cells #[.int .i64 0,.int .i64 0,.string ⟨#[]⟩,.int .i64 0,.int .i64 0,.slice none 0 0,.slice none 0 0] 73));have HN:=Hi (h2'.alloc (.cells #[.int .i64 0,.int .i64 0,.string ⟨#[]⟩,.int .i64 0,.int .i64 0,.slice none 0 0,.slice none 0 0] 73));have HP:=Hi h3';have HB:=Hi hb3;rw[World.size_alloc]at HN;rw[World.size_alloc,World.size_alloc]at HP;have C1:=stAtK_any (hm.below hb3) hR hn ((o1,o2),⟨#[]⟩,(n1,n2)) h1 h2 (vI _) hl;obtain⟨l,hle⟩:∃l,atJ K ((o1,o2),⟨#[]⟩,(n1,n2))=l:=⟨_,rfl⟩
 rw[hle]at C1 ⊢;simp only[whV]at C1;have hbp:=fun w=>build_wh2 o1 o2 n1 n2 w
 clear hm hR hn hb1 hb2 hb3 h1' h2' h3' h1 h2 hle;go_enter Tryz.func42,Tryz.ntmps42;go_upto_region 1 with fail
 generalize ((w.alloc (.cells #[.int .i64 o1,.int .i64 o2] 24)).alloc (.cells #[.int .i64 n1,.int .i64 n2] 24)).alloc (.cells #[.int .i64 0,.int .i64 0,.string ⟨#[]⟩,.int .i64 0,.int .i64 0,.slice none 0 0,.slice none 0 0] 73)=w0 at HO HN HP HB C1 ⊢;obtain⟨q,hq⟩:∃q,w.heap.size+1+1=q:=⟨_,rfl⟩
 have HQ:=Hi hq;have HQB:Hid (w.heap.size<q):=by show _<_;omega
 rw[hq]at HP ⊢;clear hq;have HBS:=Hi HB.o.size;have q0:=cZ HO.o 0 rfl;have q1:=cZ HO.o 1 rfl
 have n0:=cZ HN.o 0 rfl;have n1':=cZ HN.o 1 rfl
 go_wp2_with fail
 go_at_call 66;refine C1.mono ?_;rintro e w1 ⟨⟨A,cA,I,cI,rfl,hra,hri⟩,hb⟩;have HP1:=Hi (HP.o.keep (hb.block _ HP.o.lt));have HB1:Hid (Below w.heap.size w w1):=HB.o.trans (hb.mono HBS.o);have HLT:=Hi HP.o.lt;have HRA:=Hi hra;have HRI:=Hi hri;clear hb hra hri C1 q0 q1 n0 n1' HO HN HP HB hbp;have r0:=cZ HP1.o 0 rfl;have f0:=HP1.o.frozen 0;have r1:=cZ HP1.o 1 rfl;have f1:=HP1.o.frozen 1;have r2:=cZ HP1.o 2 rfl;have f2:=HP1.o.frozen 2;have r3:=cZ HP1.o 3 rfl;have f3:=HP1.o.frozen 3;have r4:=cZ HP1.o 4 rfl;have f4:=HP1.o.frozen 4;have r5:=cZ HP1.o 5 rfl;have f5:=HP1.o.frozen 5;have r6:=cZ HP1.o 6 rfl;have f6:=HP1.o.frozen 6;go_wp2_with fail
 have hch:Chg (fun k=>k=q) _ _:=((((((((Chg.refl w1).put1 0 (.int .i64 o1)).put1 1 (.int .i64 o2)).put1 2 (.string ⟨#[]⟩)).put1 3 (.int .i64 n1)).put1 4 (.int .i64 n2)).put1 5 (.slice A l.length cA)).put1 6 (.slice I l.length cI));have hbl:=(((((((HP1.o.set_ 0 (.int .i64 o1)).set_ 1 (.int .i64 o2)).set_ 2 (.string ⟨#[]⟩)).set_ 3 (.int .i64 n1)).set_ 4 (.int .i64 n2)).set_ 5 (.slice A l.length cA)).set_ 6 (.slice I l.length cI));refine bodyPost_ret (pJ (p:=6) (by kernel_rfl) _ _ q 73 #[.int .i64 o1,.int .i64 o2,.string ⟨#[]⟩,.int .i64 n1,.int .i64 n2,.slice A l.length cA,.slice I l.length cI] _ rfl hbl Tryz.underlying73 rfl (by kernel_rfl)) rfl ?_;exact⟨⟨A,cA,I,cI,rfl,(HRA.o.keep (hch.keeps fun k hk=>⟨hk.2,by have:=HLT.o;omega⟩)).more fun k hk=>⟨sR HBS.o hk.1,sE hk.2 hch.size⟩,
  (HRI.o.keep (hch.keeps fun k hk=>⟨hk.2,by have:=HLT.o;omega⟩)).more fun k hk=>⟨sR HBS.o hk.1,sE hk.2 hch.size⟩⟩,HB1.o.trans (hch.below HB1.o.size fun k hk=>by have:=HQB.o;omega)⟩
end
section
theorem oX.len{w:World}{k e t:TypeId}{mb:Option Nat}{l:List (Value×Value)}(h:oX w k mb l)(ht:Tryz.prog.underlying t=some (.map k e))(ty:TypeId):(Builtin.len_ #[t] ty #[.map mb]).run Tryz.prog w=.ok (.int .i64 l.length) w:=by
 cases mb with
 |some b=>exact aI.len h ht ty
 |none =>
  obtain rfl:l=[]:=h;exact Maps.len_nil ht ty
theorem deleteFI0_any(A:Option Addr)(c:Nat)(gf:Nat)(lb:Array Value)(w:World)(eg:∀args w,(callFunc gf args).run Tryz.prog w=.ok (.enter gf args) w):
 Calls Tryz.prog 64 #[.slice A 0 c,.func (.func gf) #[] lb] w fun e w'=>e=.returned (.slice A 0 c)∧Below w.heap.size w w':=by
 have C1:=rU [] A c w ⟨rfl,fun h=>absurd h (by simp)⟩ (by simp) gf lb (fun _=>false) eg (fun W r hr hb=>by cases hr);rw[show iC (fun _=>false) ([]:List Rf)=-1 from rfl,show([]:List Rf).length=0 from rfl]at C1;go_enter Tryz.func64,Tryz.ntmps64;go_wp2_with fail
 go_at_call 98;refine C1.mono ?_;rintro e w1 ⟨rfl,hb⟩;go_wp2_with fail
 go_ret;exact⟨rfl,hb⟩
theorem deleteOwnI{v:Value}{l:List Rf}{base:Nat}{w:World}(ho:w.ownsRow base 24 2 v l.length (aE l))(hB:base≤w.heap.size)(hl:l.length≤1000000)(gf:Nat)(lb:Array Value)(p:Rf→Bool)
 (eg:∀args w,(callFunc gf args).run Tryz.prog w=.ok (.enter gf args) w)
 (hp:∀(W:World) (r:Rf),r∈l→Below base w W→Calls Tryz.prog gf (#[.agg #[.int .i64 r.1,.int .i64 r.2]]++lb) W fun e w'=>e=.returned (.bool (p r))∧Below W.heap.size W w') :
 Calls Tryz.prog 64 #[v,.func (.func gf) #[] lb] w fun e w' =>
  ∃A c,e=.returned (.slice A (l.filter fun r=>!p r).length c)∧c≤maxLen∧(l.filter fun r=>!p r).length≤c∧aC (fun k=>base≤k∧k<w'.heap.size) w' 2 A (l.filter fun r=>!p r).length (aE (l.filter fun r=>!p r))∧Below base w w':=by
 obtain⟨A,cap,rfl,h1,h2,-⟩:=aC.of_own ho
 rcases uS l.length with h0|h0
 ·obtain rfl:=tV.1 h0;refine(deleteFI0_any A cap gf lb w eg).mono ?_
  rintro e w' ⟨rfl,hb⟩;exact⟨A,cap,rfl,h2,vI _,⟨rfl,fun h=>by cases h⟩,hb.mono hB⟩
 ·obtain⟨g,cap',hA,hg1,hg2⟩:=ho.form h0
  simp only[tZ,true_and]at hA;obtain⟨rfl,rfl⟩:=hA
  have hrow:bF w g l:=fun j u hu=>by
   have hj:j<l.length*2:=by
    rcases vF j (l.length*2) with h|h
    ·exact h
    ·rw[uF (by rw[aY];exact h)]at hu;cases hu
   exact⟨(wC ho j hj).trans hu,xD ho j⟩
  refine(deleteFI_any g cap l.length l w hrow hg2 rfl hl h1 (by simp only[maxLen]at h2;omega) gf lb p eg (fun W r hr hc=>hp W r hr (hc.below hB fun k hk=>by rw[hk];exact hg1))).mono ?_
  rintro e w' ⟨rfl,hr,hc⟩;exact⟨_,_,rfl,h2,sR (vC _ _) h1,hr.reads.more fun k hk=>by rw[hk];exact⟨hg1,sE hg2 hc.size⟩,hc.below hB fun k hk=>by rw[hk];exact hg1⟩
section
variable{K:List OpI}{N:Int}{B g kb vb cb lb:Nat}{V:dM}{C:dE}
theorem seen1_any(w:World)(hm:SMem B w g kb vb cb lb K V C)(hR:Rows1 K)(hn:(K.map Prod.snd).Nodup)(o1 o2 n1 n2:Int)(h1:I64R (o1,o2))(h2:I64R (n1,n2))(hl:K.length≤100000)(q q2:Nat)
 (hq:w.cell? ⟨q,0,none⟩=some (.pointer (some ⟨g,0,none⟩))) (hql:q<w.heap.size) (hq2:Blk w q2 24 #[.int .i64 o1,.int .i64 o2]) :
 Calls Tryz.prog 65 (#[.agg #[.int .i64 n1,.int .i64 n2]]++#[.pointer (some ⟨q,0,none⟩),.pointer (some ⟨q2,0,none⟩)]) w fun e w'=>e=.returned (.bool (!dU K (o1,o2) (n1,n2)))∧Below w.heap.size w w':=by
 have hW:Below w.heap.size w (w.alloc (.cells #[.int .i64 n1,.int .i64 n2] 24)):=(sB _ w).alloc (sC _) _;have HQ:=Hi (Blk.new w 24 #[.int .i64 n1,.int .i64 n2]);have HW:=Hi hW;have HQ2:=Hi (hq2.keep (hW.block _ hq2.lt));have HS:=Hi (hm.below hW);have HQ1:Hid ((w.alloc (.cells #[.int .i64 n1,.int .i64 n2] 24)).cell? ⟨q,0,none⟩=some (.pointer (some ⟨g,0,none⟩))):=(sM (hW.block _ hql)).trans hq;obtain⟨mb,hmo,hlt,hlk⟩:=HS.o.place hR (p:=((o1,o2),⟨#[]⟩,(n1,n2))) h1 h2 (vI _)
 have HLV:Hid (dU K (o1,o2) (n1,n2)=decide (0<(atV K ((o1,o2),⟨#[]⟩,(n1,n2))).length)):=by show _=_;unfold dU;rw[atJ_atV_len hR _ hn]
 have hlen:=fun ty=>(hmo.keep (w':=(w.alloc (.cells #[.int .i64 n1,.int .i64 n2] 24)).drew) fun _ _=>rfl).len (t:=132) Tryz.underlying132 ty
 rw[sP]at hlen;obtain⟨ne,hne⟩:∃n,(atV K ((o1,o2),⟨#[]⟩,(n1,n2))).length=n:=⟨_,rfl⟩
 rw[hne]at hlen HLV;have HNE:Hid (ne≤100000):=by show _≤_;rw[←hne];exact sR (atV_len _ _) hl
 obtain⟨ok,hok⟩:∃ok,((ne:Int) == 0)=ok:=⟨_,rfl⟩
 have HOK:=Hi hok;have hbp:=fun w=>build_wh2 o1 o2 n1 n2 w
 simp only[whV]at hlk;have hlk:=hlk (w.alloc (.cells #[.int .i64 n1,.int .i64 n2] 24)).drew rfl;clear hm hR hn hq hql hq2 hW hmo hlt hne h1 h2 hl;show Calls _ _ #[.agg #[.int .i64 n1,.int .i64 n2],.pointer (some ⟨q,0,none⟩),.pointer (some ⟨q2,0,none⟩)] _ _;go_enter Tryz.func65,Tryz.ntmps65;go_upto_region 1 with fail
 generalize w.alloc (.cells #[.int .i64 n1,.int .i64 n2] 24)=w0 at HQ HW HQ2 HS HQ1 hlk hlen ⊢;generalize w.heap.size=qn at HQ ⊢;have g0:w0.cell? ⟨q,0,none⟩=some (.pointer (some ⟨g,0,none⟩)):=HQ1.o;have g1:=cZ HS.o.blk 1 rfl;have q0:=cZ HQ2.o 0 rfl;have q1:=cZ HQ2.o 1 rfl
 have n0:=cZ HQ.o 0 rfl;have n1':=cZ HQ.o 1 rfl
 refine wp_region_still_lit (by kernel_rfl) (by kernel_rfl) ?_;repeat (first|(refine aK rfl (fun K hK=>?_);go_simp;refine hK _ ?_;clear hK K)|(refine aO rfl ?_;go_frame))
 refine wpStill_nil ?_;change Exit.then _ _ _ _ w0.drew;have HW:Hid (Below w.heap.size w w0.drew):=HW.o.drew;go_wp2_with fail
 go_ret;exact⟨by rw[HLV.o,←HOK.o];cases ne<;>rfl,HW.o⟩
theorem stSeen_any(w:World)(hm:SMem B w g kb vb cb lb K V C)(hK:KTree K N)(hR:Rows1 K)(hids:∀x∈K,I64R x.2)(o1 o2:Int)(ho:I64R (o1,o2))(hl:K.length≤100000)(hk:∀x∈K,eG x=(o1,o2)→x.1.key=⟨#[]⟩):
 Calls Tryz.prog 41 #[.pointer (some ⟨g,0,none⟩),.agg #[.int .i64 o1,.int .i64 o2]] w fun e w'=>∃A c,e=.returned (.slice A (dD K (o1,o2) N).length c)∧c≤maxLen∧(dD K (o1,o2) N).length≤c ∧
  aC (fun k=>w.heap.size≤k∧k<w'.heap.size) w' 2 A (dD K (o1,o2) N).length (aE (dD K (o1,o2) N))∧Below w.heap.size w w':=by
 have hb1:Below w.heap.size w (w.alloc (.cells #[.pointer (some ⟨g,0,none⟩)] 92)):=(sB _ w).alloc (sC _) _;have hb2:Below w.heap.size w ((w.alloc (.cells #[.pointer (some ⟨g,0,none⟩)] 92)).alloc (.cells #[.int .i64 o1,.int .i64 o2] 24)):=hb1.alloc hb1.size _;have HP:=Hi ((Blk.new w 92 #[.pointer (some ⟨g,0,none⟩)]).alloc (.cells #[.int .i64 o1,.int .i64 o2] 24));have HQ:=Hi (Blk.new (w.alloc (.cells #[.pointer (some ⟨g,0,none⟩)] 92)) 24 #[.int .i64 o1,.int .i64 o2]);rw[World.size_alloc]at HQ;have HB:=Hi hb2;have HS:=Hi (hm.below hb2);have HLT:Hid (w.heap.size+1+1≤((w.alloc (.cells #[.pointer (some ⟨g,0,none⟩)] 92)).alloc (.cells #[.int .i64 o1,.int .i64 o2] 24)).heap.size):=by show _≤_;simp
 have C1:=rK N o1 o2 _ HS.o hK hids ho hl hk;have HR:=Hi hR;have HK:=Hi hK;have HI:=Hi hids;have HO:=Hi ho;have HL:=Hi hl;clear hb1 hb2 hm hK hR hids ho hl hk;go_enter Tryz.func41,Tryz.ntmps41;go_upto_region 1 with fail
 generalize (w.alloc (.cells #[.pointer (some ⟨g,0,none⟩)] 92)).alloc (.cells #[.int .i64 o1,.int .i64 o2] 24)=w0 at HP HQ HB HS HLT C1 ⊢;obtain⟨q,hq⟩:∃q,w.heap.size=q:=⟨_,rfl⟩
 have HQQ:=Hi hq;rw[hq]at HP HQ HB HLT ⊢;clear hq;have p0:=cZ HP.o 0 rfl;have q0:=cZ HQ.o 0 rfl;have q1:=cZ HQ.o 1 rfl
 go_wp2_with fail
 go_at_call 34;refine C1.mono ?_;rintro e w1 ⟨v,rfl,ho1,hb⟩;have HB1:Hid (Below q w w1):=HB.o.trans (hb.mono (by have:=HLT.o;omega));have HP1:=Hi (HP.o.keep (hb.block _ HP.o.lt));have HQ1:=Hi (HQ.o.keep (hb.block _ HQ.o.lt));have HS1:=Hi (HS.o.below hb);have HSZ:=Hi hb.size;have hall:=HK.o.all (obj:=(o1,o2));have EG:∀args w,(callFunc 65 args).run Tryz.prog w=.ok (.enter 65 args) w:=enters_of Tryz.func65 (by kernel_rfl) (wY (show Tryz.f65.body.isSome=true by kernel_rfl)).symm;have C2:=deleteOwnI ho1 hb.size (by have:=hall.2.1;have:=HL.o;omega) 65 #[.pointer (some ⟨q,0,none⟩),.pointer (some ⟨q+1,0,none⟩)] (fun r=>!dU K (o1,o2) r) EG (fun W r hr hbW=>by
  obtain⟨x,hx,rfl,-,-⟩:=hall.2.2 r hr
  have hW:=hb.trans hbW;exact seen1_any W (HS.o.below hW) HR.o HK.o.nd o1 o2 x.2.1 x.2.2 HO.o (HI.o x hx) HL.o q (q+1) ((hW.cell (by have:=HLT.o;show q<_;omega)).trans (HP.o.cell 0)) (by have:=HLT.o;have:=hW.size;omega) (HQ.o.keep (hW.block _ HQ.o.lt)))
 rw[show(eP K (o1,o2) N (0,0)).filter (fun r=>!!dU K (o1,o2) r)=dD K (o1,o2) N by unfold dD;simp only[Bool.not_not]]at C2;have HLT2:Hid (q≤w0.heap.size):=by have:=HLT.o;show _≤_;omega
 clear C1 p0 q0 q1 hall ho1 hb EG HS1 HQ1 HP1 HS HQ HP HLT;go_wp2_with fail
 go_at_call 64;refine C2.mono ?_;rintro e w2 ⟨A,c,rfl,hc1,hc2,hr,hb2⟩;have HCC:=Hi (And.intro hc1 hc2);have HR2:=Hi hr;have HB2:Hid (Below q w w2):=HB1.o.trans (hb2.mono HLT2.o);clear C2 hr hb2 hc1 hc2;go_wp2_with fail
 go_ret;exact⟨A,c,rfl,HCC.o.1,HCC.o.2,HR2.o.more fun k hk=>⟨by have h:=HLT2.o;rw[←HQQ.o]at h;exact sR h hk.1,hk.2⟩,by rw[HQQ.o];exact HB2.o⟩
end
end
section
section
variable{K:List OpI}{N:Int}{B g kb vb cb lb:Nat}{V:dM}{C:dE}
theorem markWhere_any(w:World)(hm:SMem B w g kb vb cb lb K V C)(hK:KTree K N)(hR:Rows1 K)(hids:∀x∈K,I64R x.2)(o1 o2 l1 l2:Int)(ho:I64R (o1,o2))(hl:K.length≤100000)(hk:∀x∈K,eG x=(o1,o2)→x.1.key=⟨#[]⟩):
 Calls Tryz.prog 40 #[.pointer (some ⟨g,0,none⟩),.agg #[.int .i64 o1,.int .i64 o2],.agg #[.int .i64 l1,.int .i64 l2]] w fun e w' =>
  e=.returned (.tuple #[.int .i64 (whR K (o1,o2) N (l1,l2)).1,eA (whR K (o1,o2) N (l1,l2)).2])∧Below w.heap.size w w':=by
 have hb1:Below w.heap.size w (w.alloc (.cells #[.int .i64 o1,.int .i64 o2] 24)):=(sB _ w).alloc (sC _) _;have hb2:Below w.heap.size w ((w.alloc (.cells #[.int .i64 o1,.int .i64 o2] 24)).alloc (.cells #[.int .i64 l1,.int .i64 l2] 24)):=hb1.alloc hb1.size _;have HO:=Hi ((Blk.new w 24 #[.int .i64 o1,.int .i64 o2]).alloc (.cells #[.int .i64 l1,.int .i64 l2] 24));have HE:=Hi (Blk.new (w.alloc (.cells #[.int .i64 o1,.int .i64 o2] 24)) 24 #[.int .i64 l1,.int .i64 l2]);rw[World.size_alloc]at HE;have HB:=Hi hb2;have HS:=Hi (hm.below hb2);have HLT:Hid (w.heap.size+1+1≤((w.alloc (.cells #[.int .i64 o1,.int .i64 o2] 24)).alloc (.cells #[.int .i64 l1,.int .i64 l2] 24)).heap.size):=by show _≤_;simp
 have C1:=stSeen_any _ HS.o hK hR hids o1 o2 ho hl hk;have HK:=Hi hK;have HI:=Hi hids;have HOB:=Hi ho;have HL:=Hi hl;have HKY:=Hi hk;have HALL:=Hi (hK.all (obj:=(o1,o2)));obtain⟨S,hS⟩:∃S,eP K (o1,o2) N (0,0)=S:=⟨_,rfl⟩
 have HSE:=Hi hS;obtain⟨p,hp⟩:∃p,dU K (o1,o2)=p:=⟨_,rfl⟩
 have HPE:=Hi hp;have HT:Hid (dD K (o1,o2) N=S.filter p):=by show _=_;unfold dD;rw[hS,hp]
 obtain⟨nT,hnT⟩:∃n,(S.filter p).length=n:=⟨_,rfl⟩
 have HNT:=Hi hnT;rw[HT.o,hnT]at C1;have HTL:Hid (nT≤100001):=by
  have h1:=HALL.o.2.1;have h2:=vC p S;rw[hS]at h1;show _≤_;omega
 clear hb1 hb2 hm hK hR hids ho hl hk hS hp hnT;go_enter Tryz.func40,Tryz.ntmps40;go_upto_region 1 with fail
 generalize (w.alloc (.cells #[.int .i64 o1,.int .i64 o2] 24)).alloc (.cells #[.int .i64 l1,.int .i64 l2] 24)=w0 at HO HE HB HS HLT C1 ⊢;obtain⟨q,hq⟩:∃q,w.heap.size=q:=⟨_,rfl⟩
 have HQQ:=Hi hq;rw[hq]at HO HE HB HLT ⊢;clear hq;have p0:=cZ HO.o 0 rfl;have p1:=cZ HO.o 1 rfl
 go_wp2_with fail
 go_at_call 41;refine C1.mono ?_;rintro e w1 ⟨A1,c1,rfl,-,-,hr1,hb⟩;have HB1:Hid (Below q w w1):=HB.o.trans (hb.mono (by have:=HLT.o;omega));have HO1:=Hi (HO.o.keep (hb.block _ HO.o.lt));have HE1:=Hi (HE.o.keep (hb.block _ HE.o.lt));have HS1:=Hi (HS.o.below hb);have HR1:Hid (aC (fun k=>k<w1.heap.size) w1 2 A1 nT (aE (S.filter p))):=hr1.more fun k hk=>hk.2
 have HQ1:Hid (q≤w1.heap.size):=by have:=HE1.o.lt;show _≤_;omega
 clear hb hr1 C1 p0 p1 HB HO HE HS HLT;have e0:=cZ HE1.o 0 rfl;have e1:=cZ HE1.o 1 rfl
 have E:=fun w=>iS l1 l2 0 0 w
 obtain⟨eb,heb⟩:∃eb,(l1 == 0&&l2 == 0)=eb:=⟨_,rfl⟩
 rw[heb]at E;have HEB:Hid (eb=decide ((l1,l2)=((0,0):Rf))):=by show _=_;rw[eN,heb]
 clear heb;cases eb with
 |true =>
  have HF:Hid (whR K (o1,o2) N (l1,l2)=(nT,0)):=by
   show _=_;have h:=of_decide_eq_true HEB.o.symm;rw[h,whR_root HK.o,HT.o,HNT.o]
  go_wp2_with fail
  go_ret2;exact⟨by rw[HF.o];rfl,by rw[HQQ.o];exact HB1.o⟩
 |false =>
  have HNZ:Hid ((l1,l2)≠((0,0):Rf)):=of_decide_eq_false HEB.o.symm;have C2:=rK N o1 o2 w1 HS1.o HK.o HI.o HOB.o HL.o HKY.o;rw[HSE.o]at C2;have p0:=cZ HO1.o 0 rfl;have p1:=cZ HO1.o 1 rfl
  go_wp2_with fail
  go_at_call 34;refine C2.mono ?_;rintro e w2 ⟨v2,rfl,ho2,hb⟩;obtain⟨A2,c2,rfl,hc2,hc2',hr2⟩:=aC.of_own ho2
  have HB2:Hid (Below q w w2):=HB1.o.trans (hb.mono HQ1.o);have HE2:=Hi (HE1.o.keep (hb.block _ HE1.o.lt));have HR12:=Hi (aA HR1.o hb);have HR2:Hid (aC (fun k=>k<w2.heap.size) w2 2 A2 S.length (aE S)):=hr2.more fun k hk=>(aF ho2 hk).2
  have HQ2:Hid (q≤w2.heap.size):=sR HQ1.o hb.size;have hSL:S.length≤100001:=by
   have h1:=HALL.o.2.1;rw[HSE.o]at h1;have:=HL.o
   omega
  have C3:=indexI_any S l1 l2 A2 c2 w2 HR2.o (by omega);obtain⟨nS,hnS⟩:∃n,S.length=n:=⟨_,rfl⟩
  have HNS:=Hi hnS;rw[hnS]at C3 HR2 hc2 hSL ⊢;have HCC:Hid (nS≤c2∧c2≤maxLen):=⟨hc2,hc2'⟩;clear C2 ho2 hb hr2 p0 p1 e0 e1 E HB1 HO1 HE1 HS1 HR1 HQ1 hnS hc2 hc2';have e0:=cZ HE2.o 0 rfl;have e1:=cZ HE2.o 1 rfl
  cases hf:S.findIdx? (fun x=>decide (x=(l1,l2))) with
  |none =>
   have hix:iC (fun x=>decide (x=(l1,l2))) S=-1:=by unfold iC;rw[hf]
   rw[hix]at C3;have HF:Hid (whR K (o1,o2) N (l1,l2)=(0,6)):=whR_none (fun y hy=>by
    rw[HSE.o]at hy;exact of_decide_eq_false (vV.1 hf y hy)) HNZ.o
   clear hix hf;go_wp2_with fail
   go_at_call 63;refine C3.mono ?_;rintro e w3 ⟨rfl,hb⟩;have HB3:Hid (Below q w w3):=HB2.o.trans (hb.mono HQ2.o);clear hb C3;go_wp2_with fail
   go_ret2;exact⟨by rw[HF.o];rfl,by rw[HQQ.o];exact HB3.o⟩
  |some k =>
   have hix:iC (fun x=>decide (x=(l1,l2))) S=(k:Int):=by unfold iC;rw[hf]
   rw[hix]at C3;obtain⟨x0,hx0,hpx,hlt⟩:=find_first hf
   have HF:Hid (whR K (o1,o2) N (l1,l2)=(kE p S k,0)):=by
    show _=_;rw[whR_some (i:=k) (by rw[HSE.o,hx0,of_decide_eq_true hpx]) (by rw[HSE.o];exact fun y hy=>of_decide_eq_false (hlt y hy)),HSE.o,HPE.o]
   have hkS:k<nS:=by rw[←HNS.o];exact(sF.1 hx0).1
   clear hix hf hx0 hpx hlt;go_wp2_with fail
   go_at_call 63;refine C3.mono ?_;rintro e w3 ⟨rfl,hb⟩;have HB3:Hid (Below q w w3):=HB2.o.trans (hb.mono HQ2.o);have HQ3:Hid (q≤w3.heap.size):=sR HQ2.o hb.size;have HR13:=Hi (aA HR12.o hb);have HR3:=Hi (aA HR2.o hb);have hs1:=fun w=>slice_to (t:=28) Tryz.underlying28 size_id A2 (xX hkS) HCC.o.1 w
   clear hb C3 e0 e1 HE2 HB2 HQ2 HR12 HR2;go_upto_region 10 with fail
   clear hs1;go_loopw [11,13,35] (fun s11 _ s35 wr=>∃i cn:Nat,s35=.int .i64 i∧s11=.int .i64 cn∧i≤k∧Hid (cn=kE p S i)∧Hid (Below w3.heap.size w3 wr)) (fun _ _ s35 _=>k-(intOf s35).toNat)
   case atStart=>exact⟨0,0,rfl,rfl,by omega,by show _=_;simp[kE],sB _ _⟩
   case round =>
    obtain⟨i,cn,rfl,rfl,hi,HCN,HW⟩:=hrel
    by_cases hlt:i<k
    ·obtain⟨⟨r1,r2⟩,hr⟩:∃r,S[i]?=some r:=⟨_,sD (by rw[HNS.o];omega)⟩
     have HRI:=Hi hr;have HRr:=Hi (aA HR3.o HW.o);have HR1r:=Hi (aA HR13.o HW.o);obtain⟨ab,ao,rfl,hbb,hcA⟩:=HRr.o.at_ (by omega) (by omega)
     have y1:wr.cell? ⟨ab,ao+i*2,none⟩=some (.int .i64 r1):=hcA _ _ (aL hr).1;have y2:wr.cell? ⟨ab,ao+i*2+1,none⟩=some (.int .i64 r2):=by have:=hcA _ _ (aL hr).2;rw[←tL]at this;exact this
     have hcl:cn≤nT:=by rw[HCN.o,←HNT.o];exact cntL_le _ _ _
     have HC1:=HTL.o;clear hcA hr hbb;go_upto_region 12 with fail
     have HQB:=Hi (Blk.new wr 24 #[.int .i64 r1,.int .i64 r2]);have hba:Below wr.heap.size wr (wr.alloc (.cells #[.int .i64 r1,.int .i64 r2] 24)):=(sB _ wr).alloc (sC _) _;have HW2:=Hi (HW.o.trans (hba.mono HW.o.size));have HR2r:=Hi (aA HR1r.o hba);clear hba y1 y2 HRr HR1r HW;generalize wr.alloc (.cells #[.int .i64 r1,.int .i64 r2] 24)=w5 at HQB HW2 HR2r ⊢;generalize wr.heap.size=q5 at HQB ⊢;have b0:=cZ HQB.o 0 rfl;have b1:=cZ HQB.o 1 rfl
     by_cases hct:cn<nT
     ·obtain⟨⟨t1,t2⟩,ht⟩:∃r,(S.filter p)[cn]?=some r:=⟨_,sD (by rw[HNT.o];exact hct)⟩
      have HTI:=Hi ht;obtain⟨tb,tf,rfl,-,hcT⟩:=HR2r.o.at_ (by omega) (by omega)
      have z1:w5.cell? ⟨tb,tf+cn*2,none⟩=some (.int .i64 t1):=hcT _ _ (aL ht).1;have z2:w5.cell? ⟨tb,tf+cn*2+1,none⟩=some (.int .i64 t2):=by have:=hcT _ _ (aL ht).2;rw[←tL]at this;exact this
      have g1:decide ((cn:Int)<nT)=true:=decide_eq_true (by omega);have E:=fun w=>iS t1 t2 r1 r2 w
      obtain⟨eb,heb⟩:∃eb,(t1 == r1&&t2 == r2)=eb:=⟨_,rfl⟩
      rw[heb]at E;have HEB2:Hid (eb=decide ((t1,t2)=((r1,r2):Rf))):=by show _=_;rw[eN,heb]
      have HNX:Hid (eb=p (r1,r2)):=by
       show _=_;cases hpr:p (r1,r2) with
       |true =>
        have h1:=(cnt_yes HRI.o hpr).1;rw[←HCN.o,HTI.o]at h1;rw[HEB2.o,decide_eq_true_iff];exact tF h1
       |false =>
        have h1:=(cnt_no HRI.o hpr).1;rw[←HCN.o,HTI.o]at h1;rw[HEB2.o,decide_eq_false_iff_not];exact fun e=>h1 (congrArg some e)
      clear hcT ht heb;go_quiet (fail)
      change Exit.then _ _ _ _ (w5.drewN nq);have HW3:Hid (Below w3.heap.size w3 (w5.drewN nq)):=aJ HW2.o nq;generalize w5.drewN nq=w6 at HW3 ⊢;clear b0 b1 z1 z2 E HW2 HR2r HQB;cases eb with
      |true =>
       have HCN2:Hid (cn+1=kE p S (i+1)):=by show _=_;rw[(cnt_yes HRI.o HNX.o.symm).2,HCN.o]
       go_wp2_with fail
       go_roundw
       case rel=>exact⟨i+1,cn+1,by go_num,by go_num,by omega,HCN2,HW3⟩
       case measure=>simp[intOf];omega
      |false =>
       have HCN2:Hid (cn=kE p S (i+1)):=by show _=_;rw[(cnt_no HRI.o HNX.o.symm).2,HCN.o]
       go_wp2_with fail
       go_roundw
       case rel=>exact⟨i+1,cn,by go_num,rfl,by omega,HCN2,HW3⟩
       case measure=>simp[intOf];omega
     ·have g1:decide ((cn:Int)<nT)=false:=decide_eq_false (by omega);have HCN2:Hid (cn=kE p S (i+1)):=by
       show _=_;cases hpr:p (r1,r2) with
       |true =>
        have h1:=(cnt_yes HRI.o hpr).1;have h2:=(sF.1 h1).1;rw[HNT.o,←HCN.o]at h2;exact(hct h2).elim
       |false=>rw[(cnt_no HRI.o hpr).2,HCN.o]
      go_quiet (fail)
      change Exit.then _ _ _ _ (w5.drewN nq);have HW3:Hid (Below w3.heap.size w3 (w5.drewN nq)):=aJ HW2.o nq;generalize w5.drewN nq=w6 at HW3 ⊢;clear b0 b1 HW2 HR2r HQB;go_wp2_with fail
      go_roundw
      case rel=>exact⟨i+1,cn,by go_num,rfl,by omega,HCN2,HW3⟩
      case measure=>simp[intOf];omega
    ·have hik:i=k:=by omega
     have HFI:Hid (cn=kE p S k):=by show _=_;rw[HCN.o,hik]
     clear hik;go_wp2_with fail
     go_ret2;exact⟨by rw[HF.o,←HFI.o];rfl,by rw[HQQ.o];exact HB3.o.trans (HW.o.mono HQ3.o)⟩
end
end
section
structure LiS(L:List ChD)(o:Rf)(g:Nat)(w:World):Prop where
 bk:Bk L
 len:L.length≤120
 kind:dG (aH L) o=6
 st:∃Lr,Bk Lr∧((aH Lr).map bI).Perm ((aH L).map bI)∧StM Lr g w
section
variable{L:List ChD}{o:Rf}{g:Nat}{w w':World}
theorem LiS.below(h:LiS L o g w)(hb:Below w.heap.size w w'):LiS L o g w':=by
 obtain⟨Lr,h1,h2,B,kb,vb,cb,lb,V,C,h3⟩:=h.st
 exact⟨h.bk,h.len,h.kind,Lr,h1,h2,B,kb,vb,cb,lb,V,C,h3.below hb⟩
theorem LiS.drew(h:LiS L o g w):LiS L o g w.drew:=by
 obtain⟨Lr,h1,h2,B,kb,vb,cb,lb,V,C,h3⟩:=h.st
 exact⟨h.bk,h.len,h.kind,Lr,h1,h2,B,kb,vb,cb,lb,V,C,h3.drew_⟩
theorem Bk.ids64{L:List ChD}(h:Bk L):∀x∈aH L,I64R x.2:=fun x hx=>by
 have:=h.num x hx
 exact⟨by omega,by omega⟩
theorem LiS.lenK(h:LiS L o g w){Lr:List ChD}(h2:((aH Lr).map bI).Perm ((aH L).map bI)):(aH Lr).length≤100000:=by
 have h1:=h.bk.lenOps;have h3:=h2.length_eq;rw[sP,sP]at h3;have h4:=h.len;omega
theorem LiS.seen(h:LiS L o g w)(ho:I64R o):
 Calls Tryz.prog 41 #[.pointer (some ⟨g,0,none⟩),.agg #[.int .i64 o.1,.int .i64 o.2]] w fun e w'=>∃A c,e=.returned (.slice A (dD (aH L) o 1000100).length c)∧c≤maxLen∧(dD (aH L) o 1000100).length≤c ∧
  aC (fun k=>w.heap.size≤k∧k<w'.heap.size) w' 2 A (dD (aH L) o 1000100).length (aE (dD (aH L) o 1000100))∧Below w.heap.size w w':=by
 obtain⟨Lr,h1,h2,B,kb,vb,cb,lb,V,C,h3⟩:=h.st
 have hk:dG (aH Lr) o=6:=(oP h2 h1.ids o).trans h.kind;rw[←seenP_perm h1.tree h.bk.tree h1.rows1 h.bk.rows1 h2];exact stSeen_any w h3 h1.tree h1.rows1 h1.ids64 o.1 o.2 ho (h.lenK h2) (h1.nokey hk)
theorem LiS.where_(h:LiS L o g w)(ho:I64R o)(el:Rf):
 Calls Tryz.prog 40 #[.pointer (some ⟨g,0,none⟩),.agg #[.int .i64 o.1,.int .i64 o.2],.agg #[.int .i64 el.1,.int .i64 el.2]] w fun e w' =>
  e=.returned (.tuple #[.int .i64 (whR (aH L) o 1000100 el).1,eA (whR (aH L) o 1000100 el).2])∧Below w.heap.size w w':=by
 obtain⟨Lr,h1,h2,B,kb,vb,cb,lb,V,C,h3⟩:=h.st
 have hk:dG (aH Lr) o=6:=(oP h2 h1.ids o).trans h.kind;have e1:whR (aH L) o 1000100 el=whR (aH Lr) o 1000100 el:=by unfold whR;rw[whereP_perm h1.tree h.bk.tree h1.rows1 h.bk.rows1 h2]
 rw[e1];exact markWhere_any w h3 h1.tree h1.rows1 h1.ids64 o.1 o.2 el.1 el.2 ho (h.lenK h2) (h1.nokey hk)
theorem LiS.elem(h:LiS L o g w)(ho:I64R o)(n:Rf)(hn:I64R n):
 Calls Tryz.prog 42 #[.pointer (some ⟨g,0,none⟩),.agg #[.int .i64 o.1,.int .i64 o.2],.agg #[.int .i64 n.1,.int .i64 n.2]] w fun e w'=>PlR (o,⟨#[]⟩,n) (atJ (aH L) (o,⟨#[]⟩,n)) w.heap.size e w'∧Below w.heap.size w w':=by
 obtain⟨Lr,h1,h2,B,kb,vb,cb,lb,V,C,h3⟩:=h.st
 rw[←atJ_perm h1.rows1 h.bk.rows1 h1.tree.nd h.bk.tree.nd h2];exact stElem_any w h3 h1.rows1 h1.tree.nd o.1 o.2 n.1 n.2 ho hn (h.lenK h2)
end
theorem seen_len{L:List ChD}(hb:Bk L)(hl:L.length≤120)(o:Rf):(dD (aH L) o 1000100).length≤4801:=by
 have h1:=(hb.tree.all (obj:=o)).2.1;have h2:=hb.lenOps;have h3:=vC (dU (aH L) o) (eP (aH L) o 1000100 (0,0));unfold dD;omega
def iG(La:List ChD)(o:Rf):Nat:=if (aZ [] La).1≠0 then (aZ [] La).1 else if dG (aH (aZ [] La).2) o≠6 then 6 else 0
theorem MkListR.two{La:List ChD}{o:Rf}{e:Ending}{w':World}(hinv:Inv (aZ [] La).2 [])(h:MkListR La o e w'):
 (iG La o≠0∧e=.returned (.tuple #[.pointer none,.iface 101 (.int .i64 (iG La o))])) ∨
 (iG La o=0∧∃g,e=.returned (.tuple #[.pointer (some ⟨g,0,none⟩),.nilIface])∧LiS (aZ [] La).2 o g w'):=by
 unfold iG;rcases h with⟨h1,rfl⟩|⟨h1,h2,rfl⟩|⟨h1,h2,g,Lr,rfl,h3,h4,h5⟩
 ·left;rw[if_pos h1];exact⟨h1,by unfold eA;rw[if_neg h1]⟩
 ·left;rw[if_neg (fun h=>h h1),if_pos h2];exact⟨by decide,rfl⟩
 ·right;rw[if_neg (fun h=>h h1),if_neg (fun h=>h h2)];have:=hinv.most
  simp only[wA,xP]at this;exact⟨rfl,g,rfl,hinv.bk,this,h2,Lr,h3,h4,h5⟩
def pY(T:List Rf)(i:Int):Rf×Nat:=if i<0∨(T.length:Int)<i then ((0,0),1) else (T.getD i.toNat (0,0),0)
def lD(La:List ChD)(o:Rf)(i:Int):Rf×Nat:=if iG La o≠0 then ((0,0),iG La o) else pY (dD (aH (aZ [] La).2) o 1000100) i
def oN(La:List ChD)(o el:Rf):Nat×Nat:=if iG La o≠0 then (0,iG La o) else whR (aH (aZ [] La).2) o 1000100 el
theorem fU{P:Program}{fn:Func}{p s:Tmp}{ty:TypeId}(h:fn.results=#[.cell p ty,.tmp s])(tmps:Array Value)(w:World)(g:Nat)(t:TypeId)(cs:Array Value)(d:TypeDesc)
 (hp:tmps.getD p undef=.pointer (some ⟨g,0,none⟩)) (hg:Blk w g t cs)
 (hu:P.underlying ty=some d) (hd:(match d with | .struct _ | .array _ _=>true|_=>false)=true) (hi:(P.info? ty).map (·.size)=some cs.size) :
 (results fn tmps).run P w=.ok (.tuple #[.agg cs,tmps.getD s undef]) w:=by
 have hp':tmps[p]?.getD undef=.pointer (some ⟨g,0,none⟩):=by simpa using hp
 simp[results,h,hp',asAddr,run_loadVar_row w g t ty cs (0,0) d hg hu hd hi]
theorem markCursor_any(La:List ChD)(o1 o2 i:Int)(A:Option Addr)(cA:Nat)(w:World)(hl:La.length≤9223372036854775807)(hL:ChsIn (fun k=>k<w.heap.size) w A La)(hw:∀c∈La,∀o∈c.ops,(Lit.int .i64 o.vn).wf=true)(ho:I64R (o1,o2)):
 Calls Tryz.prog 18 #[.slice A La.length cA,.agg #[.int .i64 o1,.int .i64 o2],.int .i64 i] w fun e w' =>
  e=.returned (.tuple #[.agg #[.int .i64 (lD La (o1,o2) i).1.1,.int .i64 (lD La (o1,o2) i).1.2],eA (lD La (o1,o2) i).2])∧Below w.heap.size w w':=by
 have hinv:=jH La [] Inv.nil hw;have HIV:=Hi hinv;have HOB:=Hi ho;have hb1:Below w.heap.size w (w.alloc (.cells #[.int .i64 o1,.int .i64 o2] 24)):=(sB _ w).alloc (sC _) _;have hb2:Below w.heap.size w ((w.alloc (.cells #[.int .i64 o1,.int .i64 o2] 24)).alloc (.cells #[.int .i64 0,.int .i64 0] 24)):=hb1.alloc hb1.size _;have HO:=Hi ((Blk.new w 24 #[.int .i64 o1,.int .i64 o2]).alloc (.cells #[.int .i64 0,.int .i64 0] 24));have HE:=Hi (Blk.new (w.alloc (.cells #[.int .i64 o1,.int .i64 o2] 24)) 24 #[.int .i64 0,.int .i64 0]);rw[World.size_alloc]at HE;have HB:=Hi hb2;have C1:=lC La o1 o2 A cA _ hl (hL.below hb2) hw ho;clear hb1 hb2 hl hL hw hinv ho;generalize La.length=n at C1 ⊢;go_enter Tryz.func18,Tryz.ntmps18;go_upto_region 1 with fail
 generalize (w.alloc (.cells #[.int .i64 o1,.int .i64 o2] 24)).alloc (.cells #[.int .i64 0,.int .i64 0] 24)=w0 at HO HE HB C1 ⊢;obtain⟨q,hq⟩:∃q,w.heap.size=q:=⟨_,rfl⟩
 have HQQ:=Hi hq;have HQ0:Hid (q≤w0.heap.size):=by have:=HB.o.size;rw[hq]at this;exact this
 rw[hq]at HO HE HB ⊢;clear hq;have q0:=cZ HO.o 0 rfl;have q1:=cZ HO.o 1 rfl
 go_wp2_with fail
 go_at_call 39;refine C1.mono ?_;rintro e w1 ⟨hr,hb⟩;have HB1:Hid (Below q w w1):=HB.o.trans (hb.mono HQ0.o);have HO1:=Hi (HO.o.keep (hb.block _ HO.o.lt));have HE1:=Hi (HE.o.keep (hb.block _ HE.o.lt));have HQ1:Hid (q≤w1.heap.size):=sR HQ0.o hb.size;rcases hr.two HIV.o with⟨h0,rfl⟩|⟨h0,g,rfl,hli⟩
 ·have HF:Hid (lD La (o1,o2) i=((0,0),iG La (o1,o2))):=if_pos h0;have HEN:Hid (eA (iG La (o1,o2))=.iface 101 (.int .i64 (iG La (o1,o2)))):=if_neg h0;have r0:=cZ HE1.o 0 rfl;have r1:=cZ HE1.o 1 rfl
  have f0:=HE1.o.frozen 0;have f1:=HE1.o.frozen 1;clear h0 hr hb C1 q0 q1 HO HE HB;generalize iG La (o1,o2)=bk at HF HEN ⊢;go_wp2_with fail
  have hbl:=(HE1.o.set_ 0 (.int .i64 0)).set_ 1 (.int .i64 0);refine bodyPost_ret (fU (p:=6) (s:=7) (by kernel_rfl) _ _ (q+1) 24 #[.int .i64 0,.int .i64 0] _ rfl hbl Tryz.underlying24 rfl (by kernel_rfl)) rfl ?_;exact⟨by rw[HF.o];show _=Ending.returned (.tuple #[_,eA bk]);rw[HEN.o];rfl,by rw[HQQ.o];exact(HB1.o.setCell (by show q≤q+1;omega) _).setCell (by show q≤q+1;omega) _⟩
 ·have HLI:=Hi hli;have C2:=hli.seen HOB.o;obtain⟨T,hT⟩:∃T,dD (aH (aZ [] La).2) (o1,o2) 1000100=T:=⟨_,rfl⟩
  have HF:Hid (lD La (o1,o2) i=pY T i):=by show _=_;rw[←hT];exact if_neg (fun h=>h h0)
  rw[hT]at C2;obtain⟨nT,hnT⟩:∃n,T.length=n:=⟨_,rfl⟩
  have HNT:=Hi hnT;rw[hnT]at C2;have p0:=cZ HO1.o 0 rfl;have p1:=cZ HO1.o 1 rfl
  clear h0 hr hb C1 q0 q1 HO HE HB hli hT hnT;go_wp2_with fail
  go_at_call 41;refine C2.mono ?_;rintro e w2 ⟨A2,c2,rfl,hcm,hc2,hr2,hb⟩;have HB2:Hid (Below q w w2):=HB1.o.trans (hb.mono HQ1.o);have HE2:=Hi (HE1.o.keep (hb.block _ HE1.o.lt));have HR2:Hid (aC (fun k=>k<w2.heap.size) w2 2 A2 nT (aE T)):=hr2.more fun k hk=>hk.2
  have HCM:Hid (nT≤maxLen):=sR hc2 hcm;have r0:=cZ HE2.o 0 rfl;have r1:=cZ HE2.o 1 rfl
  have f0:=HE2.o.frozen 0;have f1:=HE2.o.frozen 1;clear hr2 hb C2 p0 p1 HB1 HE1 HO1 HQ1 hcm hc2;have hfin:∀(V:World) (a b:Int),Blk V (q+1) 24 #[.int .i64 a,.int .i64 b]→Below q w V→True:=fun _ _ _ _ _=>trivial
  clear hfin;by_cases hneg:i<0
  ·have HC:Hid (pY T i=((0,0),1)):=if_pos (.inl hneg);go_wp2_with fail
   have hbl:=(HE2.o.set_ 0 (.int .i64 0)).set_ 1 (.int .i64 0);refine bodyPost_ret (fU (p:=6) (s:=7) (by kernel_rfl) _ _ (q+1) 24 #[.int .i64 0,.int .i64 0] _ rfl hbl Tryz.underlying24 rfl (by kernel_rfl)) rfl ?_;exact⟨by rw[HF.o,HC.o];rfl,by rw[HQQ.o];exact(HB2.o.setCell (by show q≤q+1;omega) _).setCell (by show q≤q+1;omega) _⟩
  ·obtain⟨k,rfl⟩:∃k:Nat,i=k:=⟨i.toNat,by omega⟩
   by_cases hbig:nT<k
   ·have HC:Hid (pY T k=((0,0),1)):=if_pos (.inr (by rw[HNT.o];omega));go_wp2_with fail
    have hbl:=(HE2.o.set_ 0 (.int .i64 0)).set_ 1 (.int .i64 0);refine bodyPost_ret (fU (p:=6) (s:=7) (by kernel_rfl) _ _ (q+1) 24 #[.int .i64 0,.int .i64 0] _ rfl hbl Tryz.underlying24 rfl (by kernel_rfl)) rfl ?_;exact⟨by rw[HF.o,HC.o];rfl,by rw[HQQ.o];exact(HB2.o.setCell (by show q≤q+1;omega) _).setCell (by show q≤q+1;omega) _⟩
   ·have HC:Hid (pY T k=(T.getD k (0,0),0)):=if_neg (by rw[HNT.o];omega);by_cases heq:k=nT
    ·have HC2:Hid (T.getD k (0,0)=(0,0)):=by show _=_;rw[wH,uF (by rw[HNT.o];omega)];rfl
     have e1:((k:Int) == (nT:Int))=true:=by simp[heq]
     clear heq;go_wp2_with fail
     have hbl:=(HE2.o.set_ 0 (.int .i64 0)).set_ 1 (.int .i64 0);refine bodyPost_ret (fU (p:=6) (s:=7) (by kernel_rfl) _ _ (q+1) 24 #[.int .i64 0,.int .i64 0] _ rfl hbl Tryz.underlying24 rfl (by kernel_rfl)) rfl ?_;exact⟨by rw[HF.o,HC.o,HC2.o];rfl,by rw[HQQ.o];exact(HB2.o.setCell (by show q≤q+1;omega) _).setCell (by show q≤q+1;omega) _⟩
    ·obtain⟨⟨t1,t2⟩,ht⟩:∃r,T[k]?=some r:=⟨_,sD (by rw[HNT.o];omega)⟩
     have HC2:Hid (T.getD k (0,0)=(t1,t2)):=by show _=_;rw[wH,ht];rfl
     have e1:((k:Int) == (nT:Int))=false:=by simp;omega
     obtain⟨tb,tf,rfl,htb,hcT⟩:=HR2.o.at_ (by omega) (by omega)
     have z1:w2.cell? ⟨tb,tf+k*2,none⟩=some (.int .i64 t1):=hcT _ _ (aL ht).1;have z2:w2.cell? ⟨tb,tf+k*2+1,none⟩=some (.int .i64 t2):=by have:=hcT _ _ (aL ht).2;rw[←tL]at this;exact this
     clear hcT ht htb;go_wp2_with fail
     have hbl:=(HE2.o.set_ 0 (.int .i64 t1)).set_ 1 (.int .i64 t2);refine bodyPost_ret (fU (p:=6) (s:=7) (by kernel_rfl) _ _ (q+1) 24 #[.int .i64 t1,.int .i64 t2] _ rfl hbl Tryz.underlying24 rfl (by kernel_rfl)) rfl ?_;exact⟨by rw[HF.o,HC.o,HC2.o];rfl,by rw[HQQ.o];exact(HB2.o.setCell (by show q≤q+1;omega) _).setCell (by show q≤q+1;omega) _⟩
theorem markWhereF_any(La:List ChD)(o1 o2 l1 l2:Int)(A:Option Addr)(cA:Nat)(w:World)(hl:La.length≤9223372036854775807)(hL:ChsIn (fun k=>k<w.heap.size) w A La)(hw:∀c∈La,∀o∈c.ops,(Lit.int .i64 o.vn).wf=true)(ho:I64R (o1,o2)):
 Calls Tryz.prog 19 #[.slice A La.length cA,.agg #[.int .i64 o1,.int .i64 o2],.agg #[.int .i64 l1,.int .i64 l2]] w fun e w' =>
  e=.returned (.tuple #[.int .i64 (oN La (o1,o2) (l1,l2)).1,eA (oN La (o1,o2) (l1,l2)).2])∧Below w.heap.size w w':=by
 have hinv:=jH La [] Inv.nil hw;have HIV:=Hi hinv;have HOB:=Hi ho;have hb1:Below w.heap.size w (w.alloc (.cells #[.int .i64 o1,.int .i64 o2] 24)):=(sB _ w).alloc (sC _) _;have hb2:Below w.heap.size w ((w.alloc (.cells #[.int .i64 o1,.int .i64 o2] 24)).alloc (.cells #[.int .i64 l1,.int .i64 l2] 24)):=hb1.alloc hb1.size _;have HO:=Hi ((Blk.new w 24 #[.int .i64 o1,.int .i64 o2]).alloc (.cells #[.int .i64 l1,.int .i64 l2] 24));have HE:=Hi (Blk.new (w.alloc (.cells #[.int .i64 o1,.int .i64 o2] 24)) 24 #[.int .i64 l1,.int .i64 l2]);rw[World.size_alloc]at HE;have HB:=Hi hb2;have C1:=lC La o1 o2 A cA _ hl (hL.below hb2) hw ho;clear hb1 hb2 hl hL hw hinv ho;generalize La.length=n at C1 ⊢;go_enter Tryz.func19,Tryz.ntmps19;go_upto_region 1 with fail
 generalize (w.alloc (.cells #[.int .i64 o1,.int .i64 o2] 24)).alloc (.cells #[.int .i64 l1,.int .i64 l2] 24)=w0 at HO HE HB C1 ⊢;obtain⟨q,hq⟩:∃q,w.heap.size=q:=⟨_,rfl⟩
 have HQQ:=Hi hq;have HQ0:Hid (q≤w0.heap.size):=by have:=HB.o.size;rw[hq]at this;exact this
 rw[hq]at HO HE HB ⊢;clear hq;have q0:=cZ HO.o 0 rfl;have q1:=cZ HO.o 1 rfl
 go_wp2_with fail
 go_at_call 39;refine C1.mono ?_;rintro e w1 ⟨hr,hb⟩;have HB1:Hid (Below q w w1):=HB.o.trans (hb.mono HQ0.o);have HO1:=Hi (HO.o.keep (hb.block _ HO.o.lt));have HE1:=Hi (HE.o.keep (hb.block _ HE.o.lt));have HQ1:Hid (q≤w1.heap.size):=sR HQ0.o hb.size;rcases hr.two HIV.o with⟨h0,rfl⟩|⟨h0,g,rfl,hli⟩
 ·have HF:Hid (oN La (o1,o2) (l1,l2)=(0,iG La (o1,o2))):=if_pos h0;have HEN:Hid (eA (iG La (o1,o2))=.iface 101 (.int .i64 (iG La (o1,o2)))):=if_neg h0;clear h0 hr hb C1 q0 q1 HO HE HB;generalize iG La (o1,o2)=bk at HF HEN ⊢;go_wp2_with fail
  go_ret2;exact⟨by rw[HF.o];show _=Ending.returned (.tuple #[_,eA bk]);rw[HEN.o];rfl,by rw[HQQ.o];exact HB1.o⟩
 ·have C2:=hli.where_ HOB.o (l1,l2);have HF:Hid (oN La (o1,o2) (l1,l2)=whR (aH (aZ [] La).2) (o1,o2) 1000100 (l1,l2)):=if_neg (fun h=>h h0);rw[←HF.o]at C2;have p0:=cZ HO1.o 0 rfl;have p1:=cZ HO1.o 1 rfl
  have p2:=cZ HE1.o 0 rfl;have p3:=cZ HE1.o 1 rfl
  clear h0 hr hb C1 q0 q1 HO HE HB hli HF;obtain⟨⟨x,y⟩,hxy⟩:∃r,oN La (o1,o2) (l1,l2)=r:=⟨_,rfl⟩
  rw[hxy]at C2;have HXY:=Hi hxy;clear hxy;go_wp2_with fail
  go_at_call 40;refine C2.mono ?_;rintro e w2 ⟨rfl,hb⟩;have HB2:Hid (Below q w w2):=HB1.o.trans (hb.mono HQ1.o);clear C2 hb p0 p1 p2 p3 HB1 HO1 HE1 HQ1;go_wp2_with fail
  go_ret2;exact⟨by rw[HXY.o];rfl,by rw[HQQ.o];exact HB2.o⟩
end
section
def dO(K:List OpI)(o n:Rf):VD:=match atJ K (o,⟨#[]⟩,n) with|e::_=>e.2 | []=>⟨0,0,⟨#[]⟩,0,0⟩
def spanL(K:List OpI)(o:Rf)(x y:Nat):List Rf:=((dD K o 1000100).drop x).take (y-x)
def pE(K:List OpI)(o a b:Rf):List VD×Nat :=
 if (whR K o 1000100 a).2≠0 then ([],(whR K o 1000100 a).2) else if (whR K o 1000100 b).2≠0 then ([],(whR K o 1000100 b).2) else
 ((spanL K o (whR K o 1000100 a).1 (whR K o 1000100 b).1).map (dO K o),0)
def lB(La:List ChD)(o a b:Rf):List VD×Nat:=if iG La o≠0 then ([],iG La o) else pE (aH (aZ [] La).2) o a b
theorem slice_mid{t e:TypeId}(ht:Tryz.prog.underlying t=some (.slice e)){size:Nat}(hs:∀w,(sizeOf e).run Tryz.prog w=.ok size w)(A:Option Addr){n c k m:Nat}(hk:k≤m)(hm:m≤c)(w:World):
 (Instr.slice t (.slice A n c) (some (.int .i64 k)) (some (.int .i64 m)) none).run Tryz.prog w=.ok (.slice (if c=k then A else A.map (·.add (k*size))) (m-k) (c-k)) w:=by
 have h1:k≤c:=by omega
 simp[Instr.slice,Instr.sliceBounds,Instr.sliceBound,asIntOf,run_underlying ht,hs,hk,hm,h1,Result.andThen]
theorem max_run(ats:Array TypeId)(ty:TypeId)(a b:Nat)(w:World):(Builtin.max_ ats ty #[.int .i64 a,.int .i64 b]).run Tryz.prog w=.ok (.int .i64 (max a b:Nat)) w:=by
 simp only[Builtin.max_,List.foldlM_cons,List.foldlM_nil,Builtin.max2];by_cases h:(b:Int)>a
 ·simp[h,show max a b=b by omega,Sem.run]
 ·simp[h,show max a b=a by omega,Sem.run]
theorem field_all(a b:Int)(k:ByteArray)(c d:Int)(A:Option Addr)(n m:Nat)(A':Option Addr)(n' m':Nat)(w:World):
 (Instr.field 73 (.agg #[.int .i64 a,.int .i64 b,.string k,.int .i64 c,.int .i64 d,.slice A n m,.slice A' n' m']) 3).run Tryz.prog w=.ok (.slice A n m) w:=by kernel_rfl
theorem seen_live{K:List OpI}{o n:Rf}(h:n∈dD K o 1000100):∃e l,atJ K (o,⟨#[]⟩,n)=e::l∧dO K o n=e.2:=by
 have h1:=(uH.1 h).2;unfold dU at h1;unfold dO;cases hl:atJ K (o,⟨#[]⟩,n) with
 |nil=>rw[hl]at h1;simp at h1
 |cons e l=>exact⟨e,l,rfl,rfl⟩
theorem markSpan_any(La:List ChD)(o1 o2 a1 a2 b1 b2:Int)(A:Option Addr)(cA:Nat)(w:World)(hl:La.length≤9223372036854775807)(hL:ChsIn (fun k=>k<w.heap.size) w A La)(hw:∀c∈La,∀o∈c.ops,(Lit.int .i64 o.vn).wf=true)(ho:I64R (o1,o2)):
 Calls Tryz.prog 16 #[.slice A La.length cA,.agg #[.int .i64 o1,.int .i64 o2],.agg #[.int .i64 a1,.int .i64 a2],.agg #[.int .i64 b1,.int .i64 b2]] w fun e w' =>
  ∃A' c',e=.returned (.tuple #[.slice A' (lB La (o1,o2) (a1,a2) (b1,b2)).1.length c',eA (lB La (o1,o2) (a1,a2) (b1,b2)).2]) ∧
   aC (fun k=>k<w'.heap.size) w' 5 A' (lB La (o1,o2) (a1,a2) (b1,b2)).1.length (bH (lB La (o1,o2) (a1,a2) (b1,b2)).1)∧Below w.heap.size w w':=by
 have hinv:=jH La [] Inv.nil hw;have HIV:=Hi hinv;have HOB:=Hi ho;have hb1:Below w.heap.size w (w.alloc (.cells #[.int .i64 o1,.int .i64 o2] 24)):=(sB _ w).alloc (sC _) _;have hb2:Below w.heap.size w ((w.alloc (.cells #[.int .i64 o1,.int .i64 o2] 24)).alloc (.cells #[.int .i64 a1,.int .i64 a2] 24)):=hb1.alloc hb1.size _;have hb3:Below w.heap.size w (((w.alloc (.cells #[.int .i64 o1,.int .i64 o2] 24)).alloc (.cells #[.int .i64 a1,.int .i64 a2] 24)).alloc (.cells #[.int .i64 b1,.int .i64 b2] 24)):=hb2.alloc hb2.size _;have HO:=Hi (((Blk.new w 24 #[.int .i64 o1,.int .i64 o2]).alloc (.cells #[.int .i64 a1,.int .i64 a2] 24)).alloc (.cells #[.int .i64 b1,.int .i64 b2] 24));have HE:=Hi ((Blk.new (w.alloc (.cells #[.int .i64 o1,.int .i64 o2] 24)) 24 #[.int .i64 a1,.int .i64 a2]).alloc (.cells #[.int .i64 b1,.int .i64 b2] 24));have HG:=Hi (Blk.new ((w.alloc (.cells #[.int .i64 o1,.int .i64 o2] 24)).alloc (.cells #[.int .i64 a1,.int .i64 a2] 24)) 24 #[.int .i64 b1,.int .i64 b2]);rw[World.size_alloc]at HE;rw[World.size_alloc,World.size_alloc]at HG;have HB:=Hi hb3;have C1:=lC La o1 o2 A cA _ hl (hL.below hb3) hw ho;clear hb1 hb2 hb3 hl hL hw hinv ho;generalize La.length=n at C1 ⊢;go_enter Tryz.func16,Tryz.ntmps16;go_upto_region 1 with fail
 generalize ((w.alloc (.cells #[.int .i64 o1,.int .i64 o2] 24)).alloc (.cells #[.int .i64 a1,.int .i64 a2] 24)).alloc (.cells #[.int .i64 b1,.int .i64 b2] 24)=w0 at HO HE HG HB C1 ⊢;obtain⟨q,hq⟩:∃q,w.heap.size=q:=⟨_,rfl⟩
 have HQQ:=Hi hq;have HQ0:Hid (q≤w0.heap.size):=by have:=HB.o.size;rw[hq]at this;exact this
 rw[hq]at HO HE HG HB ⊢;clear hq;have q0:=cZ HO.o 0 rfl;have q1:=cZ HO.o 1 rfl
 go_wp2_with fail
 go_at_call 39;refine C1.mono ?_;rintro e w1 ⟨hr,hb⟩;have HB1:Hid (Below q w w1):=HB.o.trans (hb.mono HQ0.o);have HO1:=Hi (HO.o.keep (hb.block _ HO.o.lt));have HE1:=Hi (HE.o.keep (hb.block _ HE.o.lt));have HG1:=Hi (HG.o.keep (hb.block _ HG.o.lt));have HQ1:Hid (q≤w1.heap.size):=sR HQ0.o hb.size;rcases hr.two HIV.o with⟨h0,rfl⟩|⟨h0,g,rfl,hli⟩
 ·have HF:Hid (lB La (o1,o2) (a1,a2) (b1,b2)=([],iG La (o1,o2))):=if_pos h0;have HEN:Hid (eA (iG La (o1,o2))=.iface 101 (.int .i64 (iG La (o1,o2)))):=if_neg h0;clear h0 hr hb C1 q0 q1 HO HE HG HB;generalize iG La (o1,o2)=bk at HF HEN ⊢;go_wp2_with fail
  go_ret2;exact⟨none,0,by rw[HF.o];show _=Ending.returned (.tuple #[_,eA bk]);rw[HEN.o];rfl,by rw[HF.o];exact aC.none_,by rw[HQQ.o];exact HB1.o⟩
 ·have HLI:=Hi hli;obtain⟨K,hK⟩:∃K,aH (aZ [] La).2=K:=⟨_,rfl⟩
  have HKE:=Hi hK;have HF:Hid (lB La (o1,o2) (a1,a2) (b1,b2)=pE K (o1,o2) (a1,a2) (b1,b2)):=by show _=_;rw[←hK];exact if_neg (fun h=>h h0)
  have C2:=hli.where_ HOB.o (a1,a2);rw[hK]at C2;obtain⟨x,hx⟩:∃r,(whR K (o1,o2) 1000100 (a1,a2)).1=r:=⟨_,rfl⟩
  obtain⟨fx,hfx⟩:∃r,(whR K (o1,o2) 1000100 (a1,a2)).2=r:=⟨_,rfl⟩
  have HX:Hid ((whR K (o1,o2) 1000100 (a1,a2)).1=x∧(whR K (o1,o2) 1000100 (a1,a2)).2=fx):=⟨hx,hfx⟩;rw[hx,hfx]at C2;have p0:=cZ HO1.o 0 rfl;have p1:=cZ HO1.o 1 rfl
  have p2:=cZ HE1.o 0 rfl;have p3:=cZ HE1.o 1 rfl
  clear h0 hr hb C1 q0 q1 HO HE HG HB hli hK hx hfx;go_wp2_with fail
  go_at_call 40;refine C2.mono ?_;rintro e w2 ⟨rfl,hb⟩;have HB2:Hid (Below q w w2):=HB1.o.trans (hb.mono HQ1.o);have HO2:=Hi (HO1.o.keep (hb.block _ HO1.o.lt));have HG2:=Hi (HG1.o.keep (hb.block _ HG1.o.lt));have HQ2:Hid (q≤w2.heap.size):=sR HQ1.o hb.size;have HL2:=Hi (HLI.o.below hb);clear C2 hb p0 p1 p2 p3 HB1 HO1 HE1 HG1 HQ1 HLI;by_cases hf0:fx=0
  case neg =>
   have HF2:Hid (pE K (o1,o2) (a1,a2) (b1,b2)=([],fx)):=by show _=_;unfold pE;rw[if_pos (by rw[HX.o.2];exact hf0),HX.o.2]
   have HEN:Hid (eA fx=.iface 101 (.int .i64 fx)):=if_neg hf0;rw[HEN.o];clear hf0;go_wp2_with fail
   go_ret2;exact⟨none,0,by rw[HF.o,HF2.o];show _=Ending.returned (.tuple #[_,eA fx]);rw[HEN.o];rfl,by rw[HF.o,HF2.o];exact aC.none_,by rw[HQQ.o];exact HB2.o⟩
  case pos =>
   subst hf0;rw[show eA 0=.nilIface from rfl];have C3:=HL2.o.where_ HOB.o (b1,b2);rw[HKE.o]at C3;obtain⟨y,hy⟩:∃r,(whR K (o1,o2) 1000100 (b1,b2)).1=r:=⟨_,rfl⟩
   obtain⟨fy,hfy⟩:∃r,(whR K (o1,o2) 1000100 (b1,b2)).2=r:=⟨_,rfl⟩
   have HY:Hid ((whR K (o1,o2) 1000100 (b1,b2)).1=y∧(whR K (o1,o2) 1000100 (b1,b2)).2=fy):=⟨hy,hfy⟩;rw[hy,hfy]at C3;have p0:=cZ HO2.o 0 rfl;have p1:=cZ HO2.o 1 rfl
   have p2:=cZ HG2.o 0 rfl;have p3:=cZ HG2.o 1 rfl
   clear hy hfy;go_wp2_with fail
   go_at_call 40;refine C3.mono ?_;rintro e w3 ⟨rfl,hb⟩;have HB3:Hid (Below q w w3):=HB2.o.trans (hb.mono HQ2.o);have HO3:=Hi (HO2.o.keep (hb.block _ HO2.o.lt));have HQ3:Hid (q≤w3.heap.size):=sR HQ2.o hb.size;have HL3:=Hi (HL2.o.below hb);clear C3 hb p0 p1 p2 p3 HB2 HO2 HG2 HQ2 HL2;by_cases hg0:fy=0
   case neg =>
    have HF2:Hid (pE K (o1,o2) (a1,a2) (b1,b2)=([],fy)):=by show _=_;unfold pE;rw[if_neg (by rw[HX.o.2];exact fun h=>h rfl),if_pos (by rw[HY.o.2];exact hg0),HY.o.2]
    have HEN:Hid (eA fy=.iface 101 (.int .i64 fy)):=if_neg hg0;rw[HEN.o];clear hg0;go_wp2_with fail
    go_ret2;exact⟨none,0,by rw[HF.o,HF2.o];show _=Ending.returned (.tuple #[_,eA fy]);rw[HEN.o];rfl,by rw[HF.o,HF2.o];exact aC.none_,by rw[HQQ.o];exact HB3.o⟩
   case pos =>
    subst hg0;rw[show eA 0=.nilIface from rfl];obtain⟨D,hD⟩:∃D,spanL K (o1,o2) x y=D:=⟨_,rfl⟩
    have HF2:Hid (lB La (o1,o2) (a1,a2) (b1,b2)=(D.map (dO K (o1,o2)),0)):=by
     show _=_;rw[HF.o];unfold pE;rw[if_neg (by rw[HX.o.2];exact fun h=>h rfl),if_neg (by rw[HY.o.2];exact fun h=>h rfl),HX.o.1,HY.o.1,hD]
    have C4:=HL3.o.seen HOB.o;rw[HKE.o]at C4;have hxl:=whR_le K (o1,o2) 1000100 (a1,a2);have hyl:=whR_le K (o1,o2) 1000100 (b1,b2);rw[HX.o.1]at hxl;rw[HY.o.1]at hyl;obtain⟨T,hT⟩:∃T,dD K (o1,o2) 1000100=T:=⟨_,rfl⟩
    have HTE:=Hi hT;rw[hT]at C4 hxl hyl;obtain⟨nT,hnT⟩:∃n,T.length=n:=⟨_,rfl⟩
    have HNT:=Hi hnT;rw[hnT]at C4 hxl hyl;obtain⟨m,hm⟩:∃m,max x y=m:=⟨_,rfl⟩
    have hmx:=fun ats ty w=>max_run ats ty x y w
    rw[hm]at hmx;have HD:Hid (D=(T.drop x).take (m-x)):=by show _=_;rw[←hD,←hT,←hm];unfold spanL;congr 1;omega
    have HXM:Hid (x≤m∧m≤nT):=⟨by omega,by omega⟩;have HTL:Hid (nT≤4801):=by
     have h1:=seen_len HL3.o.bk HL3.o.len (o1,o2);rw[HKE.o,HTE.o,HNT.o]at h1;exact h1
    have HDL:Hid (D.length=m-x):=by show _=_;rw[HD.o,tD,uQ,hnT];have:=HXM.o.2;omega
    have p0:=cZ HO3.o 0 rfl;have p1:=cZ HO3.o 1 rfl
    clear hD hT hnT hm hxl hyl;go_wp2_with fail
    go_at_call 41;refine C4.mono ?_;rintro e w4 ⟨A4,c4,rfl,hcm,hc4,hr4,hb⟩;have HB4:Hid (Below q w w4):=HB3.o.trans (hb.mono HQ3.o);have HO4:=Hi (HO3.o.keep (hb.block _ HO3.o.lt));have HQ4:Hid (q<w4.heap.size):=HO4.o.lt;have HL4:=Hi (HL3.o.below hb);obtain⟨AX,hAX⟩:∃z,(if c4=x then A4 else A4.map (·.add (x*2)))=z:=⟨_,rfl⟩
    have hs1:=fun w=>slice_mid (t:=28) (n:=nT) (c:=c4) Tryz.underlying28 size_id A4 HXM.o.1 (sR HXM.o.2 hc4) w
    rw[hAX]at hs1;obtain⟨nD,hnD⟩:∃n,m-x=n:=⟨_,rfl⟩
    have HRD:Hid (aC (fun k=>k<w4.heap.size) w4 2 AX nD (aE D)):=by
     have h1:=(hr4.cut (by have:=HXM.o;omega) hc4:aC _ _ _ _ _ (List.drop (x*2) _));rw[hAX,hZ]at h1;have h2:=h1.take (k:=m-x) (by have:=HXM.o;omega);rw[jE,←HD.o,hnD]at h2;exact h2.more fun k hk=>hk.2
    have HND:Hid (nD≤4801):=by show _≤_;have:=HXM.o;have:=HTL.o;omega
    rw[hnD]at hs1 HDL;have HTD:Hid (∀z∈D,z∈T):=fun z hz=>by rw[HD.o]at hz;exact List.mem_of_mem_drop (wV hz)
    clear C4 hb p0 p1 hcm hc4 hr4 HB3 HO3 HQ3 HL3 hnD hAX HD HXM;go_upto_region 12 with fail
    clear hs1 hmx;go_loopw [14,16,55] (fun s14 _ s55 wr=>∃(k:Nat) (v:Value),s55=.int .i64 k∧s14=v∧k≤nD∧Hid (wr.ownsRow w4.heap.size 50 5 v k (bH ((D.take k).map (dO K (o1,o2)))))∧Hid (Below w4.heap.size w4 wr)) (fun _ _ s55 _=>nD-(intOf s55).toNat)
    case atStart=>exact⟨0,_,rfl,rfl,by omega,(by show World.ownsRow _ _ _ _ _ _ _;exact bT _ _ _ _),Hi (sB _ _)⟩
    case round =>
     obtain⟨k,v,rfl,rfl,hk,HO,HW⟩:=hrel
     by_cases hlt:k<nD
     ·obtain⟨⟨r1,r2⟩,hr⟩:∃r,D[k]?=some r:=⟨_,sD (by rw[HDL.o];exact hlt)⟩
      have HRK:=Hi hr;have HRr:=Hi (aA HRD.o HW.o);obtain⟨ab,ao,rfl,-,hcA⟩:=HRr.o.at_ (by omega) (by omega)
      have y1:wr.cell? ⟨ab,ao+k*2,none⟩=some (.int .i64 r1):=hcA _ _ (aL hr).1;have y2:wr.cell? ⟨ab,ao+k*2+1,none⟩=some (.int .i64 r2):=by have:=hcA _ _ (aL hr).2;rw[←tL]at this;exact this
      have HNDk:=HND.o;obtain⟨Av,cv,hva,-,-,-⟩:=aC.of_own HO.o
      subst hva;clear hcA hr;go_upto_region 14 with fail
      have HQB:=Hi (Blk.new wr 24 #[.int .i64 r1,.int .i64 r2]);have hba:Below wr.heap.size wr (wr.alloc (.cells #[.int .i64 r1,.int .i64 r2] 24)):=(sB _ wr).alloc (sC _) _;have HW2:=Hi (HW.o.trans (hba.mono HW.o.size));have HO5:=Hi (HO.o.alloc (.cells #[.int .i64 r1,.int .i64 r2] 24));clear hba y1 y2 HRr HW HO;generalize wr.alloc (.cells #[.int .i64 r1,.int .i64 r2] 24)=w5 at HQB HW2 HO5 ⊢;generalize wr.heap.size=q5 at HQB ⊢;have HL5:=Hi (HL4.o.below HW2.o);have HOo:=HO4.o.keep (HW2.o.block _ HO4.o.lt);have b0:=cZ HQB.o 0 rfl;have b1':=cZ HQB.o 1 rfl
      have p0:=cZ HOo 0 rfl;have p1:=cZ HOo 1 rfl
      have hrT:((r1,r2):Rf)∈T:=HTD.o _ (sJ HRK.o);have C5:=HL5.o.elem HOB.o (r1,r2) (by
       have h1:=hrT;rw[←HTE.o]at h1;obtain⟨z,hz,e1,-,-⟩:=HL5.o.bk.tree.all.2.2 _ (by rw[HKE.o];exact(uH.1 h1).1)
       have:=HL5.o.bk.ids64 z hz
       rw[e1]at this;exact this)
      rw[HKE.o]at C5;rw[←HTE.o]at hrT;obtain⟨ev,lv,hev,hfv⟩:=seen_live hrT
      rw[hev]at C5;obtain⟨⟨u1,u2⟩,vd⟩:=ev
      have HFV:Hid (dO K (o1,o2) (r1,r2)=vd):=hfv;clear HOo hrT hev hfv;go_wp2_with fail
      go_at_call 42;refine C5.mono ?_;rintro e w6 ⟨⟨A6,c6,I6,cI6,rfl,hra,-⟩,hb⟩;have HW6:Hid (Below w4.heap.size w4 w6):=HW2.o.trans (hb.mono HW2.o.size);have HO6:=Hi (aS HO5.o hb);have hfa:=fun w=>field_all o1 o2 ⟨#[]⟩ r1 r2 A6 (lv.length+1) c6 I6 (lv.length+1) cI6 w
      obtain⟨vb,vo,rfl,-,z0,z1,z2,z3,z4⟩:=jT hra (by simp) (k:=0) (v:=vd) rfl
      rw[xW,xP]at z0 z1 z2 z3 z4;clear C5 hb hra b0 b1' p0 p1 HQB HW2 HO5 HL5;obtain⟨i0,hi,hz0,hz1,hz2⟩:=info_parts pS
      go_wp2_with (at_builtin;refine aG _ rfl (.tmp 59) (.tmp 67) _ rfl (w4.heap.size) 50 i0 _ 5 48 Tryz.underlying44 hi hz0 hz1 hz2 rfl (by omega) (.slice Av k cv) (k) (bH ((D.take k).map (dO K (o1,o2)))) rfl (HO6.o.alloc _) _ (some ⟨w6.heap.size,0,none⟩) (1) (1) ([.int .i64 vd.k,.int .i64 vd.n,.string vd.t,.int .i64 vd.a,.int .i64 vd.b]) rfl ((cJ (by exact Blk.new w6 _ #[.int .i64 vd.k,.int .i64 vd.n,.string vd.t,.int .i64 vd.a,.int .i64 vd.b]) (n:=5) rfl)) ((hX [vd])) ?c1 ?c2 ?c3 ?_)
      try case c1=>simp only[maxLen];omega
      try case c2=>omega
      try case c3=>simp only[World.size_alloc];have:=HW6.o.size;omega
      intro v7 w7 ho7 hg7 hat7;have hqb:∀j,(Value.slice Av k cv).ownBlock=some j→w4.heap.size≤j:=fun j hj=>(aF HO6.o hj).1
      have HW7:Hid (Below w4.heap.size w4 w7):=(HW6.o.alloc HW6.o.size _).grown hg7 (by simp only[World.size_alloc];have:=HW6.o.size;omega) hqb;have HO7:Hid (w7.ownsRow w4.heap.size 50 5 v7 (k+1) (bH ((D.take (k+1)).map (dO K (o1,o2))))):=by
       show World.ownsRow _ _ _ _ _ _ _;rw[sS,HRK.o,uM,sQ,sT,vM,HFV.o,gP];simpa[bH,mZ] using ho7
      clear ho7 hg7 hat7 hqb HO6 HW6 z0 z1 z2 z3 z4 hfa;go_wp2_with fail
      go_roundw
      case rel=>exact⟨k+1,v7,by go_num,rfl,by omega,HO7,HW7⟩
      case measure=>simp[intOf];omega
     ·have hkn:k=nD:=by omega
      obtain⟨Av,cv,hva,-,-,hrv⟩:=aC.of_own HO.o
      subst hva;have HRV:Hid (aC (fun k=>k<wr.heap.size) wr 5 Av k (bH ((D.take k).map (dO K (o1,o2))))):=hrv.more fun j hj=>(aF HO.o hj).2
      have HKN:=Hi hkn;clear hkn hrv;go_wp2_with fail
      go_ret2;have hDk:D.take k=D:=sL (by have:=HDL.o;have:=HKN.o;omega);have hlen:(D.map (dO K (o1,o2))).length=k:=by rw[sP,HDL.o,HKN.o]
      have h1:=HRV.o;rw[hDk]at h1;exact⟨Av,cv,by rw[HF2.o];show _=Ending.returned (.tuple #[.slice Av (D.map (dO K (o1,o2))).length cv,eA 0]);rw[hlen];rfl,by rw[HF2.o];show aC _ _ _ _ (D.map (dO K (o1,o2))).length _;rw[hlen];exact h1,by rw[HQQ.o];exact HB4.o.trans (HW.o.mono (xX HQ4.o))⟩
end
end Go.Proofs.YtmpkejflgpodkaaGreatDoor
