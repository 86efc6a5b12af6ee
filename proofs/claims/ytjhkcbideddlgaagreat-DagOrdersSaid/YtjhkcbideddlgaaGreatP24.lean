/- Contracts of the document's state: a place's values and their ids. -/
import Derived.Test.YtjhkcbideddlgaaGreatP17
import Derived.Test.YtjhkcbideddlgaaGreatP1
import Derived.Test.YtjhkcbideddlgaaGreatP14
import Derived.Test.YtjhkcbideddlgaaGreatP20
import Derived.Deep.MidRow
set_option maxHeartbeats 16000000
set_option maxRecDepth 20000
set_option linter.unusedVariables false
set_option linter.unusedSimpArgs false
namespace Go.Proofs.YtjhkcbideddlgaaGreat
open Go.ChangeShapes Go.WideShapes Go.ChangeAt Go.RowKit
def atO(o1 o2:Int)(key:ByteArray)(e1 e2:Int):OpI:=(⟨0,o1,o2,key,e1,e2,false,0,0,⟨#[]⟩,0,0,none,0,[]⟩,(0,0))
theorem place_at(x:OpI)(o1 o2:Int)(key:ByteArray)(e1 e2:Int):fY x (atO o1 o2 key e1 e2)=decide (wh1 x=((o1,o2),key,(e1,e2))):=by
 unfold fY wh1;rw[Bool.eq_iff_iff];simp only[tJ,tL,uV,and_assoc];exact Iff.rfl
theorem build_at1(o1 o2:Int)(ky:ByteArray)(e1 e2:Int)(w:World):(Instr.build 53 #[(1,.agg #[.int .i64 o1,.int .i64 o2]),(2,.string ky),(3,.agg #[.int .i64 e1,.int .i64 e2])]).run Tryz.prog w=.ok (.agg #[.int .i64 0,.int .i64 o1,.int .i64 o2,.string ky,.int .i64 e1,.int .i64 e2,.bool false,.int .i64 0,.int .i64 0,.string ⟨#[]⟩,.int .i64 0,.int .i64 0,.slice none 0 0]) w:=by kernel_rfl
theorem build_at2(o1 o2:Int)(ky:ByteArray)(e1 e2:Int)(w:World):(Instr.build 115 #[(0,.agg #[.int .i64 0,.int .i64 o1,.int .i64 o2,.string ky,.int .i64 e1,.int .i64 e2,.bool false,.int .i64 0,.int .i64 0,.string ⟨#[]⟩,.int .i64 0,.int .i64 0,.slice none 0 0])]).run Tryz.prog w=.ok (.agg #[.int .i64 0,.int .i64 o1,.int .i64 o2,.string ky,.int .i64 e1,.int .i64 e2,.bool false,.int .i64 0,.int .i64 0,.string ⟨#[]⟩,.int .i64 0,.int .i64 0,.slice none 0 0,.int .i64 0,.int .i64 0]) w:=by kernel_rfl
theorem rangeAt_take{w:World}{b o:Nat}{cs:List Value}(h:w.rangeAt b o cs)(n:Nat):w.rangeAt b o (cs.take n):=fun j u hj=>h j u (by
 rw[List.getElem?_take]at hj;split at hj
 ·exact hj
 ·cases hj)
theorem incP_now{K:List OpI}{n:Rf}: oY (K.take 0) n=0:=rfl
theorem sAt_any(K:List OpI)(o1 o2:Int)(ky:ByteArray)(e1 e2:Int)(A:Option Addr)(c:Nat)(w:World)(hr:OpsR (fun k=>k<w.heap.size) w A K)(hl:K.length≤100000)(hwf:∀x∈K,IntKind.i64.wrap x.1.vn=x.1.vn)(hkd:∀x∈K,1≤x.1.k):
 Calls Tryz.prog 64 #[.agg #[.slice A K.length c],.agg #[.int .i64 o1,.int .i64 o2],.string ky,.agg #[.int .i64 e1,.int .i64 e2]] w fun e w' =>
  ∃v n,e=.returned (.tuple #[v,n])∧w'.ownsRow w.heap.size 50 5 v (atJ K ((o1,o2),ky,(e1,e2))).length (cU ((atJ K ((o1,o2),ky,(e1,e2))).map Prod.snd)) ∧
   w'.ownsRow w.heap.size 48 2 n (atJ K ((o1,o2),ky,(e1,e2))).length (aF ((atJ K ((o1,o2),ky,(e1,e2))).map Prod.fst))∧Below w.heap.size w w':=by
 obtain⟨nK,hnK⟩:∃n,K.length=n:=⟨_,rfl⟩
 have HNK:=Hi hnK;have HWF:=Hi hwf;have HKD:=Hi hkd;have hb1:Below w.heap.size w (w.alloc (.cells #[.slice A nK c] 58)):=(sA _ w).alloc (sB _) _;have h1:=Blk.new w 58 #[.slice A nK c];have hb2:Below w.heap.size w ((w.alloc (.cells #[.slice A nK c] 58)).alloc (.cells #[.int .i64 o1,.int .i64 o2] 48)):=hb1.alloc hb1.size _;have h2:=Blk.new (w.alloc (.cells #[.slice A nK c] 58)) 48 #[.int .i64 o1,.int .i64 o2];have hb3:Below w.heap.size w (((w.alloc (.cells #[.slice A nK c] 58)).alloc (.cells #[.int .i64 o1,.int .i64 o2] 48)).alloc (.cells #[.int .i64 e1,.int .i64 e2] 48)):=hb2.alloc hb2.size _;have h3:=Blk.new ((w.alloc (.cells #[.slice A nK c] 58)).alloc (.cells #[.int .i64 o1,.int .i64 o2] 48)) 48 #[.int .i64 e1,.int .i64 e2];have H1:=Hi ((h1.keep (sM _ (.cells #[.int .i64 o1,.int .i64 o2] 48) _ h1.lt)).keep (sM _ (.cells #[.int .i64 e1,.int .i64 e2] 48) _ (by rw[tB];have:=h1.lt;omega)));have H2:=Hi (h2.keep (sM _ (.cells #[.int .i64 e1,.int .i64 e2] 48) _ h2.lt));have H3:=Hi h3;have HB3:=Hi hb3;have HR3:=Hi (hr.below hb3);rw[tB]at H2;rw[tB,tB]at H3;obtain⟨W0,hW0⟩:∃W0:Wh,((o1,o2),ky,(e1,e2))=W0:=⟨_,rfl⟩
 have HW0:=Hi hW0;rw[hW0];clear hW0;rw[hnK]at hl ⊢;clear hr hwf hkd hnK hb1 hb2 hb3 h1 h2 h3;have hb1:=fun w=>build_at1 o1 o2 ky e1 e2 w
 have hb2:=fun w=>build_at2 o1 o2 ky e1 e2 w
 go_enter Tryz.func64,Tryz.ntmps64;go_upto_region 3 with fail
 generalize ((w.alloc (.cells #[.slice A nK c] 58)).alloc (.cells #[.int .i64 o1,.int .i64 o2] 48)).alloc (.cells #[.int .i64 e1,.int .i64 e2] 48)=w3 at H1 H2 H3 HB3 HR3 ⊢;obtain⟨B,hB⟩:∃B,w.heap.size=B:=⟨_,rfl⟩
 have HBB:=Hi hB;rw[hB]at H1 H2 H3 HB3 ⊢;obtain⟨p2,p3⟩:=ce2 H2.o
 obtain⟨p4,p5⟩:=ce2 H3.o
 clear hB;go_upto_region 4 with fail
 have HP:=Hi (Blk.new w3 115 #[.int .i64 0,.int .i64 o1,.int .i64 o2,.string ky,.int .i64 e1,.int .i64 e2,.bool false,.int .i64 0,.int .i64 0,.string ⟨#[]⟩,.int .i64 0,.int .i64 0,.slice none 0 0,.int .i64 0,.int .i64 0]);have hba:Below w3.heap.size w3 (w3.alloc (.cells #[.int .i64 0,.int .i64 o1,.int .i64 o2,.string ky,.int .i64 e1,.int .i64 e2,.bool false,.int .i64 0,.int .i64 0,.string ⟨#[]⟩,.int .i64 0,.int .i64 0,.slice none 0 0,.int .i64 0,.int .i64 0] 115)):=(sA _ w3).alloc (sB _) _;have H1b:=Hi (H1.o.keep (hba.block _ H1.o.lt));have HR4:=Hi (HR3.o.below hba);have HB4:Hid (Below B w (w3.alloc (.cells #[.int .i64 0,.int .i64 o1,.int .i64 o2,.string ky,.int .i64 e1,.int .i64 e2,.bool false,.int .i64 0,.int .i64 0,.string ⟨#[]⟩,.int .i64 0,.int .i64 0,.slice none 0 0,.int .i64 0,.int .i64 0] 115))):=HB3.o.trans (hba.mono (by rw[←HBB.o];exact HB3.o.size));clear p2 p3 p4 p5 hb1 hb2 H1 H2 H3 HR3 HB3 hba;generalize w3.alloc (.cells #[.int .i64 0,.int .i64 o1,.int .i64 o2,.string ky,.int .i64 e1,.int .i64 e2,.bool false,.int .i64 0,.int .i64 0,.string ⟨#[]⟩,.int .i64 0,.int .i64 0,.slice none 0 0,.int .i64 0,.int .i64 0] 115)=w4 at HP H1b HR4 HB4 ⊢;generalize w3.heap.size=qp at HP ⊢;have HBL:Hid (B≤w4.heap.size):=by have:=HB4.o.size;rw[HBB.o]at this;exact this
 go_upto_region 5 with fail
 go_loopw [10,11,13,14,15,16,17,18,19,20,21,22,23] (fun s10 s11 s13 _ _ _ _ _ _ _ _ _ _ wr=>∃(i:Nat) (v10 v11:Value),v10=s10∧v11=s11∧s13=.int .i64 i∧i≤nK∧Hid (wr.ownsRow w4.heap.size 50 5 v10 (atG K W0 i).length (cU ((atG K W0 i).map Prod.snd)))∧Hid (wr.ownsRow w4.heap.size 48 2 v11 (atG K W0 i).length (aF ((atG K W0 i).map Prod.fst)))∧Hid (Below w4.heap.size w4 wr)) (fun _ _ s13 _ _ _ _ _ _ _ _ _ _ _=>nK-(intOf s13).toNat)
 case atStart=>exact⟨0,_,_,rfl,rfl,rfl,by omega,bB _ _ _ _,bB _ _ _ _,sA _ _⟩
 case round =>
  obtain⟨i,v10,v11,rfl,rfl,rfl,hi,HOV,HON,HW⟩:=hrel
  have j0:=cZ (H1b.o.keep (HW.o.block _ H1b.o.lt)) 0 rfl;by_cases hlt:i<nK
  ·obtain⟨x,hx⟩:∃x,K[i]?=some x:=⟨_,sC (by rw[HNK.o];exact hlt)⟩
   obtain⟨b,o,rfl,hbl,hrg⟩:=kN (show aC (fun k=>k<w4.heap.size) w4 15 A nK (bS K) from HNK.o▸HR4.o.row) (by omega) hx
   have HRG:=Hi (hrg wr (HW.o.block _ hbl));have HXM:=Hi hx;have HXE:=Hi (sJ hx);have HLT:=Hi hlt;obtain⟨E,hE⟩:∃E,atG K W0 i=E:=⟨_,rfl⟩
   have HE:=Hi hE;have hEl:E.length≤100000:=by have:=atG_len K W0 i;rw[hE]at this;omega
   rw[hE]at HOV HON;clear hx hbl hrg hE;go_upto_block 1 with fail
   go_cut [10,11] (fun s10 s11 wc=>∃v10 v11,v10=s10∧v11=s11∧Hid (wc.ownsRow w4.heap.size 50 5 v10 (atG K W0 (i+1)).length (cU ((atG K W0 (i+1)).map Prod.snd)))∧Hid (wc.ownsRow w4.heap.size 48 2 v11 (atG K W0 (i+1)).length (aF ((atG K W0 (i+1)).map Prod.fst)))∧Hid (Below w4.heap.size w4 wc))
   case first =>
    go_upto_region 8 with(refine wpList_load_mid rfl 115 (.tmp 39) rfl b (o+i*15) rfl [.int .i64 x.1.k,.int .i64 x.1.on,.int .i64 x.1.oa,.string x.1.key,.int .i64 x.1.en,.int .i64 x.1.ea,.bool x.1.ins,.int .i64 x.1.vk,.int .i64 x.1.vn,.string x.1.vt,.int .i64 x.1.va,.int .i64 x.1.vb,.slice x.1.A x.1.l.length x.1.c,.int .i64 x.2.1,.int .i64 x.2.2] _ HRG.o Tryz.underlying115 rfl nJ ?_)
    have HX:Hid (Blk (wr.alloc (.cells #[.int .i64 x.1.k,.int .i64 x.1.on,.int .i64 x.1.oa,.string x.1.key,.int .i64 x.1.en,.int .i64 x.1.ea,.bool x.1.ins,.int .i64 x.1.vk,.int .i64 x.1.vn,.string x.1.vt,.int .i64 x.1.va,.int .i64 x.1.vb,.slice x.1.A x.1.l.length x.1.c,.int .i64 x.2.1,.int .i64 x.2.2] 115)) wr.heap.size 115 [.int .i64 x.1.k,.int .i64 x.1.on,.int .i64 x.1.oa,.string x.1.key,.int .i64 x.1.en,.int .i64 x.1.ea,.bool x.1.ins,.int .i64 x.1.vk,.int .i64 x.1.vn,.string x.1.vt,.int .i64 x.1.va,.int .i64 x.1.vb,.slice x.1.A x.1.l.length x.1.c,.int .i64 x.2.1,.int .i64 x.2.2].toArray):=Blk.new wr 115 #[.int .i64 x.1.k,.int .i64 x.1.on,.int .i64 x.1.oa,.string x.1.key,.int .i64 x.1.en,.int .i64 x.1.ea,.bool x.1.ins,.int .i64 x.1.vk,.int .i64 x.1.vn,.string x.1.vt,.int .i64 x.1.va,.int .i64 x.1.vb,.slice x.1.A x.1.l.length x.1.c,.int .i64 x.2.1,.int .i64 x.2.2];have hba:Below wr.heap.size wr (wr.alloc (.cells #[.int .i64 x.1.k,.int .i64 x.1.on,.int .i64 x.1.oa,.string x.1.key,.int .i64 x.1.en,.int .i64 x.1.ea,.bool x.1.ins,.int .i64 x.1.vk,.int .i64 x.1.vn,.string x.1.vt,.int .i64 x.1.va,.int .i64 x.1.vb,.slice x.1.A x.1.l.length x.1.c,.int .i64 x.2.1,.int .i64 x.2.2] 115)):=(sA _ wr).alloc (sB _) _;have HOV2:=Hi (aO HOV.o hba);have HON2:=Hi (aO HON.o hba);have HW2:Hid (Below w4.heap.size w4 (wr.alloc (.cells #[.int .i64 x.1.k,.int .i64 x.1.on,.int .i64 x.1.oa,.string x.1.key,.int .i64 x.1.en,.int .i64 x.1.ea,.bool x.1.ins,.int .i64 x.1.vk,.int .i64 x.1.vn,.string x.1.vt,.int .i64 x.1.va,.int .i64 x.1.vb,.slice x.1.A x.1.l.length x.1.c,.int .i64 x.2.1,.int .i64 x.2.2] 115))):=HW.o.alloc HW.o.size _;have HQO:Hid (w4.heap.size≤wr.heap.size):=HW.o.size;have HPa:Hid (Blk (wr.alloc (.cells #[.int .i64 x.1.k,.int .i64 x.1.on,.int .i64 x.1.oa,.string x.1.key,.int .i64 x.1.en,.int .i64 x.1.ea,.bool x.1.ins,.int .i64 x.1.vk,.int .i64 x.1.vn,.string x.1.vt,.int .i64 x.1.va,.int .i64 x.1.vb,.slice x.1.A x.1.l.length x.1.c,.int .i64 x.2.1,.int .i64 x.2.2] 115)) qp 115 [.int .i64 0,.int .i64 o1,.int .i64 o2,.string ky,.int .i64 e1,.int .i64 e2,.bool false,.int .i64 0,.int .i64 0,.string ⟨#[]⟩,.int .i64 0,.int .i64 0,.slice none 0 0,.int .i64 0,.int .i64 0].toArray):=HP.o.keep (HW2.o.block _ HP.o.lt);have C1:=fun V=>qS x (atO o1 o2 ky e1 e2) V
    rw[place_at,HW0.o]at C1;clear HOV HON HW hba j0 HRG;generalize wr.alloc (.cells #[.int .i64 x.1.k,.int .i64 x.1.on,.int .i64 x.1.oa,.string x.1.key,.int .i64 x.1.en,.int .i64 x.1.ea,.bool x.1.ins,.int .i64 x.1.vk,.int .i64 x.1.vn,.string x.1.vt,.int .i64 x.1.va,.int .i64 x.1.vb,.slice x.1.A x.1.l.length x.1.c,.int .i64 x.2.1,.int .i64 x.2.2] 115)=wa at HX HOV2 HON2 HW2 HPa ⊢;generalize wr.heap.size=qo at HX HQO ⊢;go_wp2_with (first|refine wpList_load_mid rfl 115 (.tmp 14) rfl qo 0 rfl [.int .i64 x.1.k,.int .i64 x.1.on,.int .i64 x.1.oa,.string x.1.key,.int .i64 x.1.en,.int .i64 x.1.ea,.bool x.1.ins,.int .i64 x.1.vk,.int .i64 x.1.vn,.string x.1.vt,.int .i64 x.1.va,.int .i64 x.1.vb,.slice x.1.A x.1.l.length x.1.c,.int .i64 x.2.1,.int .i64 x.2.2] _ (Blk.range HX.o) Tryz.underlying115 rfl nJ ?_|refine wpList_load_mid rfl 115 (.tmp 12) rfl qp 0 rfl [.int .i64 0,.int .i64 o1,.int .i64 o2,.string ky,.int .i64 e1,.int .i64 e2,.bool false,.int .i64 0,.int .i64 0,.string ⟨#[]⟩,.int .i64 0,.int .i64 0,.slice none 0 0,.int .i64 0,.int .i64 0] _ (Blk.range HPa.o) Tryz.underlying115 rfl nJ ?_)
    have C2:Calls Tryz.prog 102 #[.agg #[.int .i64 x.1.k,.int .i64 x.1.on,.int .i64 x.1.oa,.string x.1.key,.int .i64 x.1.en,.int .i64 x.1.ea,.bool x.1.ins,.int .i64 x.1.vk,.int .i64 x.1.vn,.string x.1.vt,.int .i64 x.1.va,.int .i64 x.1.vb,.slice x.1.A x.1.l.length x.1.c,.int .i64 x.2.1,.int .i64 x.2.2],.agg #[.int .i64 0,.int .i64 o1,.int .i64 o2,.string ky,.int .i64 e1,.int .i64 e2,.bool false,.int .i64 0,.int .i64 0,.string ⟨#[]⟩,.int .i64 0,.int .i64 0,.slice none 0 0,.int .i64 0,.int .i64 0]] wa fun e w'=>e=.returned (.bool (decide (wh1 x=W0)))∧Below wa.heap.size wa w':=C1 wa
    go_at_call 102;obtain⟨pb,hpb⟩:∃pb,decide (wh1 x=W0)=pb:=⟨_,rfl⟩
    have HPB:=Hi hpb;rw[hpb]at C2;refine C2.mono ?_;rintro e w5 ⟨rfl,hb5⟩;have HX5:=Hi (HX.o.keep (hb5.block _ HX.o.lt));have HOV5:=Hi (aO HOV2.o hb5);have HON5:=Hi (aO HON2.o hb5);have HW5:Hid (Below w4.heap.size w4 w5):=HW2.o.trans (hb5.mono HW2.o.size);have hk1:=HKD.o x HXE.o;have x0:=cZ HX5.o 0 rfl;clear C1 C2 hpb hb5 HX HOV2 HON2 HW2 HPa;by_cases hlv:pb=true∧x.1.k≤2
    ·obtain⟨rfl,hk2⟩:=hlv
     have hk12:x.1.k=1∨x.1.k=2:=by omega
     have HK12:=Hi hk12;have C3:=fun V hv=>sOver_any K x.2.1 x.2.2 (some ⟨b,o,none⟩) c V (show OpsR (fun k=>k<V.heap.size) V (some ⟨b,o,none⟩) K from(HR4.o.below hv)) (by rw[HNK.o];exact hl)
     have C3':=C3 w5 HW5.o;rw[HNK.o]at C3';obtain⟨ob,hob⟩:∃ob,nB K x.2=ob:=⟨_,rfl⟩
     have HOBV:=Hi hob;rw[show(x.2.1,x.2.2)=x.2 from rfl,hob]at C3';have j0:=cZ (H1b.o.keep (HW5.o.block _ H1b.o.lt)) 0 rfl;have x13:=cZ HX5.o 13 rfl;have x14:=cZ HX5.o 14 rfl;have g2:¬(2:Int)<x.1.k:=by omega
     clear C3 hob hk1 hk12 hk2;go_wp2_with fail
     go_at_call 103;refine C3'.mono ?_;rintro e w6 ⟨rfl,hb6⟩;have HX6:=Hi (HX5.o.keep (hb6.block _ HX5.o.lt));have HOV6:=Hi (aO HOV5.o hb6);have HON6:=Hi (aO HON5.o hb6);have HW6:Hid (Below w4.heap.size w4 w6):=HW5.o.trans (hb6.mono HW5.o.size);clear C3' hb6 j0 x13 x14 x0 g2 HX5 HOV5 HON5 HW5;cases ob with
     |true =>
      have HNO:Hid (atG K W0 (i+1)=E):=by
       show _=_;rw[atG_no HXM.o (by unfold mL;rw[HOBV.o];simp),HE.o]
      go_wp2_with fail
      go_meet
      case rel=>exact⟨v10,v11,rfl,rfl,by rw[HNO.o];exact HOV6,by rw[HNO.o];exact HON6,HW6⟩
     |false =>
      have HYES:Hid (atG K W0 (i+1)=pN E (x.2,valJ K x)):=by
       show _=_;rw[atG_yes HXM.o (by unfold mL;rw[HOBV.o,HPB.o];rcases HK12.o with h|h<;>simp[h]),HE.o]
      have HVR:Hid (w6.rangeAt qo 7 [.int .i64 x.1.vk,.int .i64 x.1.vn,.string x.1.vt,.int .i64 x.1.va,.int .i64 x.1.vb]):=Blk.rangeFrom HX6.o 7 5;go_upto_region 13 with(refine wpList_load_mid rfl 50 (.tmp 58) rfl qo 7 rfl [.int .i64 x.1.vk,.int .i64 x.1.vn,.string x.1.vt,.int .i64 x.1.va,.int .i64 x.1.vb] _ HVR.o Tryz.underlying50 rfl info_Val5 ?_)
      have HQ:=Hi (Blk.new w6 50 #[.int .i64 x.1.vk,.int .i64 x.1.vn,.string x.1.vt,.int .i64 x.1.va,.int .i64 x.1.vb]);have hba:Below w6.heap.size w6 (w6.alloc (.cells #[.int .i64 x.1.vk,.int .i64 x.1.vn,.string x.1.vt,.int .i64 x.1.va,.int .i64 x.1.vb] 50)):=(sA _ w6).alloc (sB _) _;have HX7:=Hi (HX6.o.keep (hba.block _ HX6.o.lt));have HOV7:=Hi (aO HOV6.o hba);have HON7:=Hi (aO HON6.o hba);have HW7:Hid (Below w4.heap.size w4 (w6.alloc (.cells #[.int .i64 x.1.vk,.int .i64 x.1.vn,.string x.1.vt,.int .i64 x.1.va,.int .i64 x.1.vb] 50))):=HW6.o.alloc HW6.o.size _;have HQX:Hid (w4.heap.size≤w6.heap.size∧qo<w6.heap.size∧(∀k,v10.ownBlock=some k→k≠w6.heap.size)∧∀k,v11.ownBlock=some k→k≠w6.heap.size):=⟨HW6.o.size,HX6.o.lt,fun k hk=>Nat.ne_of_lt (aD HOV6.o hk).2,fun k hk=>Nat.ne_of_lt (aD HON6.o hk).2⟩;clear hba HX6 HOV6 HON6 HW6 HVR;generalize w6.alloc (.cells #[.int .i64 x.1.vk,.int .i64 x.1.vn,.string x.1.vt,.int .i64 x.1.va,.int .i64 x.1.vb] 50)=wx at HQ HX7 HOV7 HON7 HW7 ⊢;generalize w6.heap.size=qx at HQ HQX ⊢;obtain⟨v0,hv0⟩:∃v0,jR x=v0:=⟨_,rfl⟩
      have HV0:=Hi hv0;have h0k:v0.k=x.1.vk:=by rw[←hv0];exact valOf0_k x
      have h0n:v0.n=x.1.vn:=by rw[←hv0];exact valOf0_n x
      have H0W:Hid (IntKind.i64.wrap v0.n=v0.n):=by show _=_;rw[h0n];exact HWF.o x HXE.o
      have H0K:=Hi h0k;clear h0k h0n hv0;have x0:=cZ HX7.o 0 rfl;go_upto_if 63 with fail
      go_cut [] (fun wc=>Hid (Blk wc qx 50 #[.int .i64 v0.k,.int .i64 v0.n,.string v0.t,.int .i64 v0.a,.int .i64 v0.b])∧Hid (Chg (fun k=>k=qx) wx wc))
      case first =>
       by_cases hk2:x.1.k=2
       ·have HV2:Hid (v0=⟨x.1.vk,x.1.vn,x.1.vt,x.2.1,x.2.2⟩):=by show _=_;rw[←HV0.o];unfold jR;rw[tA hk2]
        have hk1:(x.1.k == 2)=true:=by simp[hk2]
        have x13:=cZ HX7.o 13 rfl;have x14:=cZ HX7.o 14 rfl;have y3:=cZ HQ.o 3 rfl;have y4:=cZ HQ.o 4 rfl;have f3:=HQ.o.frozen 3;have f4:=HQ.o.frozen 4;clear hk2;go_wp2_with fail
        go_meet
        case rel =>
         rw[HV2.o];exact⟨(HQ.o.set_ 3 _).set_ 4 _,Chg.setCell (M:=fun k=>k=qx) (Chg.setCell (M:=fun k=>k=qx) (Chg.refl wx) (p:=⟨qx,3,none⟩) (.inl rfl) _) (p:=⟨qx,4,none⟩) (.inl rfl) _⟩
       ·have HV2:Hid (v0=⟨x.1.vk,x.1.vn,x.1.vt,x.1.va,x.1.vb⟩):=by show _=_;rw[←HV0.o];unfold jR;rw[sT hk2]
        have hk1:(x.1.k == 2)=false:=by simp[hk2]
        clear hk2;go_wp2_with fail
        go_meet
        case rel =>
         rw[HV2.o];exact⟨HQ,Chg.refl wx⟩
      case rest =>
       obtain⟨HQ1,HCH1⟩:=hcut
       clear HQ x0;have y0:=cZ HQ1.o 0 rfl;obtain⟨vj,hvj⟩:∃vj,valJ K x=vj:=⟨_,rfl⟩
       have HVJ:=Hi hvj;rw[hvj]at HYES;clear hvj;obtain⟨b4,hb4⟩:∃b4,(v0.k == 4)=b4:=⟨_,rfl⟩
       have HB4:=Hi hb4;go_upto_if 69 with fail
       clear hb4 y0;go_cut [18,19,20] (fun _ _ _ wd=>Hid (Blk wd qx 50 #[.int .i64 vj.k,.int .i64 vj.n,.string vj.t,.int .i64 vj.a,.int .i64 vj.b])∧Hid (Chg (fun k=>k=qx) wx wd))
       case first =>
        cases b4 with
        |true =>
         have hk4:v0.k=4:=by simpa using HB4.o
         have HVA:Hid (vj=v0.add (oY K x.2)):=by show _=_;rw[←HVJ.o,←HV0.o];unfold valJ;rw[tA (by rw[←H0K.o];exact hk4)]
         clear hk4;go_upto_region 17 with fail
         go_loopw [18,19,20] (fun s18 _ _ wr=>∃(j:Nat) (nv:Int),s18=.int .i64 j∧j≤nK∧Hid (nv=IntKind.i64.wrap (v0.n+oY (K.take j) x.2))∧Hid (Blk wr qx 50 #[.int .i64 v0.k,.int .i64 nv,.string v0.t,.int .i64 v0.a,.int .i64 v0.b])∧Hid (Chg (fun k=>k=qx) wx wr)) (fun s18 _ _ _=>nK-(intOf s18).toNat)
         case atStart=>exact⟨0,v0.n,rfl,by omega,(by show _=_;rw[incP_now,Int.add_zero];exact H0W.o.symm),HQ1,HCH1⟩
         case round =>
          clear HQ1 HCH1;obtain⟨j,nv,rfl,hj,HNV,HQ,HCH⟩:=hrel
          have HBW:Hid (Below w4.heap.size w4 wr):=HW7.o.trans (HCH.o.below HW7.o.size fun k hk=>by rw[hk];exact HQX.o.1);have j0:=cZ (H1b.o.keep (HBW.o.block _ H1b.o.lt)) 0 rfl;by_cases hjl:j<nK
          ·obtain⟨y,hy⟩:∃y,K[j]?=some y:=⟨_,sC (by rw[HNK.o];exact hjl)⟩
           obtain⟨b',o',hA,hbl,hrg⟩:=kN (show aC (fun k=>k<w4.heap.size) w4 15 (some ⟨b,o,none⟩) nK (bS K) from HNK.o▸HR4.o.row) (by omega) hy
           simp only[tW,Addr.mk.injEq,and_true]at hA;obtain⟨rfl,rfl⟩:=hA
           have HRG:Hid (wr.rangeAt b (o+j*15) [.int .i64 y.1.k,.int .i64 y.1.on,.int .i64 y.1.oa,.string y.1.key,.int .i64 y.1.en,.int .i64 y.1.ea,.bool y.1.ins,.int .i64 y.1.vk,.int .i64 y.1.vn,.string y.1.vt,.int .i64 y.1.va,.int .i64 y.1.vb,.slice y.1.A y.1.l.length y.1.c]):=rangeAt_take (hrg wr (HBW.o.block _ hbl)) 13;have HPR:Hid (aC (fun k=>k<w4.heap.size) w4 2 y.1.A y.1.l.length (aF y.1.l)):=HR4.o.preds hy;have HYL:=(HR4.o.each y (sJ hy)).2;have HIT:=Hi (incP_take (n:=x.2) hy);obtain⟨nl,hnl⟩:∃k,y.1.l.length=k:=⟨_,rfl⟩
           obtain⟨PA,hPA⟩:∃k,y.1.A=k:=⟨_,rfl⟩
           have HNL:=Hi hnl;rw[hnl,hPA]at HPR HRG;rw[hnl]at HYL;have HJL:=Hi hjl;clear hy hbl hrg hnl hPA;go_upto_region 20 with(refine wpList_load_mid rfl 53 (.tmp 81) rfl b (o+j*15) rfl [.int .i64 y.1.k,.int .i64 y.1.on,.int .i64 y.1.oa,.string y.1.key,.int .i64 y.1.en,.int .i64 y.1.ea,.bool y.1.ins,.int .i64 y.1.vk,.int .i64 y.1.vn,.string y.1.vt,.int .i64 y.1.va,.int .i64 y.1.vb,.slice PA nl y.1.c] _ HRG.o Tryz.underlying53 rfl info_Op13' ?_)
           have HY:Hid (Blk (wr.alloc (.cells #[.int .i64 y.1.k,.int .i64 y.1.on,.int .i64 y.1.oa,.string y.1.key,.int .i64 y.1.en,.int .i64 y.1.ea,.bool y.1.ins,.int .i64 y.1.vk,.int .i64 y.1.vn,.string y.1.vt,.int .i64 y.1.va,.int .i64 y.1.vb,.slice PA nl y.1.c] 53)) wr.heap.size 53 #[.int .i64 y.1.k,.int .i64 y.1.on,.int .i64 y.1.oa,.string y.1.key,.int .i64 y.1.en,.int .i64 y.1.ea,.bool y.1.ins,.int .i64 y.1.vk,.int .i64 y.1.vn,.string y.1.vt,.int .i64 y.1.va,.int .i64 y.1.vb,.slice PA nl y.1.c]):=Blk.new wr 53 #[.int .i64 y.1.k,.int .i64 y.1.on,.int .i64 y.1.oa,.string y.1.key,.int .i64 y.1.en,.int .i64 y.1.ea,.bool y.1.ins,.int .i64 y.1.vk,.int .i64 y.1.vn,.string y.1.vt,.int .i64 y.1.va,.int .i64 y.1.vb,.slice PA nl y.1.c];have hba:Below wr.heap.size wr (wr.alloc (.cells #[.int .i64 y.1.k,.int .i64 y.1.on,.int .i64 y.1.oa,.string y.1.key,.int .i64 y.1.en,.int .i64 y.1.ea,.bool y.1.ins,.int .i64 y.1.vk,.int .i64 y.1.vn,.string y.1.vt,.int .i64 y.1.va,.int .i64 y.1.vb,.slice PA nl y.1.c] 53)):=(sA _ wr).alloc (sB _) _;have HQa:=Hi (HQ.o.keep (hba.block _ HQ.o.lt));have HCHa:=Hi (HCH.o.alloc (.cells #[.int .i64 y.1.k,.int .i64 y.1.on,.int .i64 y.1.oa,.string y.1.key,.int .i64 y.1.en,.int .i64 y.1.ea,.bool y.1.ins,.int .i64 y.1.vk,.int .i64 y.1.vn,.string y.1.vt,.int .i64 y.1.va,.int .i64 y.1.vb,.slice PA nl y.1.c] 53));have HQQ:Hid (qx<wr.heap.size):=HQ.o.lt;clear hba HQ HCH HBW HRG j0;generalize wr.alloc (.cells #[.int .i64 y.1.k,.int .i64 y.1.on,.int .i64 y.1.oa,.string y.1.key,.int .i64 y.1.en,.int .i64 y.1.ea,.bool y.1.ins,.int .i64 y.1.vk,.int .i64 y.1.vn,.string y.1.vt,.int .i64 y.1.va,.int .i64 y.1.vb,.slice PA nl y.1.c] 53)=wq at HY HQa HCHa ⊢;generalize wr.heap.size=qq at HY HQQ ⊢;go_upto_region 21 with fail
           go_loopw [20] (fun s20 wr=>∃(m:Nat) (nm:Int),s20=.int .i64 m∧m≤nl∧Hid (nm=IntKind.i64.wrap (v0.n+oY (K.take j) x.2+(if y.1.k=4 then ((y.1.l.take m).count x.2:Int)*y.1.vn else 0)))∧Hid (Blk wr qx 50 #[.int .i64 v0.k,.int .i64 nm,.string v0.t,.int .i64 v0.a,.int .i64 v0.b])∧Hid (Chg (fun k=>k=qx) wq wr)) (fun s20 _=>nl-(intOf s20).toNat)
           case atStart=>exact⟨0,nv,rfl,by omega,(by show _=_;rw[HNV.o,tO,List.count_nil,Int.natCast_zero,Int.zero_mul,ite_self,Int.add_zero]),HQa,Chg.refl _⟩
           case round =>
            clear HQa;obtain⟨m,nm,rfl,hm,HNM,HQ,HCH⟩:=hrel
            have HYr:=Hi (HY.o.keep (HCH.o.block _ HY.o.lt (fun e=>by have:=HQQ.o;omega)));have HCX:Hid (Chg (fun k=>k=qx) wx wr):=HCHa.o.trans HCH.o fun _ _ h=>h
            have HBW:Hid (Below w4.heap.size w4 wr):=HW7.o.trans (HCX.o.below HW7.o.size fun k hk=>by rw[hk];exact HQX.o.1);have y0:=cZ HYr.o 0 rfl;have y12:=cZ HYr.o 12 rfl;by_cases hin:y.1.k=4∧m<nl
            ·obtain⟨h4,hml⟩:=hin
             have hk4:(y.1.k == 4)=true:=by simp[h4]
             have H4:=Hi h4;obtain⟨⟨p1,p2⟩,hp⟩:∃p,y.1.l[m]?=some p:=⟨_,sC (by rw[HNL.o];exact hml)⟩
             have hrr:aC (fun k=>k<w4.heap.size) wr 2 PA nl (aF y.1.l):=HPR.o.keep fun k hk=>HBW.o.block k hk
             obtain⟨pb',po,hA,-,hc⟩:=hrr.at_ (by omega) (by omega)
             have z0:wr.cell? ⟨pb',po+m*2,none⟩=some (.int .i64 p1):=hc _ _ ((aN hp).1);have z1:wr.cell? ⟨pb',po+m*2+1,none⟩=some (.int .i64 p2):=by have:=hc _ _ ((aN hp).2);rw[←tY]at this;exact this
             rw[hA]at y12;have HXr:=HX7.o.keep (HCX.o.block _ HX7.o.lt (fun e=>by have:=HQX.o.2.1;omega));have x13:=cZ HXr 13 rfl;have x14:=cZ HXr 14 rfl;have E:=fun w=>kC p1 p2 x.2.1 x.2.2 w
             obtain⟨eb,heb⟩:∃eb,(p1 == x.2.1&&p2 == x.2.2)=eb:=⟨_,rfl⟩
             rw[heb]at E;have HEB:Hid (eb=decide ((p1,p2)=x.2)):=by show _=_;rw[show x.2=(x.2.1,x.2.2) from rfl,gR,heb]
             have HCT:Hid ((y.1.l.take (m+1)).count x.2=(y.1.l.take m).count x.2+if eb then 1 else 0):=by
              show _=_;rw[sQ,hp,HEB.o,List.count_append];by_cases h:(p1,p2)=x.2
              ·simp[h]
              ·simp[h,List.count_cons]
             clear hc hp heb h4 hrr HXr;go_upto_region 23 with fail
             go_quiet (fail)
             change Exit.then _ _ _ _ (wr.drewN nq);have HQ2:Hid (Blk (wr.drewN nq) qx 50 #[.int .i64 v0.k,.int .i64 nm,.string v0.t,.int .i64 v0.a,.int .i64 v0.b]):=HQ.o;have HCH2:Hid (Chg (fun k=>k=qx) wq (wr.drewN nq)):=HCH.o.drewN_ nq;have HY2:Hid (Blk (wr.drewN nq) qq 53 #[.int .i64 y.1.k,.int .i64 y.1.on,.int .i64 y.1.oa,.string y.1.key,.int .i64 y.1.en,.int .i64 y.1.ea,.bool y.1.ins,.int .i64 y.1.vk,.int .i64 y.1.vn,.string y.1.vt,.int .i64 y.1.va,.int .i64 y.1.vb,.slice PA nl y.1.c]):=HYr.o;clear y0 y12 z0 z1 x13 x14 E HBW HCX HYr HQ HCH;generalize wr.drewN nq=ws at HQ2 HCH2 HY2 ⊢;cases eb with
             |true =>
              have v1:=cZ HQ2.o 1 rfl;have fv:=HQ2.o.frozen 1;have y8:=cZ HY2.o 8 rfl;obtain⟨nw,hnw⟩:∃nw,wrap64 (nm+y.1.vn)=nw:=⟨_,rfl⟩
              have HNW:Hid (nw=IntKind.i64.wrap (v0.n+oY (K.take j) x.2+(if y.1.k=4 then ((y.1.l.take (m+1)).count x.2:Int)*y.1.vn else 0))):=by
               show _=_;rw[←hnw,←IntWalk.i64_left,HNM.o,wrap_wrap,HCT.o];congr 1;rw[tA H4.o,tA H4.o,tA rfl,Int.natCast_add,Int.add_mul];simp only[Int.natCast_one,Int.one_mul];omega
              go_wp2_with fail
              have HQ3:Hid (Blk (ws.setCell ⟨qx,1,none⟩ (.int .i64 nw)) qx 50 #[.int .i64 v0.k,.int .i64 nw,.string v0.t,.int .i64 v0.a,.int .i64 v0.b]):=HQ2.o.set_ 1 _;have HCH3:Hid (Chg (fun k=>k=qx) wq (ws.setCell ⟨qx,1,none⟩ (.int .i64 nw))):=HCH2.o.setCell (p:=⟨qx,1,none⟩) (.inl rfl) _;clear v1 fv y8 hnw;go_roundw
              case rel=>exact⟨m+1,nw,by go_num,hml,HNW,HQ3,HCH3⟩
              case measure=>simp[intOf];omega
             |false =>
              have HNM2:Hid (nm=IntKind.i64.wrap (v0.n+oY (K.take j) x.2+(if y.1.k=4 then ((y.1.l.take (m+1)).count x.2:Int)*y.1.vn else 0))):=by show _=_;rw[HNM.o,HCT.o];simp
              go_wp2_with fail
              go_roundw
              case rel=>exact⟨m+1,nm,by go_num,hml,HNM2,HQ2,HCH2⟩
              case measure=>simp[intOf];omega
            ·have HNV2:Hid (nm=IntKind.i64.wrap (v0.n+oY (K.take (j+1)) x.2)):=by
              show _=_;rw[HNM.o,HIT.o];congr 1;by_cases h4:y.1.k=4
              ·have hmn:¬m<nl:=fun h=>hin ⟨h4,h⟩
               rw[tA h4,tA h4,show y.1.l.take m=y.1.l from sL (by rw[HNL.o];omega)];omega
              ·rw[sT h4,sT h4];omega
             have HJL2:=HJL.o;by_cases h4:y.1.k=4
             ·have hk4:(y.1.k == 4)=true:=by simp[h4]
              have hmn:¬m<nl:=fun h=>hin ⟨h4,h⟩
              clear hin h4;go_wp2_with fail
              go_roundw
              case rel=>exact⟨j+1,nm,by go_num,HJL2,HNV2,HQ,HCX⟩
              case measure=>simp[intOf];omega
             ·have hk4:(y.1.k == 4)=false:=by simp[h4]
              clear hin h4;go_wp2_with fail
              go_roundw
              case rel=>exact⟨j+1,nm,by go_num,HJL2,HNV2,HQ,HCX⟩
              case measure=>simp[intOf];omega
          ·have HVF:Hid (vj=⟨v0.k,nv,v0.t,v0.a,v0.b⟩):=by
            show _=_;rw[HVA.o,HNV.o,sL (by rw[HNK.o];omega)];rfl
           go_wp2_with fail
           go_meet
           case rel =>
            rw[HVF.o];exact⟨HQ,HCH⟩
        |false =>
         have hk4:¬v0.k=4:=by have:=HB4.o;simpa using this
         have HVA:Hid (vj=v0):=by show _=_;rw[←HVJ.o,←HV0.o];unfold valJ;rw[sT (by rw[←H0K.o];exact hk4)]
         clear hk4;go_wp2_with fail
         go_meet
         case rel =>
          rw[HVA.o];exact⟨HQ1,HCH1⟩
       case rest =>
        obtain⟨HQ2,HCH2⟩:=hcut
        clear HQ1 HCH1 HB4;have HCK:Hid (∀k,k<wx.heap.size→k≠qx→wc.heap[k]?=wx.heap[k]?):=fun k h1 h2=>HCH2.o.block k h1 h2
        have HOVc:=Hi (aT HOV7.o fun k hk=>HCK.o k (aD HOV7.o hk).2 (HQX.o.2.2.1 k hk));have HONc:=Hi (aT HON7.o fun k hk=>HCK.o k (aD HON7.o hk).2 (HQX.o.2.2.2 k hk));have HXc:=Hi (HX7.o.keep (HCK.o _ HX7.o.lt (Nat.ne_of_lt HQX.o.2.1)));have HWc:Hid (Below w4.heap.size w4 wc):=HW7.o.trans (HCH2.o.below HW7.o.size fun k hk=>by rw[hk];exact HQX.o.1);clear HOV7 HON7 HX7 HW7 HCH2 HCK HQX HQO;obtain⟨m,hm⟩:∃m,E.length=m:=⟨_,rfl⟩
        have HEL:=Hi hm;obtain⟨VE,hVE⟩:∃l,E.map Prod.snd=l:=⟨_,rfl⟩
        have HVEE:=Hi hVE;obtain⟨NE,hNE⟩:∃l,E.map Prod.fst=l:=⟨_,rfl⟩
        have HNEE:=Hi hNE;have HNE:Hid (NE.length=m):=by show _=_;rw[←hNE,tF,hm]
        rw[hm,hVE]at HOVc;rw[hm,hNE]at HONc;rw[hm]at hEl;obtain⟨Av,cv,hvv,hcv,hcv2,hrv⟩:=aC.of_own HOVc.o
        obtain⟨An,cn,hvn,hcn,hcn2,hrn⟩:=aC.of_own HONc.o
        have HRV:Hid (aC (fun k=>k<wc.heap.size) wc 5 Av m (cU VE)):=hrv.more fun k hk=>(aD HOVc.o hk).2
        have HRN:Hid (aC (fun k=>k<wc.heap.size) wc 2 An m (aF NE)):=hrn.more fun k hk=>(aD HONc.o hk).2
        subst hvv hvn;clear hm hVE hNE hrv hrn HOVc HONc hcv2 hcn2;go_upto_block 6 with fail
        go_cut [21] (fun s21 wd=>∃k:Nat,s21=.int .i64 k∧k≤m∧Hid (∀z∈NE.take k,aM x.2 z=true)∧Hid (∀z,NE[k]?=some z→aM x.2 z=false)∧Hid (Below wc.heap.size wc wd))
        case first =>
         go_upto_region 26 with fail
         go_loopw [21] (fun s21 wr=>∃k:Nat,s21=.int .i64 k∧k≤m∧Hid (∀z∈NE.take k,aM x.2 z=true)∧Hid (Below wc.heap.size wc wr)) (fun s21 _=>m-(intOf s21).toNat)
         case atStart=>exact⟨0,rfl,by omega,by show ∀z∈_,_;simp,sA _ _⟩
         case round =>
          obtain⟨k,rfl,hk,HI0,HI⟩:=hrel
          by_cases hlk:k<m
          ·obtain⟨y,hy⟩:∃y,NE[k]?=some y:=⟨_,sC (by rw[HNE.o];exact hlk)⟩
           obtain⟨bn,on,rfl,-,hc1⟩:=(aA HRN.o HI.o).at_ (by omega) (by omega)
           have y1:wr.cell? ⟨bn,on+k*2,none⟩=some (.int .i64 y.1):=hc1 _ _ (aN hy).1;have y2:wr.cell? ⟨bn,on+k*2+1,none⟩=some (.int .i64 y.2):=by have:=hc1 _ _ (aN hy).2;rw[←tY]at this;exact this
           have hX2:=HXc.o.keep (HI.o.block _ HXc.o.lt);have x13:=cZ hX2 13 rfl;have x14:=cZ hX2 14 rfl;have g1:decide ((k:Int)<m)=true:=sH (by omega);have HY:=Hi hy;have HLK:=Hi hlk;have C3:=kK x.2.1 x.2.2 y.1 y.2 wr.drew;rw[show fC x.2.1 x.2.2 y.1 y.2=aM x.2 y from rfl]at C3;clear hc1 hy hX2;go_wp2_with fail
           refine wp_region_still_tail 11 (by kernel_rfl) (by kernel_rfl) ?_;simp only[tE,tO,tG,tT];repeat (first|(refine aQ rfl (fun K hK=>?_);go_simp;refine hK _ ?_;clear hK K)|(refine wpStill_skip rfl ?_;go_frame))
           refine wpStill_nil ?_;change wpList _ _ _ _ _ wr.drew;have HI2:Hid (Below wc.heap.size wc wr.drew):=HI.o.drew;generalize wr.drew=wz at HI2 C3 ⊢;clear y1 y2 x13 x14 HI;go_wp2_with fail
           go_at_call 61;refine C3.mono ?_;rintro e wy ⟨rfl,hb⟩;have HI3:Hid (Below wc.heap.size wc wy):=HI2.o.trans (hb.mono HI2.o.size);clear hb HI2 C3;cases ha:aM x.2 y with
           |true =>
            have HIN:Hid (∀z∈NE.take (k+1),aM x.2 z=true):=fun z hz=>by
             rcases gO HY.o hz with h|h
             ·exact HI0.o z h
             ·rw[h];exact ha
            clear ha;go_wp2_with fail
            go_roundw
            case rel=>exact⟨k+1,by go_num,by have:=HLK.o;omega,HIN,HI3⟩
            case measure=>have:=HLK.o;simp[intOf];omega
           |false =>
            have HNX:Hid (∀z,NE[k]?=some z→aM x.2 z=false):=fun z hz=>by rw[HY.o]at hz;cases hz;exact ha
            clear ha;go_wp2_with fail
            go_meet
            case rel=>exact⟨k,rfl,hk,HI0,HNX,HI3⟩
          ·have g1:decide ((k:Int)<m)=false:=sI (by omega);have HNX:Hid (∀z,NE[k]?=some z→aM x.2 z=false):=fun z hz=>by rw[vA (by rw[HNE.o];omega)]at hz;cases hz
           go_wp2_with fail
           go_quiet (fail)
           change Exit.then _ _ _ _ (wr.drewN nq);have HI3:Hid (Below wc.heap.size wc (wr.drewN nq)):=aH HI.o nq;generalize wr.drewN nq=wy at HI3 ⊢;clear HI;go_wp2_with fail
           go_meet
           case rel=>exact⟨k,rfl,hk,HI0,HNX,HI3⟩
        case rest =>
         obtain⟨k,rfl,hk,HI0,HNX,HI3⟩:=hcut
         rename World=>wd;have HRVd:=Hi (aA HRV.o HI3.o);have HRNd:=Hi (aA HRN.o HI3.o);have HQd:=Hi (HQ2.o.keep (HI3.o.block _ HQ2.o.lt));have HXd:=Hi (HXc.o.keep (HI3.o.block _ HXc.o.lt));have HWd:Hid (Below w4.heap.size w4 wd):=HWc.o.trans (HI3.o.mono HWc.o.size);obtain⟨AV2,hAV2⟩:∃z,(if cv=k then Av else Av.map (·.add (k*5)))=z:=⟨_,rfl⟩
         obtain⟨AN2,hAN2⟩:∃z,(if cn=k then An else An.map (·.add (k*2)))=z:=⟨_,rfl⟩
         have hs1:=fun w=>slice_to (t:=65) Tryz.underlying65 size_val Av hk hcv w
         have hs2:=fun w=>slice_to (t:=51) Tryz.underlying51 size_id An hk hcn w
         have hs3:=fun w=>qT (t:=65) (c:=cv) Tryz.underlying65 size_val Av hk w
         have hs4:=fun w=>qT (t:=51) (c:=cn) Tryz.underlying51 size_id An hk w
         rw[hAV2]at hs3;rw[hAN2]at hs4;have HTV:Hid (aC (fun k=>k<wd.heap.size) wd 5 Av k (cU (VE.take k))):=by have:=HRVd.o.take hk;rwa [qK]at this
         have HTN:Hid (aC (fun k=>k<wd.heap.size) wd 2 An k (aF (NE.take k))):=by have:=HRNd.o.take hk;rwa [jF]at this
         have HV3:Hid (aC (fun k=>k<wd.heap.size) wd 5 AV2 (m-k) (cU (VE.drop k))):=by have:=HRVd.o.cut hk hcv;rw[hAV2,qL]at this;exact this
         have HN2R:Hid (aC (fun k=>k<wd.heap.size) wd 2 AN2 (m-k) (aF (NE.drop k))):=by have:=HRNd.o.cut hk hcn;rw[hAN2,iB]at this;exact this
         clear hAV2 hAN2 HRVd HRNd HRV HRN HQ2 HXc HWc HI3;obtain⟨i0,hi0,hz0,hz1,hz2⟩:=info_parts infoVal
         obtain⟨j0,hj0,hy0,hy1,hy2⟩:=info_parts rS
         go_wp2_with (at_builtin;refine aG _ rfl (.tmp 125) (.tmp 128) _ rfl (wd.heap.size) 50 i0 _ 5 48 Tryz.underlying65 hi0 hz0 hz1 hz2 rfl (by omega) (.slice none 0 0) (0) (cU []) rfl (bB _ _ _ _) _ (Av) (k) (cv) (cU (VE.take k)) rfl (HTV.o) (oE _) ?c1 ?c2 ?c3 ?_)
         try case c1=>simp only[maxLen];omega
         try case c2=>omega
         try case c3=>exact sB _
         intro va u1 ho1 hg1 _;have HB1:Hid (Below wd.heap.size wd u1):=(sA _ wd).grown hg1 (sB _) (fun g e=>by cases e);have HA1:Hid (u1.ownsRow wd.heap.size 50 5 va k (cU (VE.take k))):=by show World.ownsRow _ _ _ _ _ _ _;simpa[cU] using ho1
         clear ho1 hg1;go_wp2_with (at_builtin;refine aG _ rfl (.tmp 130) (.tmp 133) _ rfl (wd.heap.size) 48 j0 _ 2 16 Tryz.underlying51 hj0 hy0 hy1 hy2 rfl (by omega) (.slice none 0 0) (0) (aF []) rfl (bB _ _ _ _) _ (An) (k) (cn) (aF (NE.take k)) rfl ((aA HTN.o HB1.o)) (aY _) ?d1 ?d2 ?d3 ?_)
         try case d1=>simp only[maxLen];omega
         try case d2=>omega
         try case d3=>exact HB1.o.size
         intro vn u2 ho2 hg2 _;have HB2:Hid (Below wd.heap.size wd u2):=HB1.o.grown hg2 HB1.o.size (fun g e=>by cases e);have HN2:Hid (u2.ownsRow wd.heap.size 48 2 vn k (aF (NE.take k))):=by show World.ownsRow _ _ _ _ _ _ _;simpa[aF] using ho2
         have HA2:=Hi (aT HA1.o fun g hg=>hg2.block g (aD HA1.o hg).2 (fun e=>by cases e));have hq:=HQd.o.keep (HB2.o.block _ HQd.o.lt);obtain⟨y0,y1,y2,y3,y4⟩:=ce5 hq
         clear ho2 hg2 hq HA1;go_wp2_with (at_builtin;refine aX 65 50 (.agg #[.int .i64 0,.int .i64 0,.string ⟨#[]⟩,.int .i64 0,.int .i64 0]) 5 48 Tryz.underlying65 infoVal rfl (by omega) rfl (.tmp 135) (.tmp 137) rfl (wd.heap.size) (va) (k) (cU (VE.take k)) rfl (HA2.o.alloc _) (u2.heap.size) 1 ([.int .i64 vj.k,.int .i64 vj.n,.string vj.t,.int .i64 vj.a,.int .i64 vj.b]) rfl ?zz1 ?zz2 ?zz3 ?zz4 ?zz5 ?zz6 ?_)
         try case zz1=>rfl
         try case zz2=>intro j u hj;exact dN _ _ _ hj
         try case zz3=>exact oE [vj]
         try case zz4=>omega
         try case zz5=>omega
         try case zz6=>first|(have:=HB2.o.size;simp;omega)|(simp;done)
         intro va3 u3 ho3 hg3 hat3;have HB3:Hid (Below wd.heap.size wd u3):=(HB2.o.alloc HB2.o.size _).grown hg3 (by have:=HB2.o.size;simp;omega) (fun g hg=>(aD HA2.o hg).1);have HA3:=Hi ho3;have HN3:=Hi (aT HN2.o fun g hg=>(hg3.block g (by have:=(aD HN2.o hg).2;simp;omega) (fun e=>fP HN2.o HA2.o (by decide) g hg e.symm)).trans (sM _ _ _ (aD HN2.o hg).2));have hq:=HXd.o.keep (HB3.o.block _ HXd.o.lt);have x13:=cZ hq 13 rfl;have x14:=cZ hq 14 rfl;clear ho3 hg3 hat3 hq y0 y1 y2 y3 y4 HA2 HN2;go_wp2_with (at_builtin;refine aX 51 48 (.agg #[.int .i64 0,.int .i64 0]) 2 16 Tryz.underlying51 rS rfl (by omega) rfl (.tmp 139) (.tmp 142) rfl (wd.heap.size) (vn) (k) (aF (NE.take k)) rfl (HN3.o.alloc _) (u3.heap.size) 1 ([.int .i64 x.2.1,.int .i64 x.2.2]) rfl ?yy1 ?yy2 ?yy3 ?yy4 ?yy5 ?yy6 ?_)
         try case yy1=>rfl
         try case yy2=>intro j u hj;exact dN _ _ _ hj
         try case yy3=>exact aY [x.2]
         try case yy4=>omega
         try case yy5=>omega
         try case yy6=>first|(have:=HB3.o.size;simp;omega)|(simp;done)
         intro vn4 u4 ho4 hg4 hat4;have HB4:Hid (Below wd.heap.size wd u4):=(HB3.o.alloc HB3.o.size _).grown hg4 (by have:=HB3.o.size;simp;omega) (fun g hg=>(aD HN3.o hg).1);have HN4:=Hi ho4;have HA4:=Hi (aT HA3.o fun g hg=>(hg4.block g (by have:=(aD HA3.o hg).2;simp;omega) (fun e=>fP HA3.o HN3.o (by decide) g hg e.symm)).trans (sM _ _ _ (aD HA3.o hg).2));clear ho4 hg4 hat4 x13 x14 HA3 HN3;go_wp2_with (at_builtin;refine aG _ rfl (.tmp 144) (.tmp 147) _ rfl (wd.heap.size) 50 i0 _ 5 48 Tryz.underlying65 hi0 hz0 hz1 hz2 rfl (by omega) (va3) (k+1) (cU (VE.take k)++[.int .i64 vj.k,.int .i64 vj.n,.string vj.t,.int .i64 vj.a,.int .i64 vj.b]) rfl (HA4.o) _ (AV2) ((m-k)) ((cv-k)) (cU (VE.drop k)) rfl ((aA HV3.o HB4.o)) (oE _) ?xx1 ?xx2 ?xx3 ?_)
         try case xx1=>simp only[maxLen];omega
         try case xx2=>omega
         try case xx3=>exact HB4.o.size
         intro va5 u5 ho5 hg5 hat5;have HB5:Hid (Below wd.heap.size wd u5):=HB4.o.grown hg5 HB4.o.size (fun g hg=>(aD HA4.o hg).1);have HA5:=Hi ho5;have HN5:=Hi (aT HN4.o fun g hg=>hg5.block g (aD HN4.o hg).2 (fun e=>fP HN4.o HA4.o (by decide) g hg e.symm));clear ho5 hg5 hat5 HA4 HN4;go_wp2_with (at_builtin;refine aG _ rfl (.tmp 149) (.tmp 152) _ rfl (wd.heap.size) 48 j0 _ 2 16 Tryz.underlying51 hj0 hy0 hy1 hy2 rfl (by omega) (vn4) (k+1) (aF (NE.take k)++[.int .i64 x.2.1,.int .i64 x.2.2]) rfl (HN5.o) _ (AN2) ((m-k)) ((cn-k)) (aF (NE.drop k)) rfl ((aA HN2R.o HB5.o)) (aY _) ?ww1 ?ww2 ?ww3 ?_)
         try case ww1=>simp only[maxLen];omega
         try case ww2=>omega
         try case ww3=>exact HB5.o.size
         intro vn6 u6 ho6 hg6 hat6;have HB6:Hid (Below wd.heap.size wd u6):=HB5.o.grown hg6 HB5.o.size (fun g hg=>(aD HN5.o hg).1);have HA6:=Hi (aT HA5.o fun g hg=>hg6.block g (aD HA5.o hg).2 (fun e=>fP HA5.o HN5.o (by decide) g hg e.symm));have HPD:Hid (atG K W0 (i+1)=E.take k++(x.2,vj)::E.drop k):=by
          show _=_;rw[HYES.o];refine putDV_at (by rw[HEL.o];exact hk) (fun z hz=>?_) (fun z hz=>?_)
          ·refine HI0.o z.1 ?_;rw[←HNEE.o,←List.map_take];exact vQ hz
          ·refine HNX.o z.1 ?_;rw[←HNEE.o,uQ,hz];rfl
         have HLEN:Hid ((E.take k++(x.2,vj)::E.drop k).length=k+1+(m-k)):=by
          show _=_;rw[sF,tD,sV,uG,HEL.o];omega
         have HF1:Hid (u6.ownsRow w4.heap.size 50 5 va5 (atG K W0 (i+1)).length (cU ((atG K W0 (i+1)).map Prod.snd))):=by
          show World.ownsRow _ _ _ _ _ _ _;rw[HPD.o,HLEN.o,tN,tU,List.map_take,List.map_drop,HVEE.o,valsC_append];exact bG HA6.o fun g hg=>sY HWd.o.size (aD HA6.o hg).1
         have HF2:Hid (u6.ownsRow w4.heap.size 48 2 vn6 (atG K W0 (i+1)).length (aF ((atG K W0 (i+1)).map Prod.fst))):=by
          show World.ownsRow _ _ _ _ _ _ _;rw[HPD.o,HLEN.o,tN,tU,List.map_take,List.map_drop,HNEE.o,bH];exact bG ho6 fun g hg=>sY HWd.o.size (aD ho6 hg).1
         have HF3:Hid (Below w4.heap.size w4 u6):=HWd.o.trans (HB6.o.mono HWd.o.size);clear ho6 hg6 hat6 HA5 HN5 HA6 HPD HLEN hs1 hs2 hs3 hs4;go_wp2_with fail
         go_meet
         case rel=>exact⟨va5,vn6,rfl,rfl,HF1,HF2,HF3⟩
    ·have HNO:Hid (atG K W0 (i+1)=E):=by
      show _=_;rw[atG_no HXM.o,HE.o];unfold mL;rw[HPB.o];cases pb with
      |false=>simp
      |true =>
       have:¬x.1.k≤2:=fun h=>hlv ⟨rfl,h⟩
       have h1:¬x.1.k=1:=by omega
       have h2:¬x.1.k=2:=by omega
       simp[h1,h2]
     cases pb with
     |false =>
      clear hlv;go_wp2_with fail
      go_meet
      case rel=>exact⟨v10,v11,rfl,rfl,by rw[HNO.o];exact HOV5,by rw[HNO.o];exact HON5,HW5⟩
     |true =>
      have g2:(2:Int)<x.1.k:=by
       have:¬x.1.k≤2:=fun h=>hlv ⟨rfl,h⟩
       omega
      clear hlv;go_wp2_with fail
      go_meet
      case rel=>exact⟨v10,v11,rfl,rfl,by rw[HNO.o];exact HOV5,by rw[HNO.o];exact HON5,HW5⟩
   case rest =>
    obtain⟨v10',v11',rfl,rfl,HOV3,HON3,HW3⟩:=hcut
    clear HOV HON HW j0 HRG;go_wp2_with fail
    go_roundw
    case rel=>exact⟨i+1,v10',v11',rfl,rfl,by go_num,by have:=HLT.o;omega,HOV3,HON3,HW3⟩
    case measure=>have:=HLT.o;simp[intOf];omega
  ·have hin:i=nK:=by omega
   have HJF:Hid (atG K W0 i=atJ K W0):=by show _=_;rw[hin];unfold atJ;rw[HNK.o]
   rw[HJF.o]at HOV HON;have HV9:=Hi (bG HOV.o (base':=B) fun k hk=>sY HBL.o (aD HOV.o hk).1);have HN9:=Hi (bG HON.o (base':=B) fun k hk=>sY HBL.o (aD HON.o hk).1);have HW9:Hid (Below B w wr):=HB4.o.trans (HW.o.mono HBL.o);obtain⟨Av,cv,hvv,-,-,-⟩:=aC.of_own HV9.o
   obtain⟨An,cn,hvn,-,-,-⟩:=aC.of_own HN9.o
   subst hvv hvn;clear hin HJF HOV HON HW;go_wp2_with fail
   go_ret2;exact⟨_,_,rfl,by rw[HBB.o];exact HV9.o,by rw[HBB.o];exact HN9.o,by rw[HBB.o];exact HW9.o⟩
end Go.Proofs.YtjhkcbideddlgaaGreat
