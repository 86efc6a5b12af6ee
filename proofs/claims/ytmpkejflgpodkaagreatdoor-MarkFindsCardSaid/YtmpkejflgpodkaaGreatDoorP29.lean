/- The law MarkFinds: walked. -/
import Derived.Test.YtmpkejflgpodkaaGreatDoorP28
import Derived.Test.YtmpkejflgpodkaaGreatDoorP26
import Derived.Test.YtmpkejflgpodkaaGreatDoorP19
import Derived.Test.YtmpkejflgpodkaaGreatDoorP15
import Derived.Deep.CutBlock
set_option maxHeartbeats 16000000
set_option maxRecDepth 20000
set_option linter.unusedVariables false
set_option linter.unusedSimpArgs false
namespace Go.Proofs.YtmpkejflgpodkaaGreatDoor
open Go.ChangeShapes Go.WideShapes Go.ChangeAt Go.RowKit
def rL(K:List OpI)(o a b:Rf):List Rf:=if (cT K o 1000100 a).2&&(cT K o 1000100 b).2 then spanL K o (cT K o 1000100 a).1 (cT K o 1000100 b).1 else []
theorem spanR_is(K:List OpI)(o a b:Rf):pE K o a b=((rL K o a b).map (dO K o),if (cT K o 1000100 a).2&&(cT K o 1000100 b).2 then 0 else 6):=by
 unfold pE rL whR;cases (cT K o 1000100 a).2<;>cases (cT K o 1000100 b).2<;>simp
theorem mO(K:List OpI)(o el:Rf):(cT K o 1000100 el).1≤(dD K o 1000100).length:=by
 have:=nZ (dU K o) el (eP K o 1000100 (0,0)) 0
 unfold cT dD;omega
def spanN(ok is:Bool)(n m:Nat):Nat:=if ok&&is then m-n else 0
theorem spanE_len(K:List OpI)(o a b:Rf):(rL K o a b).length=spanN (cT K o 1000100 a).2 (cT K o 1000100 b).2 (cT K o 1000100 a).1 (cT K o 1000100 b).1:=by
 have h1:=mO K o a;have h2:=mO K o b;unfold rL spanN spanL;split
 ·rw[tD,uQ];omega
 ·rfl
theorem spanE_at{K:List OpI}{o a b:Rf}{j:Nat}(h:j<(rL K o a b).length):(rL K o a b)[j]?=(dD K o 1000100)[(cT K o 1000100 a).1+j]?:=by
 unfold rL spanL at h ⊢;split
 ·rename_i hc;rw[if_pos hc,tD]at h;rw[List.getElem?_take_of_lt (by omega),wB]
 ·rename_i hc;rw[if_neg hc]at h;cases h
theorem opsR_of{w:World}{A:Option Addr}{L:List ChD}{D:Nat→Prop}(hb:Bk L)(hr:aC D w 15 A (aH L).length (cN (aH L)))(hL:∀c∈L,ChIn D w c):OpsR D w A (aH L) where
 row:=hr
 each:=fun x hx=>by
  obtain⟨c,hc,hxc⟩:=iI.1 hx
  have h1:=(hL c hc).hp x.1 (cR hxc).2.2.2;have h2:=qT (hb.opsOk hx).1;exact⟨h1.1,by omega⟩
def BoxM(V:World)(q:Nat)(o1 o2 a1 a2 b1 b2:Int):Prop:=Blk V q 24 #[.int .i64 o1,.int .i64 o2]∧Blk V (q+1) 24 #[.int .i64 a1,.int .i64 a2]∧Blk V (q+1+1) 24 #[.int .i64 b1,.int .i64 b2]
theorem BoxM.keep{V V':World}{q:Nat}{o1 o2 a1 a2 b1 b2:Int}(h:BoxM V q o1 o2 a1 a2 b1 b2)(hk:∀k,k<q+3→V'.heap[k]?=V.heap[k]?):BoxM V' q o1 o2 a1 a2 b1 b2 :=
 ⟨h.1.keep (hk _ (by omega)),h.2.1.keep (hk _ (by omega)),h.2.2.keep (hk _ (by omega))⟩
theorem BoxM.below{V V':World}{q:Nat}{o1 o2 a1 a2 b1 b2:Int}(h:BoxM V q o1 o2 a1 a2 b1 b2)(hb:Below V.heap.size V V'):BoxM V' q o1 o2 a1 a2 b1 b2 :=
 h.keep fun k hk=>hb.block k (by have:=h.2.2.lt;omega)
def rE(La:List ChD)(o:Rf)(i:Int)(a:Rf)(e f g fr:Nat)(wid:Rf):Prop :=
 e=iG La o∧(e≠0→wid=(0,0)∧fr=0)∧(e=0→pY (dD (aH (aZ [] La).2) o 1000100) i=(wid,f)∧whR (aH (aZ [] La).2) o 1000100 a=(fr,g))
theorem rE.cur{La:List ChD}{o:Rf}{i:Int}{a:Rf}{e f g fr:Nat}{wid:Rf}(h:rE La o i a e f g fr wid):lD La o i=(wid,if e≠0 then e else f)∧oN La o a=(fr,if e≠0 then e else g):=by
 obtain⟨h1,h2,h3⟩:=h
 unfold lD oN;rw[←h1];by_cases h0:e=0
 ·have hn:¬e≠0:=fun h=>h h0
  rw[if_neg hn,if_neg hn,if_neg hn,if_neg hn];exact h3 h0
 ·have hp:e≠0:=h0;rw[if_pos hp,if_pos hp,if_pos hp,if_pos hp,(h2 h0).1,(h2 h0).2];exact⟨rfl,rfl⟩
theorem markFinds_walk(La:List ChD)(A:Option Addr)(cA:Nat)(o1 o2 i a1 a2 b1 b2:Int)(w:World)(hl:La.length≤9223372036854775807)(hL:ChsIn (fun k=>k<w.heap.size) w A La)(hw:∀c∈La,∀o∈c.ops,(Lit.int .i64 o.vn).wf=true)(ho:I64R (o1,o2))(hE:qH w):
 Calls Tryz.prog 4 #[.slice A La.length cA,.agg #[.int .i64 o1,.int .i64 o2],.int .i64 i,.agg #[.int .i64 a1,.int .i64 a2],.agg #[.int .i64 b1,.int .i64 b2]] w fun e w'=>e=.returned (.bool true)∧Below w.heap.size w w':=by
 have HL:=Hi hL;have HV:=Hi hw;have HLL:=Hi hl;have HOB:=Hi ho;have HET:=Hi hE;have hb1:Below w.heap.size w (w.alloc (.cells #[.int .i64 o1,.int .i64 o2] 24)):=(sB _ w).alloc (sC _) _;have hb2:Below w.heap.size w ((w.alloc (.cells #[.int .i64 o1,.int .i64 o2] 24)).alloc (.cells #[.int .i64 a1,.int .i64 a2] 24)):=hb1.alloc hb1.size _;have hb3:Below w.heap.size w (((w.alloc (.cells #[.int .i64 o1,.int .i64 o2] 24)).alloc (.cells #[.int .i64 a1,.int .i64 a2] 24)).alloc (.cells #[.int .i64 b1,.int .i64 b2] 24)):=hb2.alloc hb2.size _;have x1:=((Blk.new w 24 #[.int .i64 o1,.int .i64 o2]).alloc (.cells #[.int .i64 a1,.int .i64 a2] 24)).alloc (.cells #[.int .i64 b1,.int .i64 b2] 24);have x2:=(Blk.new (w.alloc (.cells #[.int .i64 o1,.int .i64 o2] 24)) 24 #[.int .i64 a1,.int .i64 a2]).alloc (.cells #[.int .i64 b1,.int .i64 b2] 24);have x3:=Blk.new ((w.alloc (.cells #[.int .i64 o1,.int .i64 o2] 24)).alloc (.cells #[.int .i64 a1,.int .i64 a2] 24)) 24 #[.int .i64 b1,.int .i64 b2];rw[World.size_alloc]at x2;rw[World.size_alloc,World.size_alloc]at x3;have HM:=Hi (show BoxM _ w.heap.size o1 o2 a1 a2 b1 b2 from⟨x1,x2,x3⟩);have C1:=sBook_any La A cA _ hl (hL.below hb3) hw;have HB:=Hi hb3;have HQ0:Hid (w.heap.size+3≤(((w.alloc (.cells #[.int .i64 o1,.int .i64 o2] 24)).alloc (.cells #[.int .i64 a1,.int .i64 a2] 24)).alloc (.cells #[.int .i64 b1,.int .i64 b2] 24)).heap.size):=by show _≤_;simp
 obtain⟨n,hn⟩:∃n,La.length=n:=⟨_,rfl⟩
 have HN:=Hi hn;rw[hn]at C1 ⊢;clear hb1 hb2 hb3 x1 x2 x3 hl hL hw ho hE hn;go_enter Tryz.func4,Tryz.ntmps4;go_upto_region 1 with fail
 generalize ((w.alloc (.cells #[.int .i64 o1,.int .i64 o2] 24)).alloc (.cells #[.int .i64 a1,.int .i64 a2] 24)).alloc (.cells #[.int .i64 b1,.int .i64 b2] 24)=w0 at HM HB HQ0 C1 ⊢;obtain⟨q,hq⟩:∃q,w.heap.size=q:=⟨_,rfl⟩
 have HQQ:=Hi hq;rw[hq]at HM HB HQ0 ⊢;clear hq;go_wp2_with fail
 go_at_call 6;refine C1.mono ?_;rintro e w1 ⟨hres,hbw⟩;have HB1:Hid (Below q w w1):=HB.o.trans (hbw.mono (by have:=HQ0.o;omega));have HM1:=Hi (HM.o.below hbw);have HQ1:Hid (q+3≤w1.heap.size):=sR HQ0.o hbw.size;clear C1 hbw HM HB HQ0;obtain⟨pv,en,rfl,hsb⟩:∃(pv:Value) (en:Nat),e=.returned (.tuple #[pv,.int .i64 en])∧(en=(aZ [] La).1∧(en=0→∃gs,pv=.pointer (some ⟨gs,0,none⟩)∧BRc w1 gs (aZ [] La).2∧Inv (aZ [] La).2 [])):=by
  rcases hres with⟨h1,gs,rfl,h2,h3⟩|⟨h1,rfl⟩
  ·exact⟨_,0,rfl,h1.symm,fun _=>⟨gs,rfl,h2,h3⟩⟩
  ·exact⟨_,(aZ [] La).1,rfl,rfl,fun h=>(h1 h).elim⟩
 have HSB:=Hi hsb;clear hsb hres;go_upto_if 44 with fail
 have HWB:=Hi (Blk.new w1 24 #[.int .i64 0,.int .i64 0]);have hba:Below w1.heap.size w1 (w1.alloc (.cells #[.int .i64 0,.int .i64 0] 24)):=(sB _ w1).alloc (sC _) _;have HB2:Hid (Below q w (w1.alloc (.cells #[.int .i64 0,.int .i64 0] 24))):=HB1.o.trans (hba.mono (by have:=HQ1.o;omega));have HM2:=Hi (HM1.o.below hba);have HBA:=Hi hba;clear hba HB1 HM1;generalize w1.alloc (.cells #[.int .i64 0,.int .i64 0] 24)=w2 at HWB HB2 HM2 HBA ⊢;obtain⟨qw,hqw⟩:∃z,w1.heap.size=z:=⟨_,rfl⟩
 have HQW:=Hi hqw;have HQ2:Hid (q+3≤qw):=by show _≤_;rw[←hqw];exact HQ1.o
 rw[hqw]at HWB ⊢;clear hqw HQ1;go_cut [12,14,15,17] (fun s12 s14 s15 s17 wc=>∃(e f g fr:Nat) (wid:Rf),s12=.int .i64 e∧s14=.int .i64 f∧s15=.int .i64 g∧s17=.int .i64 fr∧Hid (rE La (o1,o2) i (a1,a2) e f g fr wid)∧Hid (Blk wc qw 24 #[.int .i64 wid.1,.int .i64 wid.2])∧Hid (BoxM wc q o1 o2 a1 a2 b1 b2)∧Hid (Below q w wc)∧Hid (q+3≤wc.heap.size))
 case first =>
  by_cases h0:en=0
  ·obtain⟨gs,rfl,hbr,hinv⟩:=HSB.o.2 h0
   subst h0;have HP0:Hid ((aZ [] La).1=0):=HSB.o.1.symm;have HIV:=Hi hinv;obtain⟨L,hLL⟩:∃L,(aZ [] La).2=L:=⟨_,rfl⟩
   have HLE:=Hi hLL;rw[hLL]at hbr HIV;obtain⟨AL,cL,VW,hblk,hin,hc1,hc2⟩:=hbr
   have hll:L.length≤120:=by have:=HIV.o.most;simpa using this
   have HCI:Hid (∀c∈L,ChIn (fun k=>k<w1.heap.size) w1 c):=hin.each;have C2:=sState_any L AL cL w2 (hin.below HBA.o) (fun c hc=>fS (HIV.o.bk.err c hc).1) hll hc1 hc2;have g0:w2.cell? ⟨gs,0,none⟩=some (.slice AL L.length cL):=(sM (HBA.o.block _ hblk.lt)).trans (hblk.cell 0);clear hLL hinv hblk hin hc1 hc2 HSB;go_wp2_with fail
   go_at_call 7;refine C2.mono ?_;rintro e w3 ⟨v3,rfl,ho3,hb3⟩;have HWL:=Hi HWB.o.lt;have HB3:Hid (Below q w w3):=HB2.o.trans (hb3.mono (by have:=HWL.o;have:=HQ2.o;omega));have HM3:=Hi (HM2.o.below hb3);have HW3:=Hi (HWB.o.keep (hb3.block _ HWB.o.lt));have HS3:Hid (qw<w3.heap.size):=sE HWL.o hb3.size;obtain⟨A3,c3,rfl,-,-,hr3⟩:=aC.of_own ho3
   have HOR:Hid (OpsR (fun k=>k<w3.heap.size∧k≠qw) w3 A3 (aH L)):=opsR_of HIV.o.bk (hr3.more fun k hk=>⟨(aF ho3 hk).2,by have h1:=(aF ho3 hk).1;have h2:=HWL.o;omega⟩)
    (fun c hc=>((HCI.o c hc).keep fun k hk=>(hb3.block k (sE hk HBA.o.size)).trans (HBA.o.block k hk)).more fun k hk=>⟨by have h1:=HQW.o;have h2:=HS3.o;omega,by have h1:=HQW.o;omega⟩)
   clear C2 ho3 hb3 hr3 g0 HB2 HM2 HWB HCI HBA HWL;obtain⟨nK,hnK⟩:∃n,(aH L).length=n:=⟨_,rfl⟩
   have HNK:=Hi hnK;have hKl:nK≤4800:=by have:=HIV.o.bk.lenOps;omega
   rw[hnK];go_upto_region 10 with fail
   have hba:Below w3.heap.size w3 (w3.alloc (.cells #[.slice A3 nK c3] 31)):=(sB _ w3).alloc (sC _) _;have HJ:=Hi (Blk.new w3 31 #[.slice A3 nK c3]);have HB4:Hid (Below q w (w3.alloc (.cells #[.slice A3 nK c3] 31))):=HB3.o.trans (hba.mono (by have:=HS3.o;have:=HQ2.o;omega));have HM4:=Hi (HM3.o.below hba);have HW4:=Hi (HW3.o.keep (hba.block _ HW3.o.lt));have HOR4:Hid (OpsR (fun k=>k<(w3.alloc (.cells #[.slice A3 nK c3] 31)).heap.size∧k≠qw) (w3.alloc (.cells #[.slice A3 nK c3] 31)) A3 (aH L)):=(HOR.o.keep fun k hk=>hba.block k hk.1).more fun k hk=>⟨sE hk.1 hba.size,hk.2⟩
   have HS4:Hid (w3.heap.size<(w3.alloc (.cells #[.slice A3 nK c3] 31)).heap.size):=HJ.o.lt;clear hba HB3 HM3 HW3 HOR hnK;generalize w3.alloc (.cells #[.slice A3 nK c3] 31)=w4 at HJ HB4 HM4 HW4 HOR4 HS4 ⊢;obtain⟨qj,hqj⟩:∃z,w3.heap.size=z:=⟨_,rfl⟩
   rw[hqj]at HJ HS3 HS4 ⊢;clear hqj;have HT:Hid (KTree (aH L) 1000100):=HIV.o.bk.tree;have HWF:Hid (∀x∈aH L,IntKind.i64.wrap x.1.vn=x.1.vn):=fun x hx=>wrap_wf (HIV.o.bk.opsOk hx).2
   have HKD:Hid (∀x∈aH L,1≤x.1.k):=fun x hx=>(mR (HIV.o.bk.opsOk hx).1).1
   have C3:=sKind_any (aH L) o1 o2 A3 c3 w4 (HOR4.o.row.more fun k hk=>hk.1) (by rw[HNK.o];omega);obtain⟨kd,hkd⟩:∃kd,dG (aH L) (o1,o2)=kd:=⟨_,rfl⟩
   have HKDE:=Hi hkd;rw[hkd,HNK.o]at C3;have j0:=cZ HJ.o 0 rfl;have q0:=cZ HM4.o.1 0 rfl;have q1:=cZ HM4.o.1 1 rfl
   clear hkd;go_wp2_with fail
   go_at_call 8;refine C3.mono ?_;rintro e w5 ⟨rfl,hb5⟩;have HJ5:=Hi (HJ.o.keep (hb5.block _ HJ.o.lt));have HB5:Hid (Below q w w5):=HB4.o.trans (hb5.mono (by have:=HS4.o;have:=HS3.o;have:=HQ2.o;omega));have HM5:=Hi (HM4.o.below hb5);have HW5:=Hi (HW4.o.keep (hb5.block _ HW4.o.lt));have HOR5:Hid (OpsR (fun k=>k<w5.heap.size∧k≠qw) w5 A3 (aH L)):=(HOR4.o.keep fun k hk=>hb5.block k hk.1).more fun k hk=>⟨sE hk.1 hb5.size,hk.2⟩
   have HS5:Hid (qj<w5.heap.size):=sE HS4.o hb5.size;clear C3 hb5 j0 q0 q1 HJ HB4 HM4 HW4 HOR4 HS4;by_cases h6:kd=6
   case neg =>
    have HWT:Hid (rE La (o1,o2) i (a1,a2) 6 0 0 0 (0,0)):=⟨by unfold iG;rw[if_neg (fun h=>h HP0.o),HLE.o,HKDE.o,if_pos h6],fun _=>⟨rfl,rfl⟩,fun h=>by cases h⟩;have e1:(kd != 6)=true:=by simp[h6]
    have HS5q:Hid (q+3≤w5.heap.size):=by have:=HS5.o;have:=HS3.o;have:=HQ2.o;show _≤_;omega
    clear h6;go_wp2_with fail
    go_meet
    case rel=>exact⟨6,0,0,0,(0,0),rfl,rfl,rfl,rfl,HWT,HW5,HM5,HB5,HS5q⟩
   case pos =>
    have HBK:Hid (iG La (o1,o2)=0):=by show _=_;unfold iG;rw[if_neg (fun h=>h HP0.o),HLE.o,HKDE.o,if_neg (fun h=>h h6)]
    have C4:=sSeen_any HT.o o1 o2 A3 c3 1000101 w5 (HOR5.o.more fun k hk=>hk.1) (by rw[HNK.o];omega) (by omega) HWF.o HKD.o;rw[HNK.o]at C4;obtain⟨T,hT⟩:∃T,dD (aH L) (o1,o2) 1000100=T:=⟨_,rfl⟩
    have HTE:=Hi hT;rw[hT]at C4;have e1:(kd != 6)=false:=by simp[h6]
    have j0:=cZ HJ5.o 0 rfl;have q0:=cZ HM5.o.1 0 rfl;have q1:=cZ HM5.o.1 1 rfl
    clear hT h6;go_wp2_with fail
    go_at_call 13;refine C4.mono ?_;rintro e w6 ⟨v6,rfl,ho6,hb6⟩;obtain⟨nT,hnT⟩:∃n,T.length=n:=⟨_,rfl⟩
    have HNT:=Hi hnT;rw[hnT]at ho6;obtain⟨A6,c6,rfl,hc6,hc6',hr6⟩:=aC.of_own ho6
    have HNT2:Hid (nT≤4801):=by
     have h1:=seen_len HIV.o.bk hll (o1,o2);rw[HTE.o,hnT]at h1;exact h1
    have HRT:Hid (aC (fun k=>k<w6.heap.size∧k≠qw) w6 2 A6 nT (aE T)):=hr6.more fun k hk=>⟨(aF ho6 hk).2,by have h1:=(aF ho6 hk).1;have h2:=HS5.o;have h3:=HS3.o;omega⟩
    have HJ6:=Hi (HJ5.o.keep (hb6.block _ HJ5.o.lt));have HB6:Hid (Below q w w6):=HB5.o.trans (hb6.mono (by have:=HS5.o;have:=HS3.o;have:=HQ2.o;omega));have HM6:=Hi (HM5.o.below hb6);have HW6:=Hi (HW5.o.keep (hb6.block _ HW5.o.lt));have HOR6:Hid (OpsR (fun k=>k<w6.heap.size∧k≠qw) w6 A3 (aH L)):=(HOR5.o.keep fun k hk=>hb6.block k hk.1).more fun k hk=>⟨sE hk.1 hb6.size,hk.2⟩
    have HS6:Hid (qj<w6.heap.size):=sE HS5.o hb6.size;clear C4 hb6 ho6 hr6 hc6 hc6' hnT j0 q0 q1 e1 HJ5 HB5 HM5 HW5 HOR5 HS5;go_upto_region 14 with fail
    go_cut [65] (fun s65 wc=>∃b:Bool,s65=.bool b∧Hid (b=decide (i<0∨(nT:Int)<i))∧w6=wc)
    case first =>
     by_cases hneg:i<0
     ·have HBB:Hid (true=decide (i<0∨(nT:Int)<i)):=(decide_eq_true (.inl hneg)).symm;go_wp2_with fail
      go_meet
      case rel=>exact⟨true,rfl,HBB,rfl⟩
     ·by_cases hbig:(nT:Int)<i
      ·have HBB:Hid (true=decide (i<0∨(nT:Int)<i)):=(decide_eq_true (.inr hbig)).symm;go_wp2_with fail
       go_meet
       case rel=>exact⟨true,rfl,HBB,rfl⟩
      ·have HBB:Hid (false=decide (i<0∨(nT:Int)<i)):=(decide_eq_false (fun h=>h.elim hneg hbig)).symm;go_wp2_with fail
       go_meet
       case rel=>exact⟨false,rfl,HBB,rfl⟩
    case rest =>
     obtain⟨b,rfl,HBB,rfl⟩:=hcut
     go_upto_if 65 with fail
     go_cut [14] (fun s14 wc=>∃f:Nat,s14=.int .i64 f∧Hid (f=(pY T i).2)∧Hid (Blk wc qw 24 #[.int .i64 (pY T i).1.1,.int .i64 (pY T i).1.2])∧Hid (Chg (fun k=>k=qw) w6 wc))
     case first =>
      cases b with
      |true =>
       have HC:Hid (pY T i=((0,0),1)):=if_pos (by rw[HNT.o];exact of_decide_eq_true HBB.o.symm);go_wp2_with fail
       go_meet
       case rel =>
        rw[HC.o];exact⟨1,rfl,Hi rfl,HW6,Hi (Chg.refl _)⟩
      |false =>
       have hcond:=of_decide_eq_false HBB.o.symm;obtain⟨k,hki⟩:∃k:Nat,i=k:=⟨i.toNat,by omega⟩
       have HC:Hid (pY T i=(T.getD k (0,0),0)):=by show _=_;rw[hki];exact if_neg (by rw[HNT.o,←hki];exact hcond)
       by_cases hlt:k<nT
       ·obtain⟨⟨t1,t2⟩,ht⟩:∃r,T[k]?=some r:=⟨_,sD (by rw[HNT.o];omega)⟩
        have HC2:Hid (T.getD k (0,0)=(t1,t2)):=by show _=_;rw[wH,ht];rfl
        obtain⟨tb,tf,rfl,htb,hcT⟩:=HRT.o.at_ (by omega) (by omega)
        have z1:w6.cell? ⟨tb,tf+k*2,none⟩=some (.int .i64 t1):=hcT _ _ (aL ht).1;have z2:w6.cell? ⟨tb,tf+k*2+1,none⟩=some (.int .i64 t2):=by have:=hcT _ _ (aL ht).2;rw[←tL]at this;exact this
        have r0:=cZ HW6.o 0 rfl;have r1:=cZ HW6.o 1 rfl
        have f0:=HW6.o.frozen 0;have f1:=HW6.o.frozen 1;have HFIN:Hid (Blk ((w6.setCell ⟨qw,0,none⟩ (.int .i64 t1)).setCell ⟨qw,1,none⟩ (.int .i64 t2)) qw 24 #[.int .i64 t1,.int .i64 t2]):=(HW6.o.set_ 0 (.int .i64 t1)).set_ 1 (.int .i64 t2);have HCH:Hid (Chg (fun k=>k=qw) w6 ((w6.setCell ⟨qw,0,none⟩ (.int .i64 t1)).setCell ⟨qw,1,none⟩ (.int .i64 t2))):=((Chg.refl (M:=fun k=>k=qw) w6).setCell (p:=⟨qw,0,none⟩) (.inl rfl) _).setCell (p:=⟨qw,1,none⟩) (.inl rfl) _;clear hcT ht htb hcond;subst hki;go_wp2_with fail
        go_meet
        case rel =>
         rw[HC.o,HC2.o];exact⟨0,rfl,Hi rfl,HFIN,HCH⟩
       ·have HC2:Hid (T.getD k (0,0)=(0,0)):=by show _=_;rw[wH,uF (by rw[HNT.o];omega)];rfl
        clear hcond;subst hki;go_wp2_with fail
        go_meet
        case rel =>
         rw[HC.o,HC2.o];exact⟨0,rfl,Hi rfl,HW6,Hi (Chg.refl _)⟩
     case rest =>
      obtain⟨f,rfl,HF,HW7,HC7⟩:=hcut
      rename World=>w7;have HM7:=Hi (HM6.o.keep fun k hk=>HC7.o.block k (by have:=HS6.o;have:=HS3.o;have:=HQ2.o;omega) (by have:=HQ2.o;omega));have HOR7:Hid (OpsR (fun k=>k<w7.heap.size) w7 A3 (aH L)):=(HOR6.o.keep (HC7.o.keeps fun k hk=>⟨hk.1,hk.2⟩)).more fun k hk=>sE hk.1 HC7.o.size
      have HRT7:Hid (aC (fun k=>k<w7.heap.size) w7 2 A6 nT (aE T)):=(HRT.o.keep (HC7.o.keeps fun k hk=>⟨hk.1,hk.2⟩)).more fun k hk=>sE hk.1 HC7.o.size
      have HJ7:=Hi (HJ6.o.keep (HC7.o.block _ HJ6.o.lt (by have:=HS3.o;omega)));have HB7:Hid (Below q w w7):=HB6.o.trans (HC7.o.below (by have:=HS6.o;have:=HS3.o;have:=HQ2.o;omega) fun k hk=>by rw[hk];have:=HQ2.o;omega);have HS7:Hid (qj<w7.heap.size):=sE HS6.o HC7.o.size;clear HM6 HOR6 HRT HJ6 HB6 HS6 HW6 HC7 HBB;have C5:=sWhere_any HT.o o1 o2 a1 a2 A3 c3 1000101 w7 HOR7.o (by rw[HNK.o];omega) (by omega) HWF.o HKD.o;obtain⟨⟨x,ok⟩,hwa⟩:∃r,cT (aH L) (o1,o2) 1000100 (a1,a2)=r:=⟨_,rfl⟩
      have HWA:=Hi hwa;rw[HNK.o,hwa]at C5;have j0:=cZ HJ7.o 0 rfl;have q0:=cZ HM7.o.1 0 rfl;have q1:=cZ HM7.o.1 1 rfl
      have q2:=cZ HM7.o.2.1 0 rfl;have q3:=cZ HM7.o.2.1 1 rfl
      clear hwa;go_wp2_with fail
      go_at_call 14;refine C5.mono ?_;rintro e w8 ⟨rfl,hb8⟩;have HM8:=Hi (HM7.o.below hb8);have HOR8:=Hi (HOR7.o.below hb8);have HRT8:=Hi (aA HRT7.o hb8);have HJ8:=Hi (HJ7.o.keep (hb8.block _ HJ7.o.lt));have HW8:=Hi (HW7.o.keep (hb8.block _ HW7.o.lt));have HB8:Hid (Below q w w8):=HB7.o.trans (hb8.mono (by have:=HS7.o;have:=HS3.o;have:=HQ2.o;omega));have HS8:Hid (qj<w8.heap.size):=sE HS7.o hb8.size;clear hb8 C5 j0 q0 q1 q2 q3 HM7 HOR7 HRT7 HJ7 HW7 HB7 HS7;have C6:=sWhere_any HT.o o1 o2 b1 b2 A3 c3 1000101 w8 HOR8.o (by rw[HNK.o];omega) (by omega) HWF.o HKD.o;obtain⟨⟨y,is⟩,hwb⟩:∃r,cT (aH L) (o1,o2) 1000100 (b1,b2)=r:=⟨_,rfl⟩
      have HWBB:=Hi hwb;rw[HNK.o,hwb]at C6;have j0:=cZ HJ8.o 0 rfl;have q0:=cZ HM8.o.1 0 rfl;have q1:=cZ HM8.o.1 1 rfl
      have q2:=cZ HM8.o.2.2 0 rfl;have q3:=cZ HM8.o.2.2 1 rfl
      clear hwb;go_wp2_with fail
      go_at_call 14;refine C6.mono ?_;rintro e w9 ⟨rfl,hb9⟩;have HM9:=Hi (HM8.o.below hb9);have HOR9:=Hi (HOR8.o.below hb9);have HRT9:=Hi (aA HRT8.o hb9);have HJ9:=Hi (HJ8.o.keep (hb9.block _ HJ8.o.lt));have HW9:=Hi (HW8.o.keep (hb9.block _ HW8.o.lt));have HB9:Hid (Below q w w9):=HB8.o.trans (hb9.mono (by have:=HS8.o;have:=HS3.o;have:=HQ2.o;omega));have HS9:Hid (qj<w9.heap.size):=sE HS8.o hb9.size;clear hb9 C6 j0 q0 q1 q2 q3 HM8 HOR8 HRT8 HJ8 HW8 HB8 HS8;go_upto_if 88 with fail
      go_cut [15,17] (fun s15 s17 wc=>∃g fr:Nat,s15=.int .i64 g∧s17=.int .i64 fr∧Hid (whR (aH L) (o1,o2) 1000100 (a1,a2)=(fr,g))∧w9=wc)
      case first =>
       cases ok with
       |true =>
        have HG:Hid (whR (aH L) (o1,o2) 1000100 (a1,a2)=(x,0)):=by show _=_;unfold whR;rw[HWA.o];rfl
        go_wp2_with fail
        go_meet
        case rel=>exact⟨0,x,rfl,rfl,HG,rfl⟩
       |false =>
        have HG:Hid (whR (aH L) (o1,o2) 1000100 (a1,a2)=(0,6)):=by show _=_;unfold whR;rw[HWA.o];rfl
        go_wp2_with fail
        go_meet
        case rel=>exact⟨6,0,rfl,rfl,HG,rfl⟩
      case rest =>
       obtain⟨g,fr,rfl,rfl,HG,rfl⟩:=hcut
       obtain⟨E,hE⟩:∃E,rL (aH L) (o1,o2) (a1,a2) (b1,b2)=E:=⟨_,rfl⟩
       have HEE:=Hi hE;obtain⟨nE,hnE⟩:∃n,E.length=n:=⟨_,rfl⟩
       have HNE:=Hi hnE;have HEN:Hid (nE=spanN ok is x y):=by show _=_;rw[←hnE,←hE,spanE_len,HWA.o,HWBB.o]
       have HAT:Hid (∀j,j<nE→E[j]?=T[x+j]?):=fun j hj=>by
        have h1:=spanE_at (K:=aH L) (o:=(o1,o2)) (a:=(a1,a2)) (b:=(b1,b2)) (j:=j) (by rw[hE,hnE];exact hj);rw[hE,HTE.o,HWA.o]at h1;exact h1
       have HY:Hid (x≤nT∧y≤nT):=by
        have h1:=mO (aH L) (o1,o2) (a1,a2);have h2:=mO (aH L) (o1,o2) (b1,b2);rw[HTE.o,HNT.o]at h1 h2;rw[HWA.o]at h1;rw[HWBB.o]at h2;exact⟨h1,h2⟩
       have HLIVE:Hid (∀r∈T,∃e l,atJ (aH L) ((o1,o2),⟨#[]⟩,r)=e::l∧dO (aH L) (o1,o2) r=e.2):=fun r hr=>seen_live (by rw[HTE.o];exact hr)
       clear hE hnE;go_upto_block 0 with fail
       go_cut [18] (fun s18 wc=>∃(Ae:Option Addr) (ce:Nat),s18=.slice Ae nE ce∧Hid (aC (fun k=>k<wc.heap.size) wc 5 Ae nE (bH (E.map (dO (aH L) (o1,o2)))))∧Hid (Below w9.heap.size w9 wc))
       case first =>
        go_upto_region 24 with fail
        go_loopw [18,25,26,27] (fun s18 s25 _ _ wr=>∃(j ix:Nat) (v:Value),v=s18∧s25=.int .i64 ix∧ix=x+j∧j≤nE∧Hid (wr.ownsRow w9.heap.size 50 5 v j (bH ((E.take j).map (dO (aH L) (o1,o2)))))∧Hid (Below w9.heap.size w9 wr)) (fun _ s25 _ _ _=>x+nE-(intOf s25).toNat)
        case atStart=>exact⟨0,x,_,rfl,rfl,rfl,vI _,bT _ _ _ _,sB _ _⟩
        case round =>
         obtain⟨j,ix,v,rfl,rfl,hix,hj,HO,HW⟩:=hrel
         by_cases hlt:j<nE
         ·obtain⟨rfl,rfl,hxy⟩:ok=true∧is=true∧x+j<y:=by
           have h1:=HEN.o;unfold spanN at h1;split at h1
           ·rename_i hc;rw[tB]at hc;exact⟨hc.1,hc.2,by omega⟩
           ·omega
          have HLT:=Hi hlt;obtain⟨⟨r1,r2⟩,hr⟩:∃r,T[ix]?=some r:=⟨_,sD (by rw[HNT.o];have:=HY.o.2;omega)⟩
          have HRJ:Hid (E[j]?=some (r1,r2)):=(HAT.o j hlt).trans (by rw[←hix];exact hr);have HRM:=Hi (sJ hr);have hxn:ix<nT:=by have:=HY.o.2;omega
          have hiy:ix<y:=by omega
          have HIX:=Hi hix;obtain⟨bs,os,rfl,-,hc1⟩:=(aA HRT9.o HW.o).at_ (by omega) (by omega)
          have z1:wr.cell? ⟨bs,os+ix*2,none⟩=some (.int .i64 r1):=hc1 _ _ (aL hr).1;have z2:wr.cell? ⟨bs,os+ix*2+1,none⟩=some (.int .i64 r2):=by have:=hc1 _ _ (aL hr).2;rw[←tL]at this;exact this
          have HZ:Hid (∀V,Below wr.heap.size wr V→V.cell? ⟨bs,os+ix*2,none⟩=some (.int .i64 r1)∧V.cell? ⟨bs,os+ix*2+1,none⟩=some (.int .i64 r2)):=fun V hv=>⟨(hv.cell (wD wr _ z1)).trans z1,(hv.cell (wD wr _ z2)).trans z2⟩
          have j0:=cZ (HJ9.o.keep (HW.o.block _ HJ9.o.lt)) 0 rfl;have q0:=cZ (HM9.o.1.keep (HW.o.block _ HM9.o.1.lt)) 0 rfl;have q1:=cZ (HM9.o.1.keep (HW.o.block _ HM9.o.1.lt)) 1 rfl
          have C2:=sAt_any (aH L) o1 o2 ⟨#[]⟩ r1 r2 A3 c3 wr.drew (HOR9.o.below (HW.o.drew)) (by rw[HNK.o];omega) HWF.o HKD.o;obtain⟨ev,lv,hev,hfv⟩:=HLIVE.o _ HRM.o
          rw[hev,HNK.o]at C2;obtain⟨⟨u1,u2⟩,vd⟩:=ev
          have HFV:Hid (dO (aH L) (o1,o2) (r1,r2)=vd):=hfv;have KS:∀V,Below wr.drew.heap.size wr.drew V→V.cell? ⟨qj,0,none⟩=some (.slice A3 nK c3)∧V.cell? ⟨q,0,none⟩=some (.int .i64 o1)∧V.cell? ⟨q,1,none⟩=some (.int .i64 o2)∧V.cell? ⟨bs,os+ix*2,none⟩=some (.int .i64 r1)∧V.cell? ⟨bs,os+ix*2+1,none⟩=some (.int .i64 r2):=fun V hv=>by
           have hw:Below w9.heap.size w9 V:=HW.o.drew.trans (hv.mono HW.o.size);exact⟨(HJ9.o.keep (hw.block _ HJ9.o.lt)).cell 0,(HM9.o.1.keep (hw.block _ HM9.o.1.lt)).cell 0,(HM9.o.1.keep (hw.block _ HM9.o.1.lt)).cell 1,HZ.o V ((sB _ wr).drew.trans hv)⟩
          clear hr hc1 hev hfv hix;go_upto_region 26 with fail
          go_region_held3 (fun w'=>w'.cell? ⟨qj,0,none⟩=some (.slice A3 nK c3)∧w'.cell? ⟨q,0,none⟩=some (.int .i64 o1)∧w'.cell? ⟨q,1,none⟩=some (.int .i64 o2)∧w'.cell? ⟨bs,os+ix*2,none⟩=some (.int .i64 r1)∧w'.cell? ⟨bs,os+ix*2+1,none⟩=some (.int .i64 r2)) (first|exact⟨j0,q0,q1,z1,z2⟩|exact KS _ (by assumption)) (first|(go_at_call 15;refine C2.mono ?_;rintro e wa ⟨v4,n4,rfl,ho4,-,hb4⟩))
          clear j0 q0 q1 z1 z2 KS;obtain⟨A4,c4,rfl,-,-,hr4⟩:=aC.of_own ho4
          obtain⟨vb,vo,rfl,-,y0,y1,y2,y3,y4⟩:=jT hr4 (by simp) (k:=0) (v:=vd) rfl
          rw[xW,xP]at y0 y1 y2 y3 y4;have hb5:Below wr.heap.size wr wa:=(sB _ wr).drew.trans hb4;have HO2:=Hi (aS HO.o hb5);have HW2:Hid (Below w9.heap.size w9 wa):=HW.o.trans (hb5.mono HW.o.size);obtain⟨Av,cv,rfl,-,-,-⟩:=aC.of_own HO2.o
          have hjm:j+1≤4801:=by have:=HNT2.o;have:=HIX.o;have:=HY.o.2;omega
          have HJM:=Hi hjm;clear C2 ho4 hb4 hb5 hr4 HO HW HZ hjm;obtain⟨i0,hi,hz0,hz1,hz2⟩:=info_parts pS
          go_wp2_with (at_builtin;refine aG _ rfl (.tmp 112) (.tmp 116) _ rfl (w9.heap.size) 50 i0 _ 5 48 Tryz.underlying44 hi hz0 hz1 hz2 rfl (by omega) (.slice Av j cv) (j) (bH ((E.take j).map (dO (aH L) (o1,o2)))) rfl (HO2.o.alloc _) _ (some ⟨wa.heap.size,0,none⟩) (1) (1) ([.int .i64 vd.k,.int .i64 vd.n,.string vd.t,.int .i64 vd.a,.int .i64 vd.b]) rfl ((cJ (by exact Blk.new wa _ #[.int .i64 vd.k,.int .i64 vd.n,.string vd.t,.int .i64 vd.a,.int .i64 vd.b]) (n:=5) rfl)) ((hX [vd])) ?c1 ?c2 ?c3 ?_)
          try case c1=>have:=HJM.o;simp only[maxLen];omega
          try case c2=>have:=HJM.o;omega
          try case c3=>simp only[World.size_alloc];have:=HW2.o.size;omega
          intro v7 w7 ho7 hg7 _;have HW7:Hid (Below w9.heap.size w9 w7):=(HW2.o.alloc HW2.o.size _).grown hg7 (by simp only[World.size_alloc];have:=HW2.o.size;omega) (fun g hg=>(aF HO2.o hg).1);have HO7:Hid (w7.ownsRow w9.heap.size 50 5 v7 (j+1) (bH ((E.take (j+1)).map (dO (aH L) (o1,o2))))):=by
           show World.ownsRow _ _ _ _ _ _ _;rw[sS,HRJ.o,uM,sQ,sT,vM,HFV.o,gP];simpa[bH,mZ] using ho7
          clear ho7 hg7 HO2 HW2 y0 y1 y2 y3 y4;have hxm:ix+1≤4801:=by have:=HNT2.o;omega
          go_wp2_with fail
          go_roundw
          case rel=>exact⟨j+1,ix+1,v7,rfl,by go_num,by have:=HIX.o;omega,by have:=HLT.o;omega,HO7,HW7⟩
          case measure=>have:=HLT.o;have:=HIX.o;simp[intOf];omega
         ·have hje:j=nE:=by omega
          subst hje;have HIX:=Hi hix;have HEJ:Hid (E.take j=E):=sL (Nat.le_of_eq HNE.o);obtain⟨Av,cv,rfl,-,-,hrv⟩:=aC.of_own HO.o
          have HRV:Hid (aC (fun k=>k<wr.heap.size) wr 5 Av j (bH (E.map (dO (aH L) (o1,o2))))):=by
           have h1:=hrv.more (D':=fun k=>k<wr.heap.size) fun k hk=>(aF HO.o hk).2
           rw[HEJ.o]at h1;exact h1
          clear hrv hlt hix;cases ok with
          |false =>
           go_wp2_with fail
           go_meet
           case rel=>exact⟨Av,cv,rfl,HRV,HW⟩
          |true =>
           cases is with
           |false =>
            go_wp2_with fail
            go_meet
            case rel=>exact⟨Av,cv,rfl,HRV,HW⟩
           |true =>
            have hge:¬ix<y:=by
             have h1:=HEN.o;have h2:=HIX.o;unfold spanN at h1;simp only[Bool.and_true,if_true]at h1;omega
            go_wp2_with fail
            go_meet
            case rel=>exact⟨Av,cv,rfl,HRV,HW⟩
       case rest =>
        obtain⟨Ae,ce,rfl,HRE,HWE⟩:=hcut
        rename World=>w10;have HM10:=Hi (HM9.o.below HWE.o);have HW10:=Hi (HW9.o.keep (HWE.o.block _ HW9.o.lt));have HB10:Hid (Below q w w10):=HB9.o.trans (HWE.o.mono (by have:=HS9.o;have:=HS3.o;have:=HQ2.o;omega));have HS10:Hid (q+3≤w10.heap.size):=by have:=HS9.o;have:=HS3.o;have:=HQ2.o;have:=HWE.o.size;show _≤_;omega
        clear HM9 HOR9 HRT9 HJ9 HW9 HB9 HS9 HWE;go_upto_if 119 with fail
        go_cut [18] (fun s18 wc=>∃(Ae:Option Addr) (ce:Nat),s18=.slice Ae nE ce∧Hid (aC (fun k=>k<wc.heap.size) wc 5 Ae nE (bH (E.map (dO (aH L) (o1,o2)))))∧w10=wc)
        case first =>
         cases is with
         |true =>
          go_wp2_with fail
          go_meet
          case rel=>exact⟨Ae,ce,rfl,HRE,rfl⟩
         |false =>
          have HZ:Hid (nE=0):=by show _=_;rw[HEN.o];unfold spanN;rw[yD];rfl
          go_wp2_with fail
          go_meet
          case rel =>
           have hE0:E=[]:=tV.1 (HNE.o.trans HZ.o);exact⟨none,0,by rw[HZ.o],(by show aC _ _ _ _ _ _;rw[HZ.o,hE0];exact aC.none_),rfl⟩
        case rest =>
         clear HRE;obtain⟨As,cs,rfl,HRE,rfl⟩:=hcut
         obtain⟨bo,hbo⟩:∃bo:Nat,(if ok&&is then 0 else 6)=bo:=⟨_,rfl⟩
         have HBO:=Hi hbo;have C7:=markSpan_any La o1 o2 a1 a2 b1 b2 A cA w10 HLL.o (by
          have h:=HB10.o;rw[←HQQ.o]at h;exact HL.o.below h) HV.o HOB.o
         have hsp:lB La (o1,o2) (a1,a2) (b1,b2)=(E.map (dO (aH L) (o1,o2)),bo):=by
          unfold lB;rw[if_neg (fun h=>h HBK.o),HLE.o,spanR_is,HEE.o,HWA.o,HWBB.o,←hbo]
         rw[hsp,HN.o]at C7;simp only[sP]at C7;rw[HNE.o]at C7;have q0:=cZ HM10.o.1 0 rfl;have q1:=cZ HM10.o.1 1 rfl
         have q2:=cZ HM10.o.2.1 0 rfl;have q3:=cZ HM10.o.2.1 1 rfl
         have q4:=cZ HM10.o.2.2 0 rfl;have q5:=cZ HM10.o.2.2 1 rfl
         clear hsp hbo;go_wp2_with fail
         go_at_call 16;refine C7.mono ?_;rintro e w11 ⟨Ay,cy,rfl,hry,hb11⟩;have HM11:=Hi (HM10.o.below hb11);have HW11:=Hi (HW10.o.keep (hb11.block _ HW10.o.lt));have HB11:Hid (Below q w w11):=HB10.o.trans (hb11.mono (by have:=HS10.o;omega));have HS11:Hid (q+3≤w11.heap.size):=sR HS10.o hb11.size;have HRE11:=Hi (aA HRE.o hb11);have HRY:=Hi hry;clear C7 hry hb11 q0 q1 q2 q3 q4 q5 HM10 HW10 HB10 HS10 HRE;go_upto_if 130 with fail
         go_cut [30] (fun s30 wc=>s30=.int .i64 (bo:Int)∧w11=wc)
         case first =>
          cases is with
          |true =>
           have HGB:Hid (g=bo):=by
            have h1:=HG.o;unfold whR at h1;rw[HWA.o]at h1;show _=_;rw[←HBO.o];have h2:=congrArg Prod.snd h1;clear h1;cases ok with
            |true=>exact h2.symm
            |false=>exact h2.symm
           go_wp2_with fail
           go_meet
           case rel=>exact⟨by rw[HGB.o],rfl⟩
          |false =>
           have HGB:Hid (bo=6):=by
            show _=_;rw[←HBO.o,yD];rfl
           go_wp2_with fail
           go_meet
           case rel=>exact⟨by rw[HGB.o];rfl,rfl⟩
         case rest =>
          obtain⟨rfl,rfl⟩:=hcut
          have C8:=qJ bo w11 (HET.o.keep (by have h:=HB11.o;rw[←HQQ.o]at h;exact h));go_wp2_with fail
          go_at_call 11;refine C8.mono ?_;rintro e w12 ⟨rfl,hb12⟩;have HM12:=Hi (HM11.o.below hb12);have HW12:=Hi (HW11.o.keep (hb12.block _ HW11.o.lt));have HB12:Hid (Below q w w12):=HB11.o.trans (hb12.mono (by have:=HS11.o;omega));have HS12:Hid (q+3≤w12.heap.size):=sR HS11.o hb12.size;have C9:=sameVals_any (E.map (dO (aH L) (o1,o2))) (E.map (dO (aH L) (o1,o2))) _ _ Ay As cy cs w12 (by have h:=aA HRY.o hb12;rw[sP,HNE.o];exact h) (by have h:=aA HRE11.o hb12;rw[sP,HNE.o];exact h) (by
           rw[sP,HNE.o,HEN.o];have h1:=HNT2.o;have h2:=HY.o;unfold spanN;split<;>omega)
          rw[sP,HNE.o]at C9;clear C8 hb12 HM11 HW11 HB11 HS11 HRY HRE11;go_wp2_with fail
          go_at_call 17;refine C9.mono ?_;rintro e w13 ⟨bb,rfl,hbb,m13,rfl⟩;obtain rfl:bb=true:=hbb.2 (by first|trivial|rfl);have HWT:Hid (rE La (o1,o2) i (a1,a2) 0 f g fr (pY T i).1):=⟨HBK.o.symm,fun h=>(h rfl).elim,fun _=>⟨by rw[HLE.o,HTE.o,HF.o],by rw[HLE.o];exact HG.o⟩⟩;have HM13:Hid (BoxM (w12.drewN m13) q o1 o2 a1 a2 b1 b2):=HM12.o;have HW13:Hid (Blk (w12.drewN m13) qw 24 #[.int .i64 (pY T i).1.1,.int .i64 (pY T i).1.2]):=HW12.o;have HB13:Hid (Below q w (w12.drewN m13)):=aJ HB12.o m13;have HS13:Hid (q+3≤(w12.drewN m13).heap.size):=HS12.o;clear C9 hbb HM12 HW12 HB12 HS12;generalize w12.drewN m13=w14 at HM13 HW13 HB13 HS13 ⊢;go_wp2_with fail
          go_meet
          case rel=>exact⟨0,f,g,fr,_,rfl,rfl,rfl,rfl,HWT,HW13,HM13,HB13,HS13⟩
  ·have HWT:Hid (rE La (o1,o2) i (a1,a2) en 0 0 0 (0,0)):=⟨by unfold iG;rw[if_pos (by rw[←HSB.o.1];exact h0)];exact HSB.o.1,fun _=>⟨rfl,rfl⟩,fun h=>(h0 h).elim⟩;have e0:((en:Int) == 0)=false:=by simp[h0]
   have HS2q:Hid (q+3≤w2.heap.size):=by have:=HWB.o.lt;have:=HQ2.o;show _≤_;omega
   clear h0 HSB HBA;go_wp2_with fail
   go_meet
   case rel=>exact⟨en,0,0,0,(0,0),rfl,rfl,rfl,rfl,HWT,HWB,HM2,HB2,HS2q⟩
 case rest =>
  obtain⟨e,f,g,fr,wid,rfl,rfl,rfl,rfl,HFW,HWW,HMM,HBB,HQB⟩:=hcut
  rename World=>w20;clear HSB HWB HB2 HM2 HBA;go_upto_if 144 with fail
  obtain⟨F,hF⟩:∃F,(if e≠0 then e else f)=F:=⟨_,rfl⟩
  obtain⟨G,hG⟩:∃G,(if e≠0 then e else g)=G:=⟨_,rfl⟩
  have HFG:=Hi (And.intro hF hG);have hcw:=HFW.o.cur;rw[hF,hG]at hcw;have HCW:=Hi hcw;clear hF hG hcw;go_cut [14,15] (fun s14 s15 wc=>s14=.int .i64 (F:Int)∧s15=.int .i64 (G:Int)∧w20=wc)
  case first =>
   by_cases h0:e=0
   ·have h1:f=F∧g=G:=by
     have h2:=HFG.o;rw[if_neg (fun h=>h h0),if_neg (fun h=>h h0)]at h2;exact h2
    rw[h1.1,h1.2];subst h0;clear h1;go_wp2_with fail
    go_meet
    case rel=>exact⟨rfl,rfl,rfl⟩
   ·have h1:e=F∧e=G:=by
     have h2:=HFG.o;rw[if_pos h0,if_pos h0]at h2;exact h2
    have e1:((e:Int) != 0)=true:=by simp[h0]
    have HE1:=Hi h1;clear h0 h1;go_wp2_with fail
    go_meet
    case rel=>exact⟨by rw[HE1.o.1],by rw[HE1.o.2],rfl⟩
  case rest =>
   obtain⟨rfl,rfl,rfl⟩:=hcut
   have C1:=markCursor_any La o1 o2 i A cA w20 HLL.o (by
    have h:=HBB.o;rw[←HQQ.o]at h;exact HL.o.below h) HV.o HOB.o
   rw[HCW.o.1,HN.o]at C1;simp only at C1;obtain⟨d1,d2⟩:=wid
   simp only at C1 HWW;have q0:=cZ HMM.o.1 0 rfl;have q1:=cZ HMM.o.1 1 rfl
   go_wp2_with fail
   go_at_call 18;refine C1.mono ?_;rintro e' w21 ⟨rfl,hb21⟩;have HM21:=Hi (HMM.o.below hb21);have HW21:=Hi (HWW.o.keep (hb21.block _ HWW.o.lt));have HB21:Hid (Below q w w21):=HBB.o.trans (hb21.mono (by have:=HQB.o;omega));have HS21:Hid (q+3≤w21.heap.size):=sR HQB.o hb21.size;clear C1 hb21 q0 q1 HMM HWW HBB HQB;go_upto_region 42 with fail
   have hba:Below w21.heap.size w21 (w21.alloc (.cells #[.int .i64 d1,.int .i64 d2] 24)):=(sB _ w21).alloc (sC _) _;have HC22:=Hi (Blk.new w21 24 #[.int .i64 d1,.int .i64 d2]);have HM22:=Hi (HM21.o.below hba);have HW22:=Hi (HW21.o.keep (hba.block _ HW21.o.lt));have HB22:Hid (Below q w (w21.alloc (.cells #[.int .i64 d1,.int .i64 d2] 24))):=HB21.o.trans (hba.mono (by have:=HS21.o;omega));have HS22:Hid (q+3≤(w21.alloc (.cells #[.int .i64 d1,.int .i64 d2] 24)).heap.size):=sR HS21.o hba.size;clear hba HM21 HW21 HB21 HS21;generalize w21.alloc (.cells #[.int .i64 d1,.int .i64 d2] 24)=w22 at HC22 HM22 HW22 HB22 HS22 ⊢;generalize w21.heap.size=qc at HC22 ⊢;have C2:=qJ F w22 (HET.o.keep (by have h:=HB22.o;rw[←HQQ.o]at h;exact h));go_wp2_with fail
   go_at_call 11;refine C2.mono ?_;rintro e' w23 ⟨rfl,hb23⟩;have HC23:=Hi (HC22.o.keep (hb23.block _ HC22.o.lt));have HM23:=Hi (HM22.o.below hb23);have HW23:=Hi (HW22.o.keep (hb23.block _ HW22.o.lt));have HB23:Hid (Below q w w23):=HB22.o.trans (hb23.mono (by have:=HS22.o;omega));have HS23:Hid (q+3≤w23.heap.size):=sR HS22.o hb23.size;clear C2 hb23 HC22 HM22 HW22 HB22 HS22;have C3:=markWhereF_any La o1 o2 a1 a2 A cA w23 HLL.o (by
    have h:=HB23.o;rw[←HQQ.o]at h;exact HL.o.below h) HV.o HOB.o
   rw[HCW.o.2,HN.o]at C3;simp only at C3;have q0:=cZ HM23.o.1 0 rfl;have q1:=cZ HM23.o.1 1 rfl
   have q2:=cZ HM23.o.2.1 0 rfl;have q3:=cZ HM23.o.2.1 1 rfl
   go_wp2_with fail
   go_at_call 19;refine C3.mono ?_;rintro e' w24 ⟨rfl,hb24⟩;have HC24:=Hi (HC23.o.keep (hb24.block _ HC23.o.lt));have HW24:=Hi (HW23.o.keep (hb24.block _ HW23.o.lt));have HB24:Hid (Below q w w24):=HB23.o.trans (hb24.mono (by have:=HS23.o;omega));have HS24:Hid (q+3≤w24.heap.size):=sR HS23.o hb24.size;have C4:=qJ G w24 (HET.o.keep (by have h:=HB24.o;rw[←HQQ.o]at h;exact h));clear C3 hb24 q0 q1 q2 q3 HC23 HM23 HW23 HB23 HS23;go_wp2_with fail
   go_at_call 11;refine C4.mono ?_;rintro e' w25 ⟨rfl,hb25⟩;have hc:=HC24.o.keep (hb25.block _ HC24.o.lt);have hw25:=HW24.o.keep (hb25.block _ HW24.o.lt);have HB25:Hid (Below q w w25):=HB24.o.trans (hb25.mono (by have:=HS24.o;omega));have c0:=cZ hc 0 rfl;have c1:=cZ hc 1 rfl
   have v0:=cZ hw25 0 rfl;have v1:=cZ hw25 1 rfl
   have E:=fun w=>iS d1 d2 d1 d2 w
   rw[show(d1 == d1&&d2 == d2)=true by simp]at E;have e1:((fr:Int) == (fr:Int))=true:=by simp
   clear C4 hb25 hc hw25 HC24 HW24 HB24 HS24;go_wp2_with fail
   go_ret;exact⟨rfl,by rw[HQQ.o];exact HB25.o⟩
end Go.Proofs.YtmpkejflgpodkaaGreatDoor
