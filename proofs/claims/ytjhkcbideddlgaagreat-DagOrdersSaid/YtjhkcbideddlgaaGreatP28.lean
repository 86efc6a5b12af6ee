/- Contracts of a hand of the document's: Do. -/
import Derived.Test.YtjhkcbideddlgaaGreatP27
set_option maxHeartbeats 16000000
set_option maxRecDepth 20000
set_option linter.unusedVariables false
set_option linter.unusedSimpArgs false
namespace Go.Proofs.YtjhkcbideddlgaaGreat
open Go.ChangeShapes Go.WideShapes Go.ChangeAt Go.RowKit
theorem hDo_any{D FB F:Nat→Prop}{w:World}{g gb:Nat}{h:HandD}{VL VW VP:Value}(m:HM D FB F w g gb h VL VW VP)(hi:HandI h)(o:OpD)(hok:1≤o.k)(hov:IntKind.i64.wrap o.vn=o.vn)(hoe:o.en=0)(at_:Int):
 Calls Tryz.prog 31 #[.pointer (some ⟨g,0,none⟩),opV0 o,.int .i64 at_] w fun e w'=>kE D F w g e w':=by
 have HMM:=Hi m;have HI:=Hi hi;have HOK:=Hi hok;have HOV:=Hi hov;have HOE:=Hi hoe;have HKL:=Hi hi.len;have HLT:=Hi m.hlt;unfold opV0;obtain⟨bi,hbi⟩:∃b,o.ins=b:=⟨_,rfl⟩
 have HINB:=Hi hbi;rw[hbi];clear hbi;have hb1:Below w.heap.size w (w.alloc (.cells #[.int .i64 o.k,.int .i64 o.on,.int .i64 o.oa,.string o.key,.int .i64 o.en,.int .i64 o.ea,.bool bi,.int .i64 o.vk,.int .i64 o.vn,.string o.vt,.int .i64 o.va,.int .i64 o.vb,.slice none 0 0] 53)):=(sA _ w).alloc (sB _) _;have h1:=Blk.new w 53 #[.int .i64 o.k,.int .i64 o.on,.int .i64 o.oa,.string o.key,.int .i64 o.en,.int .i64 o.ea,.bool bi,.int .i64 o.vk,.int .i64 o.vn,.string o.vt,.int .i64 o.va,.int .i64 o.vb,.slice none 0 0];have h2:=Blk.new (w.alloc (.cells #[.int .i64 o.k,.int .i64 o.on,.int .i64 o.oa,.string o.key,.int .i64 o.en,.int .i64 o.ea,.bool bi,.int .i64 o.vk,.int .i64 o.vn,.string o.vt,.int .i64 o.va,.int .i64 o.vb,.slice none 0 0] 53)) 48 #[.int .i64 0,.int .i64 0];have hb2:=hb1.alloc hb1.size (.cells #[.int .i64 0,.int .i64 0] 48);have h1':=h1.alloc (.cells #[.int .i64 0,.int .i64 0] 48);rw[tB]at h2;have H1:=Hi h1';have H2:=Hi h2;have HB2:=Hi hb2;clear h1 h2 h1' hb1 hb2 m hi hok hov hoe;go_enter Tryz.func31,Tryz.ntmps31;go_upto_region 1 with fail
 generalize (w.alloc (.cells #[.int .i64 o.k,.int .i64 o.on,.int .i64 o.oa,.string o.key,.int .i64 o.en,.int .i64 o.ea,.bool bi,.int .i64 o.vk,.int .i64 o.vn,.string o.vt,.int .i64 o.va,.int .i64 o.vb,.slice none 0 0] 53)).alloc (.cells #[.int .i64 0,.int .i64 0] 48)=w2 at H1 H2 HB2 ⊢;obtain⟨B,hB⟩:∃B,w.heap.size=B:=⟨_,rfl⟩
 have HBB:=Hi hB;rw[hB]at H1 H2 ⊢;clear hB;have C1:=hJ_all (HMM.o.below HB2.o) HI.o;have HW2:Hid (B+1<w2.heap.size):=H2.o.lt;go_wp2_with fail
 go_at_call 67;refine C1.mono ?_;rintro e w3 ⟨A,c,rfl,hor,hb⟩;obtain⟨nK,hnK⟩:∃n,h.K.length=n:=⟨_,rfl⟩
 have HNK:=Hi hnK;rw[hnK];have HORa:Hid (OpsR (fun k=>(k<B∨B+1<k)∧k<(w3.alloc (.cells #[.slice A nK c] 58)).heap.size) (w3.alloc (.cells #[.slice A nK c] 58)) A h.K):=by
  have hs:w3.heap.size<(w3.alloc (.cells #[.slice A nK c] 58)).heap.size:=by rw[tB];exact Nat.lt_succ_self _
  have hz:=hb.size;have hkk:∀k,(D k∨w2.heap.size≤k∧k<w3.heap.size)→(k<B∨B+1<k)∧k<w3.heap.size:=fun k hk=>by
   rcases hk with hk|hk
   ·have h1:=HLT.o.1 k hk;have h2:=HBB.o;have h3:=HB2.o.size;exact⟨by omega,by omega⟩
   ·have h1:=HW2.o;exact⟨by omega,hk.2⟩
  exact(hor.keep fun k hk=>sM _ _ k (hkk k hk).2).more fun k hk=>⟨(hkk k hk).1,Nat.lt_trans (hkk k hk).2 hs⟩
 have HB3:Hid (Below w.heap.size w (w3.alloc (.cells #[.slice A nK c] 58))):=(HB2.o.trans (hb.mono HB2.o.size)).alloc (by have:=HB2.o.size;have:=hb.size;omega) _;have HJ:=Hi (Blk.new w3 58 #[.slice A nK c]);have H1a:=Hi ((H1.o.keep (hb.block _ H1.o.lt)).alloc (.cells #[.slice A nK c] 58));have H2a:=Hi ((H2.o.keep (hb.block _ H2.o.lt)).alloc (.cells #[.slice A nK c] 58));have HQJ:Hid (B+1<w3.heap.size):=by have:=HW2.o;have:=hb.size;show _<_;omega
 clear C1 hor hb hnK H1 H2 HB2 HW2;go_upto_region 2 with fail
 generalize w3.alloc (.cells #[.slice A nK c] 58)=w4 at HORa HB3 HJ H1a H2a ⊢;generalize w3.heap.size=qj at HJ HQJ ⊢;have v0:=cZ H1a.o 7 rfl;have v1:=cZ H1a.o 8 rfl;have v2:=cZ H1a.o 9 rfl;have v3:=cZ H1a.o 10 rfl;have v4:=cZ H1a.o 11 rfl;have C2:=jT o.vk o.vn o.va o.vb o.vt w4;go_wp2_with fail
 go_at_call 68;refine C2.mono ?_;rintro e w5 ⟨rfl,hb⟩;have HB5:Hid (Below w.heap.size w w5):=HB3.o.trans (hb.mono HB3.o.size);have HOR5:Hid (OpsR (fun k=>(k<B∨B+1<k)∧k<w5.heap.size) w5 A h.K):=(HORa.o.keep fun k hk=>hb.block k hk.2).more fun k hk=>⟨hk.1,sD hk.2 hb.size⟩
 have H15:=Hi (H1a.o.keep (hb.block _ H1a.o.lt));have H25:=Hi (H2a.o.keep (hb.block _ H2a.o.lt));have HJ5:=Hi (HJ.o.keep (hb.block _ HJ.o.lt));clear C2 hb v0 v1 v2 v3 v4 HB3 HORa H1a H2a HJ;generalize aE o.vk o.vn o.vt o.va o.vb=zv;have v0:=cZ H15.o 7 rfl;have v1:=cZ H15.o 8 rfl;have v2:=cZ H15.o 9 rfl;have v3:=cZ H15.o 10 rfl;have v4:=cZ H15.o 11 rfl;have C3:=iV o.vk o.vn o.va o.vb o.vt w5;go_wp2_with fail
 go_at_call 69;refine C3.mono ?_;rintro e w7 ⟨rfl,hb⟩;have HB7:Hid (Below w.heap.size w w7):=HB5.o.trans (hb.mono HB5.o.size);have HOR7:Hid (OpsR (fun k=>(k<B∨B+1<k)∧k<w7.heap.size) w7 A h.K):=(HOR5.o.keep fun k hk=>hb.block k hk.2).more fun k hk=>⟨hk.1,sD hk.2 hb.size⟩
 have H17:=Hi (H15.o.keep (hb.block _ H15.o.lt));have H27:=Hi (H25.o.keep (hb.block _ H25.o.lt));have HJ7:=Hi (HJ5.o.keep (hb.block _ HJ5.o.lt));clear C3 hb v0 v1 v2 v3 v4 HB5 HOR5 H15 H25 HJ5;generalize dE o.vk=zo;have v0:=cZ H17.o 0 rfl;have v7:=cZ H17.o 7 rfl;go_upto_region 5 with fail
 generalize Value.agg #[.int .i64 o.k,.int .i64 o.on,.int .i64 o.oa,.string o.key,.int .i64 o.en,.int .i64 o.ea,.bool bi,.int .i64 o.vk,.int .i64 o.vn,.string o.vt,.int .i64 o.va,.int .i64 o.vb,.slice none 0 0]=va;generalize Value.agg #[.int .i64 o.vk,.int .i64 o.vn,.string o.vt,.int .i64 o.va,.int .i64 o.vb]=vv;go_cut [49] (fun s49 wd=>∃b:Bool,s49=.bool b∧w7=wd)
 case first =>
  cases zv<;>cases zo<;>(go_wp2_with fail;all_goals (go_meet;case rel=>exact⟨_,rfl,rfl⟩))
 case rest =>
  obtain⟨b,rfl,rfl⟩:=hcut
  clear v0 v7;go_upto_if 49 with fail
  go_cut [11] (fun s11 wd=>∃k:Int,s11=.int .i64 k∧w7=wd)
  case first =>
   cases b;all_goals (go_wp2_with fail;go_meet;case rel=>exact⟨_,rfl,rfl⟩)
  case rest =>
   obtain⟨kb,rfl,rfl⟩:=hcut
   have z6:=cZ H17.o 6 rfl;go_upto_if 51 with fail
   go_cut [12] (fun s12 wd=>∃mo:Int,s12=.int .i64 mo∧(0≤mo∧mo≤1)∧Hid (bi=false→mo=0)∧w7=wd)
   case first =>
    cases bi with
    |true=>go_wp2_with fail;go_meet;case rel=>exact⟨1,rfl,⟨by decide,by decide⟩,(by show _→_;intro h;cases h),rfl⟩
    |false=>go_wp2_with fail;go_meet;case rel=>exact⟨0,rfl,⟨by decide,by decide⟩,(by show _→_;intro _;rfl),rfl⟩
   case rest =>
    obtain⟨mo,rfl,hmo,HMO,rfl⟩:=hcut
    have p0:=cZ HJ7.o 0 rfl;have v1:=cZ H17.o 1 rfl;have v2:=cZ H17.o 2 rfl;have C4:=hIndex_any HI.o.tree o.on o.oa at_ mo hmo A c w7 (HOR7.o.more fun k hk=>hk.2) (by have:=HKL.o;omega) (fun x hx=>(HI.o.wf x hx).1) (fun x hx=>(HI.o.wf x hx).2.1);rw[HNK.o]at C4;clear z6;go_wp2_with fail
    go_at_call 72;refine C4.mono ?_;rintro e w8 ⟨hix,hb⟩;have HBx:Hid (Below w.heap.size w w8):=HB7.o.trans (hb.mono HB7.o.size);have HORx:Hid (OpsR (fun k=>(k<B∨B+1<k)∧k<w8.heap.size) w8 A h.K):=(HOR7.o.keep fun k hk=>hb.block k hk.2).more fun k hk=>⟨hk.1,sD hk.2 hb.size⟩
    have HOx:=Hi (H17.o.keep (hb.block _ H17.o.lt));have HRx:=Hi (H27.o.keep (hb.block _ H27.o.lt));have HJx:=Hi (HJ7.o.keep (hb.block _ HJ7.o.lt));have HZ:Hid (qj<w7.heap.size):=HJ7.o.lt;clear C4 hb p0 v1 v2 HB7 HOR7 H17 H27 HJ7;obtain⟨r0,r1⟩:=ce2 HRx.o
    have f0:=HRx.o.frozen 0;have f1:=HRx.o.frozen 1;rcases hix with⟨k,hk0,rfl⟩|⟨v,rfl,ho,hat0,hat1⟩
    ·go_wp2_with fail
     have hbl:=(HRx.o.set_ 0 (.int .i64 0)).set_ 1 (.int .i64 0);refine bodyPost_ret (fW (p:=6) (s:=7) (by kernel_rfl) _ _ (B+1) 48 #[.int .i64 0,.int .i64 0] _ rfl hbl Tryz.underlying48 rfl (by kernel_rfl)) rfl ?_;exact kE.no _ HI.o ⟨_,_,_,_,_,HMM.o⟩ ((HBx.o.setCell (by show w.heap.size≤B+1;have:=HBB.o;omega) _).setCell (by show w.heap.size≤B+1;have:=HBB.o;omega) _)
    by_cases hkb:kb=0
    case neg =>
     go_wp2_with fail
     have hbl:=(HRx.o.set_ 0 (.int .i64 0)).set_ 1 (.int .i64 0);refine bodyPost_ret (fW (p:=6) (s:=7) (by kernel_rfl) _ _ (B+1) 48 #[.int .i64 0,.int .i64 0] _ rfl hbl Tryz.underlying48 rfl (by kernel_rfl)) rfl ?_;exact kE.no _ HI.o ⟨_,_,_,_,_,HMM.o⟩ ((HBx.o.setCell (by show w.heap.size≤B+1;have:=HBB.o;omega) _).setCell (by show w.heap.size≤B+1;have:=HBB.o;omega) _)
    subst hkb;clear r0 r1 f0 f1;obtain⟨S,hS⟩:∃S,iF h.K (o.on,o.oa) 1000100=S:=⟨_,rfl⟩
    have HSN:Hid (∀r∈S,r.1<h.nid.1):=fun r hr=>seen_num HI.o (by rw[hS];exact hr)
    rw[hS]at ho hat1;obtain⟨A5,c5,hv,-,-,hr5⟩:=aC.of_own ho
    have HR5:Hid (aC (fun k=>w7.heap.size≤k) w8 2 A5 S.length (aF S)):=hr5.more fun k hk=>(aD ho hk).1
    subst hv;obtain⟨ns,hns⟩:∃n,S.length=n:=⟨_,rfl⟩
    have HNS:=Hi hns;have HSL:Hid (ns≤4841):=by
     have h1:=(HI.o.tree.all (obj:=(o.on,o.oa))).2.1;have h3:=wD (hO h.K (o.on,o.oa)) (jS h.K (o.on,o.oa) 1000100 (0,0));have h4:(iF h.K (o.on,o.oa) 1000100).length=ns:=by rw[hS];exact hns
     have:=HKL.o
     have:=HNK.o
     show _≤_;unfold iF at h4;omega
    rw[hns]at hat1 HR5 ⊢;clear ho hr5 hS hns;have hsl:=HSL.o;have hnp:=gH h.L;obtain⟨k,hka⟩:∃k:Nat,at_=k:=⟨at_.toNat,by omega⟩
    subst hka;cases bi with
    |true =>
     have z6:=cZ HOx.o 6 rfl;go_upto_if 71 with fail
     go_cut [] (fun wc=>∃en ea:Int,Hid (en<h.nid.1)∧Hid (Blk wc B 53 #[.int .i64 o.k,.int .i64 o.on,.int .i64 o.oa,.string o.key,.int .i64 en,.int .i64 ea,.bool true,.int .i64 o.vk,.int .i64 o.vn,.string o.vt,.int .i64 o.va,.int .i64 o.vb,.slice none 0 0])∧Hid (Chg (fun k=>k=B) w8 wc))
     case first =>
      by_cases hk0:k=0
      ·subst hk0;go_wp2_with fail
       go_meet
       case rel=>exact⟨o.en,o.ea,by show _<_;rw[HOE.o];unfold HandD.nid;show(0:Int)<dH h.L+_;omega,HOx,Chg.refl _⟩
      ·obtain⟨j,rfl⟩:∃j,k=j+1:=⟨k-1,by omega⟩
       have hjn:j<ns:=by omega
       obtain⟨⟨y1,y2⟩,hy⟩:∃r,S[j]?=some r:=⟨_,sC (by rw[HNS.o];exact hjn)⟩
       obtain⟨tb,tf,rfl,htb,hct⟩:=HR5.o.at_ (by omega) (by omega)
       have t1:w8.cell? ⟨tb,tf+j*2,none⟩=some (.int .i64 y1):=hct _ _ (aN hy).1;have t2:w8.cell? ⟨tb,tf+j*2+1,none⟩=some (.int .i64 y2):=by have:=hct _ _ (aN hy).2;rw[←tY]at this;exact this
       have HYN:Hid (y1<h.nid.1):=HSN.o _ (sJ hy);have hwk:IntKind.i64.wrap (((j+1:Nat):Int)-1)=(j:Int):=by rw[show((j+1:Nat):Int)-1=(j:Int) by omega];exact tH _ (by omega)
       have m4:=cZ HOx.o 4 rfl;have m5:=cZ HOx.o 5 rfl;have f4:=HOx.o.frozen 4;have f5:=HOx.o.frozen 5;have HFIN:Hid (Blk ((w8.setCell ⟨B,4,none⟩ (.int .i64 y1)).setCell ⟨B,5,none⟩ (.int .i64 y2)) B 53 #[.int .i64 o.k,.int .i64 o.on,.int .i64 o.oa,.string o.key,.int .i64 y1,.int .i64 y2,.bool true,.int .i64 o.vk,.int .i64 o.vn,.string o.vt,.int .i64 o.va,.int .i64 o.vb,.slice none 0 0]):=(HOx.o.set_ 4 (.int .i64 y1)).set_ 5 (.int .i64 y2);have HCH:Hid (Chg (fun k=>k=B) w8 ((w8.setCell ⟨B,4,none⟩ (.int .i64 y1)).setCell ⟨B,5,none⟩ (.int .i64 y2))):=((Chg.refl (M:=fun k=>k=B) w8).setCell (p:=⟨B,4,none⟩) (.inl rfl) _).setCell (p:=⟨B,5,none⟩) (.inl rfl) _;clear hct hy htb z6;go_wp2_with fail
       go_meet
       case rel=>exact⟨y1,y2,HYN,HFIN,HCH⟩
     case rest =>
      obtain⟨en,ea,HEN,HOy,HCy⟩:=hcut
      have HBy:Hid (Below w.heap.size w wc):=HBx.o.trans (HCy.o.below HBx.o.size (fun k hk=>by have:=HBB.o;omega));have HRy:=Hi (HRx.o.keep (HCy.o.block _ HRx.o.lt (by omega)));have HJy:=Hi (HJx.o.keep (HCy.o.block _ HJx.o.lt (by have:=HQJ.o;omega)));have HORy:Hid (OpsR (fun k=>k<wc.heap.size) wc A h.K):=(HORx.o.keep fun k hk=>HCy.o.block k hk.2 (by omega)).more fun k hk=>sD hk.2 HCy.o.size
      clear HBx HRx HJx HORx HOx HCy;have HBx:=Hi HBy.o;have HRx:=Hi HRy.o;have HJx:=Hi HJy.o;clear HBy HRy HJy;obtain⟨c0,c1,c2,c3,c4,c5,c6,c7,c8,c9,c10,c11,c12⟩:=ce13 HOy.o
      have p0:=cZ HJx.o 0 rfl;have C5:=rW (HMM.o.below HBx.o) HI.o { o with en:=en,ea:=ea } HOK.o HOV.o (fun _=>HEN.o) A c HORy.o 0 0;rw[HNK.o]at C5;unfold opV0 at C5;simp only[HINB.o]at C5;go_wp2_with fail
      go_at_call 71;refine C5.mono ?_;rintro e w11 ⟨h',i1,i2,k,rfl,hI64,hI',hres⟩;have H28:=Hi (hres.kept (w:=w) HLT.o.2 (by have:=HBB.o;omega) HRx.o);have HRW:Hid (kA D F w ((w11.setCell ⟨B+1,0,none⟩ (.int .i64 i1)).setCell ⟨B+1,1,none⟩ (.int .i64 i2)) g h'):=hres.wrap HBx.o HLT.o (by have:=HBB.o;omega) HRx.o.lt _ _;have HI64:=Hi hI64;have HI':=Hi hI';obtain⟨r0,r1⟩:=ce2 H28.o
      have f0:=H28.o.frozen 0;have f1:=H28.o.frozen 1;clear C5 hI64 hI' hres p0;clear c0 c1 c2 c3 c4 c5 c6 c7 c8 c9 c10 c11 c12;go_wp2_with fail
      have hbl:=(H28.o.set_ 0 (.int .i64 i1)).set_ 1 (.int .i64 i2);refine bodyPost_ret (fW (p:=6) (s:=7) (by kernel_rfl) _ _ (B+1) 48 #[.int .i64 i1,.int .i64 i2] _ rfl hbl Tryz.underlying48 rfl (by kernel_rfl)) rfl ?_;exact⟨h',i1,i2,_,rfl,HI64.o,HI'.o,HRW.o⟩
    |false =>
     have hkn:k<ns:=by have:=HMO.o rfl;omega
     have z6:=cZ HOx.o 6 rfl;obtain⟨⟨y1,y2⟩,hy⟩:∃r,S[k]?=some r:=⟨_,sC (by rw[HNS.o];exact hkn)⟩
     obtain⟨tb,tf,rfl,htb,hct⟩:=HR5.o.at_ (by omega) (by omega)
     have t1:w8.cell? ⟨tb,tf+k*2,none⟩=some (.int .i64 y1):=hct _ _ (aN hy).1;have t2:w8.cell? ⟨tb,tf+k*2+1,none⟩=some (.int .i64 y2):=by have:=hct _ _ (aN hy).2;rw[←tY]at this;exact this
     have HYN:Hid (y1<h.nid.1):=HSN.o _ (sJ hy);have m4:=cZ HOx.o 4 rfl;have m5:=cZ HOx.o 5 rfl;have f4:=HOx.o.frozen 4;have f5:=HOx.o.frozen 5;have HOy:Hid (Blk ((w8.setCell ⟨B,4,none⟩ (.int .i64 y1)).setCell ⟨B,5,none⟩ (.int .i64 y2)) B 53 #[.int .i64 o.k,.int .i64 o.on,.int .i64 o.oa,.string o.key,.int .i64 y1,.int .i64 y2,.bool false,.int .i64 o.vk,.int .i64 o.vn,.string o.vt,.int .i64 o.va,.int .i64 o.vb,.slice none 0 0]):=(HOx.o.set_ 4 (.int .i64 y1)).set_ 5 (.int .i64 y2);have HCy:Hid (Chg (fun k=>k=B) w8 ((w8.setCell ⟨B,4,none⟩ (.int .i64 y1)).setCell ⟨B,5,none⟩ (.int .i64 y2))):=((Chg.refl (M:=fun k=>k=B) w8).setCell (p:=⟨B,4,none⟩) (.inl rfl) _).setCell (p:=⟨B,5,none⟩) (.inl rfl) _;clear hct hy htb;go_upto_region 20 with fail
     generalize (w8.setCell ⟨B,4,none⟩ (.int .i64 y1)).setCell ⟨B,5,none⟩ (.int .i64 y2)=wc at HOy HCy ⊢;have HBy:Hid (Below w.heap.size w wc):=HBx.o.trans (HCy.o.below HBx.o.size (fun k hk=>by have:=HBB.o;omega));have HRy:=Hi (HRx.o.keep (HCy.o.block _ HRx.o.lt (by omega)));have HJy:=Hi (HJx.o.keep (HCy.o.block _ HJx.o.lt (by have:=HQJ.o;omega)));have HORy:Hid (OpsR (fun k=>k<wc.heap.size) wc A h.K):=(HORx.o.keep fun k hk=>HCy.o.block k hk.2 (by omega)).more fun k hk=>sD hk.2 HCy.o.size
     clear HBx HRx HJx HORx HOx HCy;have HBx:=Hi HBy.o;have HRx:=Hi HRy.o;have HJx:=Hi HJy.o;clear HBy HRy HJy;clear z6 t1 t2 m4 m5 f4 f5;obtain⟨c0,c1,c2,c3,c4,c5,c6,c7,c8,c9,c10,c11,c12⟩:=ce13 HOy.o
     have p0:=cZ HJx.o 0 rfl;have C5:=rW (HMM.o.below HBx.o) HI.o { o with en:=y1,ea:=y2 } HOK.o HOV.o (fun _=>HYN.o) A c HORy.o y1 y2;rw[HNK.o]at C5;unfold opV0 at C5;simp only[HINB.o]at C5;go_wp2_with fail
     go_at_call 71;refine C5.mono ?_;rintro e w11 ⟨h',i1,i2,k,rfl,hI64,hI',hres⟩;have H28:=Hi (hres.kept (w:=w) HLT.o.2 (by have:=HBB.o;omega) HRx.o);have HRW:Hid (kA D F w ((w11.setCell ⟨B+1,0,none⟩ (.int .i64 i1)).setCell ⟨B+1,1,none⟩ (.int .i64 i2)) g h'):=hres.wrap HBx.o HLT.o (by have:=HBB.o;omega) HRx.o.lt _ _;have HI64:=Hi hI64;have HI':=Hi hI';obtain⟨r0,r1⟩:=ce2 H28.o
     have f0:=H28.o.frozen 0;have f1:=H28.o.frozen 1;clear C5 hI64 hI' hres p0;clear c0 c1 c2 c3 c4 c5 c6 c7 c8 c9 c10 c11 c12;go_wp2_with fail
     have hbl:=(H28.o.set_ 0 (.int .i64 i1)).set_ 1 (.int .i64 i2);refine bodyPost_ret (fW (p:=6) (s:=7) (by kernel_rfl) _ _ (B+1) 48 #[.int .i64 i1,.int .i64 i2] _ rfl hbl Tryz.underlying48 rfl (by kernel_rfl)) rfl ?_;exact⟨h',i1,i2,_,rfl,HI64.o,HI'.o,HRW.o⟩
end Go.Proofs.YtjhkcbideddlgaaGreat
