/- Contracts of a hand of the document's: Do, DoKey. -/
import Derived.Test.YtjhkcbideddlgaaGreatP26
import Derived.Test.YtjhkcbideddlgaaGreatP25
import Derived.Test.YtjhkcbideddlgaaGreatP16
import Derived.Test.YtjhkcbideddlgaaGreatP15
import Derived.Test.YtjhkcbideddlgaaGreatP17
set_option maxHeartbeats 16000000
set_option maxRecDepth 20000
set_option linter.unusedVariables false
set_option linter.unusedSimpArgs false
namespace Go.Proofs.YtjhkcbideddlgaaGreat
open Go.ChangeShapes Go.WideShapes Go.ChangeAt Go.RowKit
section
theorem HM.hlt{D FB F:Nat→Prop}{w:World}{g gb:Nat}{h:HandD}{VL VW VP:Value}(m:HM D FB F w g gb h VL VW VP):(∀k,D k→k<w.heap.size)∧∀k,F k→k<w.heap.size:=⟨fun _ h=>m.dlt h,fun _ h=>m.flt h⟩
theorem kA.wrap{D F:Nat→Prop}{w w1 w2:World}{g q:Nat}{h:HandD}(r:kA D F w1 w2 g h)(hb:Below w.heap.size w w1)(hl:(∀k,D k→k<w.heap.size)∧∀k,F k→k<w.heap.size)(hq:w.heap.size≤q)(hq1:q<w1.heap.size)(x0 x1:Value):
 kA D F w ((w2.setCell ⟨q,0,none⟩ x0).setCell ⟨q,1,none⟩ x1) g h:=by
 obtain⟨D',F',⟨FB,gb,VL,VW,VP,m⟩,h1,h2,h3,h4⟩:=r
 have hs:=hb.size;have hset:∀k,k≠q→((w2.setCell ⟨q,0,none⟩ x0).setCell ⟨q,1,none⟩ x1).heap[k]?=w2.heap[k]?:=fun k hk=>(sU _ _ _ _ hk).trans (sU _ _ _ _ hk)
 refine⟨D',F',⟨FB,gb,VL,VW,VP,m.keep (by simp) (fun k hk=>hset k fun e=>?_) (fun k hk=>hset k fun e=>?_)⟩,h1,fun k hk=>(h2 k hk).elim .inl fun h=>.inr (h.elim .inl fun h=>.inr (by omega)),fun k hk=>(h3 k hk).elim .inl fun h=>.inr (by omega),?_⟩
 ·rcases h2 k hk with h|h|h
  ·have:=hl.1 k h;omega
  ·have:=hl.2 k h;omega
  ·omega
 ·rcases h3 k hk with h|h
  ·have:=hl.2 k h;omega
  ·omega
 ·exact(((Chg.of_below hb).trans h4 (fun i _ h=>h)).setCell (.inr hq) _).setCell (.inr hq) _
theorem kA.kept{D F:Nat→Prop}{w w1 w2:World}{g q:Nat}{h:HandD}{t:TypeId}{cs:Array Value}(r:kA D F w1 w2 g h)(hl:∀k,F k→k<w.heap.size)(hq:w.heap.size≤q)(hB:Blk w1 q t cs):Blk w2 q t cs:=by
 obtain⟨D',F',_,_,_,_,h4⟩:=r
 exact hB.keep (h4.block q hB.lt fun e=>by have:=hl q e;omega)
theorem hDoKey_any{D FB F:Nat→Prop}{w:World}{g gb:Nat}{h:HandD}{VL VW VP:Value}(m:HM D FB F w g gb h VL VW VP)(hi:HandI h)(o:OpD)(hok:1≤o.k)(hov:IntKind.i64.wrap o.vn=o.vn)(hou:o.ins=false):
 Calls Tryz.prog 28 #[.pointer (some ⟨g,0,none⟩),opV0 o] w fun e w'=>kE D F w g e w':=by
 have HMM:=Hi m;have HI:=Hi hi;have HOK:=Hi hok;have HOV:=Hi hov;have HOU:=Hi hou;have HKL:=Hi hi.len;have HLT:=Hi m.hlt;have HVO:Hid (opV0 o=.agg #[.int .i64 o.k,.int .i64 o.on,.int .i64 o.oa,.string o.key,.int .i64 o.en,.int .i64 o.ea,.bool o.ins,.int .i64 o.vk,.int .i64 o.vn,.string o.vt,.int .i64 o.va,.int .i64 o.vb,.slice none 0 0]):=rfl;rw[HVO.o];have hb1:Below w.heap.size w (w.alloc (.cells #[.int .i64 o.k,.int .i64 o.on,.int .i64 o.oa,.string o.key,.int .i64 o.en,.int .i64 o.ea,.bool o.ins,.int .i64 o.vk,.int .i64 o.vn,.string o.vt,.int .i64 o.va,.int .i64 o.vb,.slice none 0 0] 53)):=(sA _ w).alloc (sB _) _;have h1:=Blk.new w 53 #[.int .i64 o.k,.int .i64 o.on,.int .i64 o.oa,.string o.key,.int .i64 o.en,.int .i64 o.ea,.bool o.ins,.int .i64 o.vk,.int .i64 o.vn,.string o.vt,.int .i64 o.va,.int .i64 o.vb,.slice none 0 0];have h2:=Blk.new (w.alloc (.cells #[.int .i64 o.k,.int .i64 o.on,.int .i64 o.oa,.string o.key,.int .i64 o.en,.int .i64 o.ea,.bool o.ins,.int .i64 o.vk,.int .i64 o.vn,.string o.vt,.int .i64 o.va,.int .i64 o.vb,.slice none 0 0] 53)) 48 #[.int .i64 0,.int .i64 0];have hb2:=hb1.alloc hb1.size (.cells #[.int .i64 0,.int .i64 0] 48);have h1':=h1.alloc (.cells #[.int .i64 0,.int .i64 0] 48);rw[tB]at h2;have H1:=Hi h1';have H2:=Hi h2;have HB2:=Hi hb2;clear h1 h2 h1' hb1 hb2 m hi hok hov hou;go_enter Tryz.func28,Tryz.ntmps28;go_upto_region 1 with fail
 generalize (w.alloc (.cells #[.int .i64 o.k,.int .i64 o.on,.int .i64 o.oa,.string o.key,.int .i64 o.en,.int .i64 o.ea,.bool o.ins,.int .i64 o.vk,.int .i64 o.vn,.string o.vt,.int .i64 o.va,.int .i64 o.vb,.slice none 0 0] 53)).alloc (.cells #[.int .i64 0,.int .i64 0] 48)=w2 at H1 H2 HB2 ⊢;obtain⟨B,hB⟩:∃B,w.heap.size=B:=⟨_,rfl⟩
 have HBB:=Hi hB;rw[hB]at H1 H2 ⊢;clear hB;have C1:=hJ_any (HMM.o.below HB2.o) HI.o;go_wp2_with fail
 go_at_call 67;refine C1.mono ?_;rintro e w3 ⟨A,c,rfl,hor,hb⟩;obtain⟨nK,hnK⟩:∃n,h.K.length=n:=⟨_,rfl⟩
 have HNK:=Hi hnK;rw[hnK];have HORa:Hid (OpsR (fun k=>k<(w3.alloc (.cells #[.slice A nK c] 58)).heap.size) (w3.alloc (.cells #[.slice A nK c] 58)) A h.K):=hor.below ((sA _ w3).alloc (sB _) _);have HB3:Hid (Below w.heap.size w (w3.alloc (.cells #[.slice A nK c] 58))):=(HB2.o.trans (hb.mono HB2.o.size)).alloc (by have:=HB2.o.size;have:=hb.size;omega) _;have HJ:=Hi (Blk.new w3 58 #[.slice A nK c]);have H1a:=Hi ((H1.o.keep (hb.block _ H1.o.lt)).alloc (.cells #[.slice A nK c] 58));have H2a:=Hi ((H2.o.keep (hb.block _ H2.o.lt)).alloc (.cells #[.slice A nK c] 58));clear C1 hor hb hnK H1 H2 HB2;go_upto_region 2 with fail
 generalize w3.alloc (.cells #[.slice A nK c] 58)=w4 at HORa HB3 HJ H1a H2a ⊢;generalize w3.heap.size=qj at HJ ⊢;have v0:=cZ H1a.o 7 rfl;have v1:=cZ H1a.o 8 rfl;have v2:=cZ H1a.o 9 rfl;have v3:=cZ H1a.o 10 rfl;have v4:=cZ H1a.o 11 rfl;have C2:=jT o.vk o.vn o.va o.vb o.vt w4;go_wp2_with fail
 go_at_call 68;refine C2.mono ?_;rintro e w5 ⟨rfl,hb⟩;have HB5:Hid (Below w.heap.size w w5):=HB3.o.trans (hb.mono HB3.o.size);have HOR5:=Hi (HORa.o.below hb);have H15:=Hi (H1a.o.keep (hb.block _ H1a.o.lt));have H25:=Hi (H2a.o.keep (hb.block _ H2a.o.lt));have HJ5:=Hi (HJ.o.keep (hb.block _ HJ.o.lt));clear C2 hb v0 v1 v2 v3 v4 HB3 HORa H1a H2a HJ;generalize aE o.vk o.vn o.vt o.va o.vb=zv;have v0:=cZ H15.o 7 rfl;have v1:=cZ H15.o 8 rfl;have v2:=cZ H15.o 9 rfl;have v3:=cZ H15.o 10 rfl;have v4:=cZ H15.o 11 rfl;have C3:=iV o.vk o.vn o.va o.vb o.vt w5;go_wp2_with fail
 go_at_call 69;refine C3.mono ?_;rintro e w6 ⟨rfl,hb⟩;have HB6:Hid (Below w.heap.size w w6):=HB5.o.trans (hb.mono HB5.o.size);have HOR6:=Hi (HOR5.o.below hb);have H16:=Hi (H15.o.keep (hb.block _ H15.o.lt));have H26:=Hi (H25.o.keep (hb.block _ H25.o.lt));have HJ6:=Hi (HJ5.o.keep (hb.block _ HJ5.o.lt));clear C3 hb v0 v1 v2 v3 v4 HB5 HOR5 H15 H25 HJ5;generalize dE o.vk=zo;have p0:=cZ HJ6.o 0 rfl;have v1:=cZ H16.o 1 rfl;have v2:=cZ H16.o 2 rfl;have v3:=cZ H16.o 3 rfl;have C4:=hKey_any h.K o.on o.oa o.key A c w6 HOR6.o.row (by have:=HKL.o;omega);rw[HNK.o]at C4;go_wp2_with fail
 go_at_call 70;refine C4.mono ?_;rintro e w7 ⟨⟨kf,rfl⟩,hb⟩;have HB7:Hid (Below w.heap.size w w7):=HB6.o.trans (hb.mono HB6.o.size);have HOR7:=Hi (HOR6.o.below hb);have H17:=Hi (H16.o.keep (hb.block _ H16.o.lt));have H27:=Hi (H26.o.keep (hb.block _ H26.o.lt));have HJ7:=Hi (HJ6.o.keep (hb.block _ HJ6.o.lt));clear C4 hb p0 v1 v2 v3 HB6 HOR6 H16 H26 HJ6;have v0:=cZ H17.o 0 rfl;have v7:=cZ H17.o 7 rfl;go_upto_region 5 with fail
 generalize Value.agg #[.int .i64 o.k,.int .i64 o.on,.int .i64 o.oa,.string o.key,.int .i64 o.en,.int .i64 o.ea,.bool o.ins,.int .i64 o.vk,.int .i64 o.vn,.string o.vt,.int .i64 o.va,.int .i64 o.vb,.slice none 0 0]=va;generalize Value.agg #[.int .i64 o.vk,.int .i64 o.vn,.string o.vt,.int .i64 o.va,.int .i64 o.vb]=vv;generalize Value.agg #[.int .i64 o.on,.int .i64 o.oa]=vo;go_cut [54] (fun s54 wd=>∃b:Bool,s54=.bool b∧w7=wd)
 case first =>
  by_cases hkf:kf=0
  ·subst hkf;cases zv<;>cases zo<;>(go_wp2_with fail;all_goals (go_meet;case rel=>exact⟨_,rfl,rfl⟩))
  ·have hz:(kf == (0:Int))=false:=by simp[hkf]
   clear hkf;go_wp2_with fail
   go_meet
   case rel=>exact⟨_,rfl,rfl⟩
 case rest =>
  obtain⟨b,rfl,rfl⟩:=hcut
  clear v0 v7;go_upto_if 54 with fail
  go_cut [9] (fun s9 wd=>∃k:Int,s9=.int .i64 k∧w7=wd)
  case first =>
   cases b;all_goals (go_wp2_with fail;go_meet;case rel=>exact⟨_,rfl,rfl⟩)
  case rest =>
   obtain⟨k9,rfl,rfl⟩:=hcut
   obtain⟨r0,r1⟩:=ce2 H27.o
   have f0:=H27.o.frozen 0;have f1:=H27.o.frozen 1;by_cases hk9:k9=0
   case neg =>
    go_wp2_with fail
    have hbl:=(H27.o.set_ 0 (.int .i64 0)).set_ 1 (.int .i64 0);refine bodyPost_ret (fW (p:=4) (s:=5) (by kernel_rfl) _ _ (B+1) 48 #[.int .i64 0,.int .i64 0] _ rfl hbl Tryz.underlying48 rfl (by kernel_rfl)) rfl ?_;exact kE.no _ HI.o ⟨_,_,_,_,_,HMM.o⟩ ((HB7.o.setCell (by show w.heap.size≤B+1;have:=HBB.o;omega) _).setCell (by show w.heap.size≤B+1;have:=HBB.o;omega) _)
   subst hk9;have p0:=cZ HJ7.o 0 rfl;obtain⟨c0,c1,c2,c3,c4,c5,c6,c7,c8,c9,c10,c11,c12⟩:=ce13 H17.o
   have C5:=rW (HMM.o.below HB7.o) HI.o o HOK.o HOV.o (fun e=>by rw[HOU.o]at e;cases e) A c HOR7.o 0 0;rw[HNK.o,HVO.o]at C5;clear r0 r1 f0 f1;go_wp2_with fail
   go_at_call 71;refine C5.mono ?_;rintro e w8 ⟨h',i1,i2,k,rfl,hI64,hI',hres⟩;have H28:=Hi (hres.kept (w:=w) HLT.o.2 (by have:=HBB.o;omega) H27.o);have HRW:Hid (kA D F w ((w8.setCell ⟨B+1,0,none⟩ (.int .i64 i1)).setCell ⟨B+1,1,none⟩ (.int .i64 i2)) g h'):=hres.wrap HB7.o HLT.o (by have:=HBB.o;omega) H27.o.lt _ _;have HI64:=Hi hI64;have HI':=Hi hI';obtain⟨r0,r1⟩:=ce2 H28.o
   have f0:=H28.o.frozen 0;have f1:=H28.o.frozen 1;clear C5 hI64 hI' hres p0;clear c0 c1 c2 c3 c4 c5 c6 c7 c8 c9 c10 c11 c12;go_wp2_with fail
   have hbl:=(H28.o.set_ 0 (.int .i64 i1)).set_ 1 (.int .i64 i2);refine bodyPost_ret (fW (p:=4) (s:=5) (by kernel_rfl) _ _ (B+1) 48 #[.int .i64 i1,.int .i64 i2] _ rfl hbl Tryz.underlying48 rfl (by kernel_rfl)) rfl ?_;exact⟨h',i1,i2,_,rfl,HI64.o,HI'.o,HRW.o⟩
end
section
theorem hCommit_any{D FB F:Nat→Prop}{w:World}{g gb:Nat}{h:HandD}{VL VW VP:Value}(m:HM D FB F w g gb h VL VW VP)(hi:HandI h):
 Calls Tryz.prog 32 #[.pointer (some ⟨g,0,none⟩)] w fun e w'=>kE D F w g e w':=by
 obtain⟨AP,cP,hVP,-,-,-⟩:=aC.of_own m.oP
 subst hVP;obtain⟨nP,hnP⟩:∃n,h.P.length=n:=⟨_,rfl⟩
 obtain⟨nH,hnH⟩:∃n,(gY h.L).length=n:=⟨_,rfl⟩
 obtain⟨nL,hnL⟩:∃n,h.L.length=n:=⟨_,rfl⟩
 obtain⟨nW,hnW⟩:∃n,h.W.length=n:=⟨_,rfl⟩
 have HNS:=Hi (And.intro hnP (And.intro hnH (And.intro hnL hnW)));have HMM:=Hi m;have HI:=Hi hi;have hmost:=hi.inv.most;have hnhl:nH≤nL:=by have:=headsP_len h.L;omega
 rw[hnL,hnW]at hmost;have hb1:Below w.heap.size w (w.alloc (.cells #[.int .i64 0,.int .i64 0] 45)):=(sA _ w).alloc (sB _) _;have HR1:=Hi (Blk.new w 45 #[.int .i64 0,.int .i64 0]);have HB1:=Hi hb1;have C1:=sheads_any h.L h.W gb _ (m.bm.br.below hb1) (by omega);have hm1:=(m.below hb1).blk;rw[hnP]at hm1;have g1:=cZ hm1 1 rfl;clear m hi hb1 hm1 hnP hnH hnL hnW;go_enter Tryz.func32,Tryz.ntmps32;go_upto_region 1 with fail
 generalize w.alloc (.cells #[.int .i64 0,.int .i64 0] 45)=w1 at HR1 HB1 C1 g1 ⊢;obtain⟨B,hB⟩:∃B,w.heap.size=B:=⟨_,rfl⟩
 have HBB:=Hi hB;rw[hB]at HR1 ⊢;clear hB;go_wp2_with fail
 go_at_call 73;refine C1.mono ?_;rintro e w2 ⟨v,rfl,ho,hb⟩;obtain⟨AH,cH,hv,-,-,-⟩:=aC.of_own ho
 subst hv;have HH:Hid (w2.ownsRow w1.heap.size 45 2 (.slice AH nH cH) nH (aF (gY h.L))):=by have:=ho;rw[HNS.o.2.1]at this;exact this
 rw[HNS.o.2.1];have HB2:Hid (Below w.heap.size w w2):=HB1.o.trans (hb.mono HB1.o.size);have HR2:=Hi (HR1.o.keep (hb.block _ HR1.o.lt));have HS1:Hid (B+1≤w1.heap.size∧w1.heap.size≤w2.heap.size):=⟨HR1.o.lt,hb.size⟩;have hm2:=(HMM.o.below HB2.o).blk;rw[HNS.o.1]at hm2;obtain⟨AL,cL,AW,cW,hbk,-,-⟩:=(HMM.o.below HB2.o).bm.br
 rw[HNS.o.2.2.1,HNS.o.2.2.2]at hbk;have g1:=cZ hm2 1 rfl;have g2:=cZ hm2 2 rfl;obtain⟨k0,k1⟩:=ce2 hbk
 obtain⟨r0,r1⟩:=ce2 HR2.o
 have f0:=HR2.o.frozen 0;have f1:=HR2.o.frozen 1;clear C1 ho hb HB1 HR1 hm2 hbk;by_cases hp0:nP=0
 ·subst hp0;go_wp2_with fail
  have hbl:=(HR2.o.set_ 0 (.int .i64 0)).set_ 1 (.int .i64 0);refine bodyPost_ret (fW (p:=2) (s:=3) (by kernel_rfl) _ _ B 45 #[.int .i64 0,.int .i64 0] _ rfl hbl Tryz.underlying45 rfl (by kernel_rfl)) rfl ?_;exact kE.no 6 HI.o ⟨_,_,_,_,_,HMM.o⟩ ((HB2.o.setCell (by show w.heap.size≤B;have:=HBB.o;omega) _).setCell (by show w.heap.size≤B;have:=HBB.o;omega) _)
 have hwl:IntKind.i64.wrap ((nL:Int)+(nW:Int))=(nL:Int)+(nW:Int):=tH _ (by omega);have e0:((nP:Int) == 0)=false:=by simp[hp0]
 clear hp0 r0 r1 f0 f1;go_upto_region 4 with fail
 obtain⟨z1,e1⟩:∃b,decide ((12:Int)<(nH:Int))=b:=⟨_,rfl⟩
 obtain⟨z4,e4⟩:∃b,decide ((120:Int)≤(nL:Int)+(nW:Int))=b:=⟨_,rfl⟩
 cases z1 with
 |true =>
  go_quiet (fail)
  change Exit.then _ _ _ _ (w2.drewN nq);have HB8:Hid (Below w.heap.size w (w2.drewN nq)):=aH HB2.o nq;have HR8:Hid (Blk (w2.drewN nq) B 45 #[.int .i64 0,.int .i64 0]):=HR2.o;obtain⟨r0,r1⟩:=ce2 HR8.o
  have f0:=HR8.o.frozen 0;have f1:=HR8.o.frozen 1;generalize w2.drewN nq=w8 at HB8 HR8 r0 r1 f0 f1 ⊢;go_wp2_with fail
  have hbl:=(HR8.o.set_ 0 (.int .i64 0)).set_ 1 (.int .i64 0);refine bodyPost_ret (fW (p:=2) (s:=3) (by kernel_rfl) _ _ B 45 #[.int .i64 0,.int .i64 0] _ rfl hbl Tryz.underlying45 rfl (by kernel_rfl)) rfl ?_;exact kE.no 4 HI.o ⟨_,_,_,_,_,HMM.o⟩ ((HB8.o.setCell (by show w.heap.size≤B;have:=HBB.o;omega) _).setCell (by show w.heap.size≤B;have:=HBB.o;omega) _)
 |false =>
 cases z4 with
 |true =>
  go_quiet (fail)
  change Exit.then _ _ _ _ (w2.drewN nq);have HB8:Hid (Below w.heap.size w (w2.drewN nq)):=aH HB2.o nq;have HR8:Hid (Blk (w2.drewN nq) B 45 #[.int .i64 0,.int .i64 0]):=HR2.o;obtain⟨r0,r1⟩:=ce2 HR8.o
  have f0:=HR8.o.frozen 0;have f1:=HR8.o.frozen 1;generalize w2.drewN nq=w8 at HB8 HR8 r0 r1 f0 f1 ⊢;go_wp2_with fail
  have hbl:=(HR8.o.set_ 0 (.int .i64 0)).set_ 1 (.int .i64 0);refine bodyPost_ret (fW (p:=2) (s:=3) (by kernel_rfl) _ _ B 45 #[.int .i64 0,.int .i64 0] _ rfl hbl Tryz.underlying45 rfl (by kernel_rfl)) rfl ?_;exact kE.no 4 HI.o ⟨_,_,_,_,_,HMM.o⟩ ((HB8.o.setCell (by show w.heap.size≤B;have:=HBB.o;omega) _).setCell (by show w.heap.size≤B;have:=HBB.o;omega) _)
 |false =>
 have HE:=Hi e1;go_quiet (fail)
 change Exit.then _ _ _ _ (w2.drewN nq);have HB3:Hid (Below w.heap.size w (w2.drewN nq)):=aH HB2.o nq;have HR3:Hid (Blk (w2.drewN nq) B 45 #[.int .i64 0,.int .i64 0]):=HR2.o;have HH3:Hid ((w2.drewN nq).ownsRow w1.heap.size 45 2 (.slice AH nH cH) nH (aF (gY h.L))):=HH.o;clear g1 g2 k0 k1 e0 e1 e4 HB2 HR2 HH;generalize w2.drewN nq=w3 at HB3 HR3 HH3 ⊢;have hm:=HMM.o.below HB3.o;have C2:=mN h.L h.W h.a g gb _ w3 hm.blk hm.bm.br (fun c hc=>(HI.o.inv.bk.err c hc).1) (by have:=HI.o.inv.most;omega);have hN1:=gH h.L;have hN2:=lG (L:=h.L) (fun c hc=>eE (HI.o.inv.bk.err c hc).1);have hS:=qQ (a:=h.a) (L:=h.L) (fun y hy=>(eU (iX (HI.o.inv.bk.err y hy).1).1).2.2);have hact:=HI.o.act;obtain⟨sN,hsN⟩:∃k,dH h.L=k:=⟨_,rfl⟩
 obtain⟨sS,hsS⟩:∃k,gW h.a h.L=k:=⟨_,rfl⟩
 have HSN:=Hi (And.intro hsN hsS);rw[hsN]at C2 hN1 hN2;rw[hsS]at C2 hS;clear hm hsN hsS;go_wp2_with fail
 go_at_call 74;refine C2.mono ?_;rintro e w4 ⟨rfl,hb⟩;have HB4:Hid (Below w.heap.size w w4):=HB3.o.trans (hb.mono HB3.o.size);have HR4:=Hi (HR3.o.keep (hb.block _ HR3.o.lt));have HH4:=Hi (aO HH3.o hb);have hm4:=(HMM.o.below HB4.o).blk;rw[HNS.o.1]at hm4;have g0:=cZ hm4 0 rfl;have g2:=cZ hm4 2 rfl;have hgl:=hm4.lt;have KS:∀ob,(w4.alloc ob).cell? ⟨g,0,none⟩=some (.int .i64 h.a)∧(w4.alloc ob).cell? ⟨g,2,none⟩=some (.slice AP nP cP):=fun ob=>⟨(tP _ _ ⟨g,0,none⟩ hgl).trans g0,(tP _ _ ⟨g,2,none⟩ hgl).trans g2⟩
 clear C2 hb hm4 hgl HB3 HR3 HH3;go_upto_region 7 with fail
 go_region_held3 (fun V=>V.cell? ⟨g,0,none⟩=some (.int .i64 h.a)∧V.cell? ⟨g,2,none⟩=some (.slice AP nP cP)) (first|exact⟨g0,g2⟩|exact KS _|go_keep) (fail)
 have hb5:Below w4.heap.size w4 ((w4.alloc (.cells #[.int .i64 h.a,.int .i64 sS,.int .i64 sN,.slice AH nH cH,.slice AP nP cP] 33)).drew):=((sA _ w4).alloc (sB _) _).drew;have hx5:Blk ((w4.alloc (.cells #[.int .i64 h.a,.int .i64 sS,.int .i64 sN,.slice AH nH cH,.slice AP nP cP] 33)).drew) w4.heap.size 33 #[.int .i64 h.a,.int .i64 sS,.int .i64 sN,.slice AH nH cH,.slice AP nP cP]:=Blk.new w4 _ _;clear KS g0 g2;generalize (w4.alloc (.cells #[.int .i64 h.a,.int .i64 sS,.int .i64 sN,.slice AH nH cH,.slice AP nP cP] 33)).drew=w5 at hb5 hx5 ⊢;have HB5:Hid (Below w.heap.size w w5):=HB4.o.trans (hb5.mono HB4.o.size);have HR5:=Hi (HR4.o.keep (hb5.block _ HR4.o.lt));have HH5:=Hi (aO HH4.o hb5);have HX5:=Hi hx5;have HQC:Hid (B<w4.heap.size∧∀k,(FB k∨k=g)→k<w4.heap.size):=⟨HR4.o.lt,fun k hk=>by
  have:=HB4.o.size
  rcases hk with hk|rfl
  ·have:=HMM.o.bm.flt hk;omega
  ·have:=HMM.o.blk.lt;omega⟩
 clear hb5 hx5 HB4 HR4 HH4;generalize w4.heap.size=qc at HX5 HQC ⊢;have hm5:=(HMM.o.below HB5.o).blk;have g1:=cZ hm5 1 rfl;obtain⟨c0,c1,c2,c3,c4⟩:=ce5 HX5.o
 clear hm5;go_upto_region 8 with fail
 refine wp_region_still_tail 5 (by kernel_rfl) (by kernel_rfl) ?_;simp only[tE,tO,tG,tT];repeat (first|(refine aQ rfl (fun K hK=>?_);go_simp;refine hK _ ?_;clear hK K)|(refine wpStill_skip rfl ?_;go_frame))
 refine wpStill_nil ?_;change wpList _ _ _ _ _ w5.drew;have HB6:Hid (Below w.heap.size w w5.drew):=HB5.o.drew;have HR6:Hid (Blk w5.drew B 45 #[.int .i64 0,.int .i64 0]):=HR5.o;have HH6:Hid (w5.drew.ownsRow w1.heap.size 45 2 (.slice AH nH cH) nH (aF (gY h.L))):=HH5.o;have HX6:Hid (Blk w5.drew qc 33 #[.int .i64 h.a,.int .i64 sS,.int .i64 sN,.slice AH nH cH,.slice AP nP cP]):=HX5.o;clear HB5 HR5 HH5 HX5 g1 c0 c1 c2 c3 c4;generalize w5.drew=w6 at HB6 HR6 HH6 HX6 ⊢;obtain⟨cc,hcc⟩:∃c,h.ch AH cH AP cP=c:=⟨_,rfl⟩
 have HCC:=Hi hcc;have hvc:cc.v=.agg #[.int .i64 h.a,.int .i64 sS,.int .i64 sN,.slice AH nH cH,.slice AP nP cP]:=by
  rw[←hcc,←HSN.o.1,←HSN.o.2,←HNS.o.1,←HNS.o.2.1];rfl
 have HEE:Hid (∀k,(Value.slice AH nH cH).ownBlock=some k→w.heap.size≤k∧k<w6.heap.size∧k≠B):=fun k hk=>by
  have h1:=aD HH6.o hk;have h2:=HS1.o.1;have h3:=HBB.o;exact⟨by omega,h1.2,by omega⟩
 have hbm:=HMM.o.commitD HB6.o (fun k hk=>⟨(HEE.o k hk).1,(HEE.o k hk).2.1⟩);have hin:ChIn (fun k=>D k∨(Value.slice AP h.P.length cP).ownBlock=some k∨(Value.slice AH nH cH).ownBlock=some k) w6 cc:=by
  obtain⟨A1,c1,e1,-,-,hr1⟩:=aC.of_own HH6.o
  simp only[tS,true_and]at e1;obtain⟨rfl,rfl⟩:=e1
  have m6:=HMM.o.below HB6.o;obtain⟨A2,c2,e2,-,-,hr2⟩:=aC.of_own m6.oP
  simp only[tS,true_and]at e2;obtain⟨rfl,rfl⟩:=e2
  rw[←hcc];refine⟨?_,?_,hr2.more fun k hk=>.inr (.inl hk),?_,fun x hx=>⟨(m6.pin x hx).1.more fun k hk=>.inl hk,(m6.pin x hx).2⟩⟩
  ·show aC _ w6 2 AH (gY h.L).length _;rw[HNS.o.2.1];exact hr1.more fun k hk=>.inr (.inr hk)
  ·show(gY h.L).length≤_
   rw[HNS.o.2.1];omega
  ·have:=HI.o.few
   show h.P.length≤_;omega
 have C3:=oJ h.L h.W cc _ FB VL VW gb w6 hbm HI.o.inv hin (by rw[←hcc];exact HI.o.wfP);rw[hvc]at C3;clear hcc hvc hbm hin;go_wp2_with fail
 go_at_call 36;refine C3.mono ?_;rintro e w7 ⟨rfl,ht⟩;obtain⟨te,hte⟩:∃k,(aS h.L h.W cc).2=k:=⟨_,rfl⟩
 have HTE:=Hi hte;have HT:=Hi ht;rw[hte];have hch:Chg FB w6 w7:=by obtain⟨_,_,_,_,_,hc⟩:=ht;exact hc
 have HCH:=Hi hch;have HR7:=Hi (HR6.o.keep (hch.block B HR6.o.lt (fun e=>by have:=HMM.o.bm.flt e;have:=HBB.o;omega)));have HX7:=Hi (HX6.o.keep (hch.block qc HX6.o.lt (fun e=>by have:=HQC.o.2 qc (.inl e);omega)));have HB7:Hid (HMx D F w g h):=⟨_,_,_,_,_,HMM.o⟩;have HEQ:Hid (∀k,(Value.slice AH nH cH).ownBlock=some k→w.heap.size≤k∧k<w6.heap.size∧k≠B):=HEE.o;have HBS6:Hid (B<w6.heap.size):=HR6.o.lt;clear C3 ht hte hch HR6 HX6 HEE HH6;by_cases h0:te=0
 case neg =>
  have hno:oD B D F w w7 g h:=HMM.o.refused HB6.o HEQ.o (by have:=HBB.o;omega) HBS6.o (by have:=HT.o;rw[takeP_no (by rw[HTE.o];exact h0)]at this;exact this);have HNO:=Hi hno;obtain⟨r0,r1⟩:=ce2 HR7.o
  have f0:=HR7.o.frozen 0;have f1:=HR7.o.frozen 1;have e0:((te:Int) != 0)=true:=by simp;omega
  clear hno h0;go_wp2_with fail
  have hbl:=(HR7.o.set_ 0 (.int .i64 0)).set_ 1 (.int .i64 0);refine bodyPost_ret (fW (p:=2) (s:=3) (by kernel_rfl) _ _ B 45 #[.int .i64 0,.int .i64 0] _ rfl hbl Tryz.underlying45 rfl (by kernel_rfl)) rfl ?_;exact⟨h,0,0,_,rfl,⟨by decide,by decide⟩,HI.o,HNO.o.fin (by have:=HBB.o;omega) _ _⟩
 subst h0;have hcm:oD B D F w (w7.setCell ⟨g,2,none⟩ (.slice none 0 0)) g { h with L:=(aS h.L h.W cc).1.1,W:=(aS h.L h.W cc).1.2,P:=[] } :=
  HMM.o.committed HB6.o HEQ.o (by have:=HBB.o;omega) HBS6.o HT.o
 have HCM:=Hi hcm;have HIN:Hid (HandI { h with L:=(aS h.L h.W cc).1.1,W:=(aS h.L h.W cc).1.2,P:=[] }):=by
  have:=HI.o.commit AH cH AP cP
  rw[HCC.o]at this;exact this
 have hgb:=HB6.o.size;have hgl:=HMM.o.blk.lt;have hm7:Blk w7 g 83 #[.int .i64 h.a,.pointer (some ⟨gb,0,none⟩),.slice AP nP cP]:=by
  have h1:=(HMM.o.below HB6.o).blk;rw[HNS.o.1]at h1;exact h1.keep (HCH.o.block g h1.lt HMM.o.ng)
 have hqg:qc≠g:=fun e=>by have:=HQC.o.2 g (.inr rfl);omega
 have hBg:B≠g:=fun e=>by have:=HBB.o;omega
 have g2:=cZ hm7 2 rfl;have f2:=hm7.frozen 2;have HX8:=Hi (HX7.o.far (p:=⟨g,2,none⟩) hqg (.slice none 0 0));have HR8:=Hi (HR7.o.far (p:=⟨g,2,none⟩) hBg (.slice none 0 0));have g0:=cZ hm7 0 rfl;clear hcm hgb hm7 hgl hBg HX7 HR7 HT;go_upto_region 12 with fail
 generalize w7.setCell ⟨g,2,none⟩ (.slice none 0 0)=w8 at HCM HX8 HR8 ⊢;obtain⟨c0,c1,c2,c3,c4⟩:=ce5 HX8.o
 clear g0 g2 f2;go_wp2_with fail
 go_at_call 55;refine(eI _ _ _ _ _ _ rfl rfl rfl).mono ?_
 rintro e w9 ⟨rfl,hb⟩;have HC9:=Hi (HCM.o.below hb);have HR9:=Hi (HR8.o.keep (hb.block _ HR8.o.lt));obtain⟨r0,r1⟩:=ce2 HR9.o
 have f0:=HR9.o.frozen 0;have f1:=HR9.o.frozen 1;clear hb c0 c1 c2 c3 c4 HCM HX8 HR8;go_wp2_with fail
 have hbl:=(HR9.o.set_ 0 (.int .i64 h.a)).set_ 1 (.int .i64 sS);refine bodyPost_ret (fW (p:=2) (s:=3) (by kernel_rfl) _ _ B 45 #[.int .i64 h.a,.int .i64 sS] _ rfl hbl Tryz.underlying45 rfl (by kernel_rfl)) rfl ?_;exact⟨_,h.a,sS,0,rfl,⟨by show _;omega,by show _;omega⟩,HIN.o,HC9.o.fin (by have:=HBB.o;omega) _ _⟩
end
section
def MrgR(D F:Nat→Prop)(w:World)(g:Nat)(e:Ending)(w':World):Prop :=
 ∃(h':HandD) (i k:Int),e=.returned (.tuple #[.int .i64 i,.int .i64 k])∧HandI h'∧kA D F w w' g h'
theorem all_in{D:Nat→Prop}{w:World}{L:List ChD}(hb:Bk L)(h:∀c∈L,ChIn D w c):∀c∈dU L,ChIn D w c:=fun c hc=>h c ((gU hb).mem_iff.1 hc)
theorem hMerge_any{D FB F FB2 F2:Nat→Prop}{w:World}{g gb g2 gb2:Nat}{h h2:HandD}{VL VW VP VL2 VW2 VP2:Value}(m:HM D FB F w g gb h VL VW VP)(hi:HandI h)(m2:HM D FB2 F2 w g2 gb2 h2 VL2 VW2 VP2)(hi2:HandI h2):
 Calls Tryz.prog 33 #[.pointer (some ⟨g,0,none⟩),.pointer (some ⟨g2,0,none⟩)] w fun e w'=>MrgR D F w g e w':=by
 obtain⟨AP,cP,hVP,-,-,-⟩:=aC.of_own m.oP
 subst hVP;obtain⟨nP,hnP⟩:∃n,h.P.length=n:=⟨_,rfl⟩
 have HNP:=Hi hnP;have HMM:=Hi m;have HI:=Hi hi;have hm:=m.blk;rw[hnP]at hm;have C1:=qY h2.L h2.W gb2 w m2.bm.br hi2.inv.bk (by have:=hi2.inv.most;omega);obtain⟨LL,hLL⟩:∃l,dU h2.L=l:=⟨_,rfl⟩
 have HLI:Hid (∀c∈LL,ChIn D w c):=by rw[←hLL];exact all_in hi2.inv.bk m2.bm.inL
 have HLV:Hid (∀c∈LL,∀o∈c.ops,(Lit.int .i64 o.vn).wf=true):=fun c hc=>(hi2.inv.bk.err c ((gU hi2.inv.bk).mem_iff.1 (by rw[hLL];exact hc))).2
 have HLN:Hid (LL.length≤120):=by
  have h1:=(gU hi2.inv.bk).length_eq;have h2:=hi2.inv.most;rw[hLL]at h1;show _≤_;omega
 rw[hLL]at C1;have b2:=cZ hm 2 rfl;have o1:=cZ m2.blk 1 rfl;clear m hi m2 hi2 hm hnP hLL;go_enter Tryz.func33,Tryz.ntmps33;by_cases hp0:nP=0
 case neg =>
  have e0:decide ((0:Int)<(nP:Int))=true:=sH (by omega);go_wp2_with fail
  go_ret2;exact⟨h,0,7,rfl,HI.o,kA.same ⟨_,_,_,_,_,HMM.o⟩ (sA _ _)⟩
 subst hp0;have HPE:Hid (h.P=[]):=vD HNP.o;go_wp2_with fail
 go_at_call 35;refine C1.mono ?_;rintro e w1 ⟨v,rfl,ho,hb⟩;obtain⟨AR,cR,hv,-,-,-⟩:=aC.of_own ho
 subst hv;obtain⟨n,hn⟩:∃n,LL.length=n:=⟨_,rfl⟩
 have HN:=Hi hn;have HO:=Hi ho;have HB1:=Hi hb;rw[hn]at HO HLN ⊢;have HBM:=Hi (HMM.o.bm.below hb);have HROW:Hid (∀k,(Value.slice AR n cR).ownBlock=some k→w.heap.size≤k∧k<w1.heap.size):=fun k hk=>aD HO.o hk
 have HFR:Hid (∀k,FB k→(Value.slice AR n cR).ownBlock≠some k):=fun k hk e=>by have h1:=HMM.o.bm.flt hk;have h2:=(HROW.o k e).1;omega
 clear C1 ho hb hn b2 o1;go_upto_region 6 with fail
 go_loopw [6,8,9,10] (fun s6 s8 _ _ wr=>∃(i k:Nat) (FB':Nat→Prop) (L' W':List ChD) (VL' VW':Value),s6=.int .i64 k∧s8=.int .i64 i∧k≤i∧i≤n∧Hid (Inv L' W')∧Hid (BM D FB' wr gb L' W' VL' VW')∧Hid (∀k,FB' k→FB k∨w.heap.size≤k)∧Hid (∀k,FB' k→(Value.slice AR n cR).ownBlock≠some k)∧Hid (Chg FB w wr)∧Hid (wr.ownsRow w.heap.size 33 5 (.slice AR n cR) n (aW LL))) (fun _ s8 _ _ _=>n-(intOf s8).toNat)
 case atStart=>exact⟨0,0,FB,h.L,h.W,VL,VW,rfl,rfl,sB _,uU _,HI.o.inv,HBM,(by show ∀k,_→_;exact fun k hk=>.inl hk),HFR,Chg.of_below HB1.o,HO⟩
 case round =>
  clear HBM HFR HO HB1 HROW;obtain⟨i,k,FB',L',W',VL',VW',rfl,rfl,hki,hin,HV,HBM,HF,HFR,HC,HO⟩:=hrel
  have hgl:g<w.heap.size:=HMM.o.blk.lt;have hbk:Blk wr g 83 #[.int .i64 h.a,.pointer (some ⟨gb,0,none⟩),.slice AP h.P.length cP]:=HMM.o.blk.keep (HC.o.block g hgl HMM.o.ng);have g1:=cZ hbk 1 rfl;have HGB:Hid (g<wr.heap.size):=hbk.lt;clear hbk hgl;have hnn:=HLN.o;by_cases hlt:i<n
  ·obtain⟨x,hx⟩:∃x,LL[i]?=some x:=⟨_,sC (by rw[HN.o];exact hlt)⟩
   have HXM:=Hi (sJ hx);obtain⟨AL,cL,AW,cW,hgb,hL2,-⟩:=HBM.o.br
   obtain⟨nL,hnL⟩:∃k,L'.length=k:=⟨_,rfl⟩
   have HNL:=Hi hnL;have hil:nL≤120:=by have:=HV.o.most;omega
   have s0:wr.cell? ⟨gb,0,none⟩=some (.slice AL nL cL):=by rw[←hnL];exact hgb.cell 0
   have HLR:Hid (aC (fun k=>k<wr.heap.size) wr 5 AL L'.length (aW L')):=hL2.row;obtain⟨A9,c9,e9,-,-,hr9⟩:=aC.of_own HO.o
   simp only[tS,true_and]at e9;obtain⟨rfl,rfl⟩:=e9
   obtain⟨b1,o1,rfl,hbl,hc1⟩:=hr9.at_ (by omega) (by omega)
   have hb1l:b1<wr.heap.size:=(aD HO.o hbl).2;have hgbl:gb<wr.heap.size:=hgb.lt;have hcx:∀j v,x.cells[j]?=some v→j<5→wr.cell? ⟨b1,o1+i*5+j,none⟩=some v:=fun j v hj h5=>by
    have h3:=aI hx j h5;rw[hj]at h3;have h4:=hc1 _ _ h3;rw[←tY]at h4;exact h4
   have x0:wr.cell? ⟨b1,o1+i*5,none⟩=some (.int .i64 x.a):=hcx 0 _ rfl (by omega);have x1:wr.cell? ⟨b1,o1+i*5+1,none⟩=some (.int .i64 x.s):=hcx 1 _ rfl (by omega);have x2:wr.cell? ⟨b1,o1+i*5+2,none⟩=some (.int .i64 x.st):=hcx 2 _ rfl (by omega);have x3:wr.cell? ⟨b1,o1+i*5+3,none⟩=some (.slice x.DA x.deps.length x.DC):=hcx 3 _ rfl (by omega);have x4:wr.cell? ⟨b1,o1+i*5+4,none⟩=some (.slice x.OA x.ops.length x.OC):=hcx 4 _ rfl (by omega);have KS:∀V:World,Below wr.heap.size wr V→V.cell? ⟨g,1,none⟩=some (.pointer (some ⟨gb,0,none⟩))∧V.cell? ⟨gb,0,none⟩=some (.slice AL nL cL)∧V.cell? ⟨b1,o1+i*5,none⟩=some (.int .i64 x.a)∧V.cell? ⟨b1,o1+i*5+1,none⟩=some (.int .i64 x.s)∧V.cell? ⟨b1,o1+i*5+2,none⟩=some (.int .i64 x.st)∧V.cell? ⟨b1,o1+i*5+3,none⟩=some (.slice x.DA x.deps.length x.DC)∧V.cell? ⟨b1,o1+i*5+4,none⟩=some (.slice x.OA x.ops.length x.OC)∧Below wr.heap.size wr V:=fun V hv=>by
    have e1:∀j,V.cell? ⟨g,j,none⟩=wr.cell? ⟨g,j,none⟩:=fun j=>sK (hv.block _ HGB.o)
    have e2:∀j,V.cell? ⟨b1,j,none⟩=wr.cell? ⟨b1,j,none⟩:=fun j=>sK (hv.block _ hb1l)
    have e3:∀j,V.cell? ⟨gb,j,none⟩=wr.cell? ⟨gb,j,none⟩:=fun j=>sK (hv.block _ hgbl)
    rw[e1,e3];simp only[e2];exact⟨g1,s0,x0,x1,x2,x3,x4,hv⟩
   obtain⟨nR,hnR⟩:∃k,(eJ L').length=k:=⟨_,rfl⟩
   have hnR2:nR≤120:=by have:=refsP_len L';omega
   have HRS:Hid (∀V,Below wr.heap.size wr V→Calls Tryz.prog 15 #[.slice AL nL cL] V fun e w'=>∃A c,e=.returned (.slice A nR c)∧(∀V',Below w'.heap.size w' V'→aC (fun k=>k<V'.heap.size) V' 2 A nR (aF (eJ L')))∧Below V.heap.size V w'):=fun V hv=>by
    have:=srefs_any L' (fun k=>k<V.heap.size) AL cL V (aA HLR.o hv) (fun _ h=>h) (by omega)
    rw[hnL]at this;refine this.mono ?_;rintro e w' ⟨v,rfl,ho,hb⟩;obtain⟨A,c,rfl,-,-,hr⟩:=aC.of_own ho
    rw[hnR]at ho hr ⊢;exact⟨A,c,rfl,fun V' hv'=>aA (hr.more fun k hk=>(aD ho hk).2) hv',hb⟩
   have HHS:Hid (∀V A c,aC (fun k=>k<V.heap.size) V 2 A nR (aF (eJ L'))→Calls Tryz.prog 18 #[.slice A nR c,.agg #[.int .i64 x.a,.int .i64 x.s]] V fun e w'=>(∃b,e=.returned (.bool b))∧Below V.heap.size V w'):=fun V A c hr=>by
    have:=jE (eJ L') (x.a,x.s) (fun k=>k<V.heap.size) A c V (by rw[hnR];exact hr) (fun _ h=>h) (by omega)
    rw[hnR]at this;refine this.mono ?_;rintro e w' ⟨rfl,hb⟩;exact⟨⟨_,rfl⟩,hb⟩
   have HXC:Hid (∀V,Below wr.heap.size wr V→V.cell? ⟨g,1,none⟩=some (.pointer (some ⟨gb,0,none⟩))∧V.cell? ⟨b1,o1+i*5,none⟩=some (.int .i64 x.a)∧V.cell? ⟨b1,o1+i*5+1,none⟩=some (.int .i64 x.s)∧V.cell? ⟨b1,o1+i*5+2,none⟩=some (.int .i64 x.st)∧V.cell? ⟨b1,o1+i*5+3,none⟩=some (.slice x.DA x.deps.length x.DC)∧V.cell? ⟨b1,o1+i*5+4,none⟩=some (.slice x.OA x.ops.length x.OC)):=fun V hv=>by
    have:=KS V hv
    exact⟨this.1,this.2.2.1,this.2.2.2.1,this.2.2.2.2.1,this.2.2.2.2.2.1,this.2.2.2.2.2.2.1⟩
   clear hx hgb hL2 hr9 hbl hc1 hcx hnL hnR hnR2;go_upto_region 8 with fail
   go_region_held3 (fun w'=>w'.cell? ⟨g,1,none⟩=some (.pointer (some ⟨gb,0,none⟩))∧w'.cell? ⟨gb,0,none⟩=some (.slice AL nL cL)∧w'.cell? ⟨b1,o1+i*5,none⟩=some (.int .i64 x.a)∧w'.cell? ⟨b1,o1+i*5+1,none⟩=some (.int .i64 x.s)∧w'.cell? ⟨b1,o1+i*5+2,none⟩=some (.int .i64 x.st)∧w'.cell? ⟨b1,o1+i*5+3,none⟩=some (.slice x.DA x.deps.length x.DC)∧w'.cell? ⟨b1,o1+i*5+4,none⟩=some (.slice x.OA x.ops.length x.OC)∧Below wr.heap.size wr w') (first|exact KS _ (sA _ wr).drew|exact q|go_keep)
    ((first
      |(go_at_call 55;refine(eI _ _ _ _ _ _ (by rfl) (by rfl) (by rfl)).mono ?_;rintro e w7 ⟨rfl,hb7⟩;have q:=KS w7 (by first|exact bT q.2.2.2.2.2.2.2 (sB _) hb7|exact bT (sA _ wr).drew (sB _) hb7))
      |(go_at_call 15;refine(HRS.o _ (by first|exact q.2.2.2.2.2.2.2|exact(sA _ wr).drew)).mono ?_;rintro e w7 ⟨A7,c7,rfl,hrd,hb7⟩;have q:=KS w7 (by first|exact bT q.2.2.2.2.2.2.2 (sB _) hb7|exact bT (sA _ wr).drew (sB _) hb7))
      |(go_at_call 18;refine(HHS.o _ _ _ (hrd _ (by first|exact sA _ _|assumption))).mono ?_;rintro e w7 ⟨⟨b7,rfl⟩,hb7⟩;have q:=KS w7 (by first|exact bT q.2.2.2.2.2.2.2 (sB _) hb7|exact bT (sA _ wr).drew (sB _) hb7))))
   all_goals
    have hb8:Below wr.heap.size wr w7:=q.2.2.2.2.2.2.2;have HB8:=Hi hb8;clear q hb7 hb8 hrd KS g1 s0 x0 x1 x2 x3 x4;generalize w7=w8 at HB8 ⊢;have HBM8:=Hi (HBM.o.below HB8.o);have HC8:Hid (Chg FB w w8):=HC.o.trans (Chg.of_below HB8.o) (fun j _ h=>h);have HO8:=Hi (aO HO.o HB8.o);obtain⟨y1,x0,x1,x2,x3,x4⟩:=HXC.o w8 HB8.o
    cases b7 with
    |true =>
     clear y1 x0 x1 x2 x3 x4;go_wp2_with fail
     go_roundw
     case rel=>exact⟨i+1,k,FB',L',W',VL',VW',rfl,by go_num,by omega,by omega,HV,HBM8,HF,HFR,HC8,HO8⟩
     case measure=>(simp[intOf];try omega)
    |false =>
     have C3:=fun V (hv:Below w8.heap.size w8 V)=>oJ L' W' x D FB' VL' VW' gb V (HBM8.o.below hv) HV.o (((HLI.o x HXM.o).keep fun j hj=>HC8.o.block j (HMM.o.dlt hj) fun e=>HMM.o.hD j hj (HMM.o.inB e)).keep fun j hj=>hv.block j (sD (HMM.o.dlt hj) HC8.o.size)) (HLV.o x HXM.o)
     unfold ChD.v at C3;have C3:=Hi C3;go_upto_region 10 with fail
     refine wp_region_still_tail 8 (by kernel_rfl) (by kernel_rfl) ?_;simp only[tE,tO,tG,tT];repeat (first|(refine aQ rfl (fun K hK=>?_);go_simp;refine hK _ ?_;clear hK K)|(refine wpStill_skip rfl ?_;go_frame))
     refine wpStill_nil ?_;change wpList _ _ _ _ _ w8.drew;have hb9:Below w8.heap.size w8 w8.drew:=(sA _ w8).drew;have C3:=C3.out _ hb9;have HBM9:=Hi (HBM8.o.below hb9);have HC9:Hid (Chg FB w w8.drew):=HC8.o.drew;have HO9:Hid (w8.drew.ownsRow w.heap.size 33 5 (.slice (some ⟨b1,o1,none⟩) n cR) n (aW LL)):=HO8.o;clear hb9 HBM8 HC8 HO8 y1 x0 x1 x2 x3 x4;generalize w8.drew=w9 at C3 HBM9 HC9 HO9 ⊢;go_wp2_with fail
     go_at_call 36;refine C3.mono ?_;rintro e w10 ⟨rfl,F',VL2,VW2,hbm,hF2,hch⟩;have HBMa:=Hi hbm;have HVa:=Hi (jC HV.o (HLV.o x HXM.o));have HFa:Hid (∀k,F' k→FB k∨w.heap.size≤k):=fun k hk=>by
      rcases hF2 k hk with h1|h1
      ·exact HF.o k h1
      ·have:=HC9.o.size;exact .inr (by omega)
     have HFRa:Hid (∀k,F' k→(Value.slice (some ⟨b1,o1,none⟩) n cR).ownBlock≠some k):=fun k hk e=>by
      rcases hF2 k hk with h1|h1
      ·exact HFR.o k h1 e
      ·have:=(aD HO9.o e).2;omega
     have HCa:Hid (Chg FB w w10):=by
      refine⟨hch.os.trans HC9.o.os,hch.tape.trans HC9.o.tape,hch.output.trans HC9.o.output,sY HC9.o.size hch.size,fun j hj hn=>(hch.block j (sD hj HC9.o.size) fun e=>?_).trans (HC9.o.block j hj hn)⟩
      rcases HF.o j e with h1|h1
      ·exact hn h1
      ·omega
     have HOa:Hid (w10.ownsRow w.heap.size 33 5 (.slice (some ⟨b1,o1,none⟩) n cR) n (aW LL)):=aT HO9.o fun j hj=>hch.block j (aD HO9.o hj).2 fun e=>HFR.o j e hj
     obtain⟨te,hte⟩:∃t,(aS L' W' x).2=t:=⟨_,rfl⟩
     rw[hte];clear C3 hbm hF2 hch HBM9 HC9 HO9 hte;by_cases h0:te=0
     ·subst h0;have hwk:IntKind.i64.wrap ((k:Int)+1)=(k:Int)+1:=tH _ (by omega);go_wp2_with fail
      go_roundw
      case rel=>exact⟨i+1,k+1,F',_,_,VL2,VW2,by go_num,by go_num,by omega,by omega,HVa,HBMa,HFa,HFRa,HCa,HOa⟩
      case measure=>(simp[intOf];try omega)
     ·have e0:((te:Int) != 0)=true:=by simp;omega
      clear h0;go_wp2_with fail
      go_ret2;have hm:=HMM.o.book HBMa.o HFa.o HCa.o;have hh:({ h with L:=(aS L' W' x).1.1,W:=(aS L' W' x).1.2 } : HandD)={ h with L:=(aS L' W' x).1.1,W:=(aS L' W' x).1.2,P:=[] }:=by rw[←HPE.o]
      refine⟨{ h with L:=(aS L' W' x).1.1,W:=(aS L' W' x).1.2 },0,_,rfl,by rw[hh];exact HI.o.empty HVa.o,⟨D,_,⟨_,_,_,_,_,hm⟩,fun _ h=>h,fun _ h=>.inl h,fun k hk=>?_,HCa.o.mono fun k _ hk=>HMM.o.inB hk⟩⟩
      rcases hk with e|e|e
      ·exact .inl (e▸HMM.o.inG)
      ·exact(HFa.o k e).elim (fun h=>.inl (HMM.o.inB h)) .inr
      ·exact .inl (HMM.o.inP e)
  ·have hin2:i=n:=by omega
   go_wp2_with fail
   go_ret2;have hm:=HMM.o.book HBM.o HF.o HC.o;have hh:({ h with L:=L',W:=W' } : HandD)={ h with L:=L',W:=W',P:=[] }:=by rw[←HPE.o]
   refine⟨{ h with L:=L',W:=W' },_,0,rfl,by rw[hh];exact HI.o.empty HV.o,⟨D,_,⟨_,_,_,_,_,hm⟩,fun _ h=>h,fun _ h=>.inl h,fun k hk=>?_,HC.o.mono fun k _ hk=>HMM.o.inB hk⟩⟩
   rcases hk with e|e|e
   ·exact .inl (e▸HMM.o.inG)
   ·exact(HF.o k e).elim (fun h=>.inl (HMM.o.inB h)) .inr
   ·exact .inl (HMM.o.inP e)
end
end Go.Proofs.YtjhkcbideddlgaaGreat
