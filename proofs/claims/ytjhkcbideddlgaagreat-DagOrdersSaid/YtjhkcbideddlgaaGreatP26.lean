/- Contracts of a hand of the document's: add (one op more). -/
import Derived.Test.YtjhkcbideddlgaaGreatP25
import Derived.Test.YtjhkcbideddlgaaGreatP16
import Derived.Test.YtjhkcbideddlgaaGreatP1
import Derived.Deep.DeepCutAuto
import Derived.Deep.RegionHeld3
set_option maxHeartbeats 16000000
set_option maxRecDepth 20000
set_option linter.unusedVariables false
set_option linter.unusedSimpArgs false
namespace Go.Proofs.YtjhkcbideddlgaaGreat
open Go.ChangeShapes Go.WideShapes Go.ChangeAt Go.RowKit Go.Proofs.YtjhkcbideddlgaaGreat.Loc
def opV0(o:OpD):Value:=.agg #[.int .i64 o.k,.int .i64 o.on,.int .i64 o.oa,.string o.key,.int .i64 o.en,.int .i64 o.ea,.bool o.ins,.int .i64 o.vk,.int .i64 o.vn,.string o.vt,.int .i64 o.va,.int .i64 o.vb,.slice none 0 0]
theorem fW{P:Program}{fn:Func}{p s:Tmp}{ty:TypeId}(h:fn.results=#[.cell p ty,.tmp s])(tmps:Array Value)(w:World)(g:Nat)(t:TypeId)(cs:Array Value)(d:TypeDesc)
 (hp:tmps.getD p undef=.pointer (some ⟨g,0,none⟩)) (hg:Blk w g t cs)
 (hu:P.underlying ty=some d) (hd:(match d with | .struct _ | .array _ _=>true|_=>false)=true) (hi:(P.info? ty).map (·.size)=some cs.size) :
 (results fn tmps).run P w=.ok (.tuple #[.agg cs,tmps.getD s undef]) w:=by
 have hp':tmps[p]?.getD undef=.pointer (some ⟨g,0,none⟩):=by simpa using hp
 simp[results,h,hp',asAddr,run_loadVar_row w g t ty cs (0,0) d hg hu hd hi]
theorem rW{D FB F:Nat→Prop}{w:World}{g gb:Nat}{h:HandD}{VL VW VP:Value}(m:HM D FB F w g gb h VL VW VP)(hi:HandI h)(o:OpD)(hok:1≤o.k)(hov:IntKind.i64.wrap o.vn=o.vn)(hou:o.ins=true→o.en<h.nid.1)(A:Option Addr)(c:Nat)
 (hr:OpsR (fun k=>k<w.heap.size) w A h.K) (e1 e2:Int) :
 Calls Tryz.prog 71 #[.pointer (some ⟨g,0,none⟩),.agg #[.slice A h.K.length c],opV0 o,.agg #[.int .i64 e1,.int .i64 e2]] w fun e w'=>kE D F w g e w':=by
 have HMM:=Hi m;have HI:=Hi hi;have HOK:=Hi hok;have HOV:=Hi hov;have HOU:=Hi hou;have HOR:=Hi hr;have HKL:=Hi hi.len;unfold opV0;obtain⟨bi,hbi⟩:∃b,o.ins=b:=⟨_,rfl⟩
 have HIN:=Hi hbi;rw[hbi];clear hbi;obtain⟨nK,hnK⟩:∃n,h.K.length=n:=⟨_,rfl⟩
 have HNK:=Hi hnK;rw[hnK]at HKL ⊢;have hb1:Below w.heap.size w (w.alloc (.cells #[.slice A nK c] 58)):=(sA _ w).alloc (sB _) _;have h1:=Blk.new w 58 #[.slice A nK c];have h2:=Blk.new (w.alloc (.cells #[.slice A nK c] 58)) 53 #[.int .i64 o.k,.int .i64 o.on,.int .i64 o.oa,.string o.key,.int .i64 o.en,.int .i64 o.ea,.bool bi,.int .i64 o.vk,.int .i64 o.vn,.string o.vt,.int .i64 o.va,.int .i64 o.vb,.slice none 0 0];have hb2:=hb1.alloc hb1.size (.cells #[.int .i64 o.k,.int .i64 o.on,.int .i64 o.oa,.string o.key,.int .i64 o.en,.int .i64 o.ea,.bool bi,.int .i64 o.vk,.int .i64 o.vn,.string o.vt,.int .i64 o.va,.int .i64 o.vb,.slice none 0 0] 53);have h3:=Blk.new ((w.alloc (.cells #[.slice A nK c] 58)).alloc (.cells #[.int .i64 o.k,.int .i64 o.on,.int .i64 o.oa,.string o.key,.int .i64 o.en,.int .i64 o.ea,.bool bi,.int .i64 o.vk,.int .i64 o.vn,.string o.vt,.int .i64 o.va,.int .i64 o.vb,.slice none 0 0] 53)) 48 #[.int .i64 e1,.int .i64 e2];have hb3:=hb2.alloc hb2.size (.cells #[.int .i64 e1,.int .i64 e2] 48);have h4:=Blk.new (((w.alloc (.cells #[.slice A nK c] 58)).alloc (.cells #[.int .i64 o.k,.int .i64 o.on,.int .i64 o.oa,.string o.key,.int .i64 o.en,.int .i64 o.ea,.bool bi,.int .i64 o.vk,.int .i64 o.vn,.string o.vt,.int .i64 o.va,.int .i64 o.vb,.slice none 0 0] 53)).alloc (.cells #[.int .i64 e1,.int .i64 e2] 48)) 48 #[.int .i64 0,.int .i64 0];have hb4:=hb3.alloc hb3.size (.cells #[.int .i64 0,.int .i64 0] 48);have h1':=((h1.alloc (.cells #[.int .i64 o.k,.int .i64 o.on,.int .i64 o.oa,.string o.key,.int .i64 o.en,.int .i64 o.ea,.bool bi,.int .i64 o.vk,.int .i64 o.vn,.string o.vt,.int .i64 o.va,.int .i64 o.vb,.slice none 0 0] 53)).alloc (.cells #[.int .i64 e1,.int .i64 e2] 48)).alloc (.cells #[.int .i64 0,.int .i64 0] 48);have h2':=(h2.alloc (.cells #[.int .i64 e1,.int .i64 e2] 48)).alloc (.cells #[.int .i64 0,.int .i64 0] 48);have h3':=h3.alloc (.cells #[.int .i64 0,.int .i64 0] 48);simp only[tB]at h2' h3' h4;have H1:=Hi h1';have H2:=Hi h2';have H3:=Hi h3';have H4:=Hi h4;have HB4:=Hi hb4;clear h1 h2 h3 h4 h1' h2' h3' hb1 hb2 hb3 hb4 m hi hok hov hou hr hnK;go_enter Tryz.func71,Tryz.ntmps71;go_upto_region 1 with fail
 generalize (((w.alloc (.cells #[.slice A nK c] 58)).alloc (.cells #[.int .i64 o.k,.int .i64 o.on,.int .i64 o.oa,.string o.key,.int .i64 o.en,.int .i64 o.ea,.bool bi,.int .i64 o.vk,.int .i64 o.vn,.string o.vt,.int .i64 o.va,.int .i64 o.vb,.slice none 0 0] 53)).alloc (.cells #[.int .i64 e1,.int .i64 e2] 48)).alloc (.cells #[.int .i64 0,.int .i64 0] 48)=w4 at H1 H2 H3 H4 HB4 ⊢;obtain⟨B,hB⟩:∃B,w.heap.size=B:=⟨_,rfl⟩
 have HBB:=Hi hB;rw[hB]at H1 H2 H3 H4 ⊢;clear hB;have z6:=cZ H2.o 6 rfl;go_upto_if 18 with fail
 go_cut [10,11] (fun s10 s11 wc=>∃(Av An:Option Addr) (cv cn n:Nat) (VS:List VD) (IS:List Rf),s10=.slice Av n cv∧s11=.slice An n cn∧n≤4840∧Hid (VS.length=n∧IS.length=n)∧Hid (aC (fun k=>B+4≤k∧k<wc.heap.size) wc 5 Av n (cU VS))∧Hid (aC (fun k=>B+4≤k∧k<wc.heap.size) wc 2 An n (aF IS))∧Hid (Below w4.heap.size w4 wc))
 case first =>
  cases bi with
  |true =>
   go_wp2_with fail
   go_meet
   case rel=>exact⟨none,none,0,0,0,[],[],rfl,rfl,by omega,⟨rfl,rfl⟩,aC.none_,aC.none_,sA _ _⟩
  |false =>
   have z1:=cZ H2.o 1 rfl;have z2:=cZ H2.o 2 rfl;have z3:=cZ H2.o 3 rfl;obtain⟨y1,y2⟩:=ce2 H3.o
   have j0:=cZ H1.o 0 rfl;have C1:=sAt_any h.K o.on o.oa o.key e1 e2 A c w4 (HOR.o.below HB4.o) (by rw[HNK.o];have:=HKL.o;omega) (fun x hx=>(HI.o.wf x hx).1) (fun x hx=>(HI.o.wf x hx).2.1);rw[HNK.o]at C1;have HAL:Hid ((atJ h.K ((o.on,o.oa),o.key,(e1,e2))).length≤4840):=by
    have:=atJ_len h.K ((o.on,o.oa),o.key,(e1,e2))
    have:=HKL.o
    have:=HNK.o
    show _≤_;omega
   go_wp2_with fail
   go_at_call 64;refine C1.mono ?_;rintro e w5 ⟨v5,n5,rfl,hov,hon,hb⟩;obtain⟨Av,cv,rfl,-,-,hrv⟩:=aC.of_own hov
   obtain⟨An,cn,rfl,-,-,hrn⟩:=aC.of_own hon
   have h4:B+4≤w4.heap.size:=H4.o.lt;have HRV:Hid (aC (fun k=>B+4≤k∧k<w5.heap.size) w5 5 Av _ _):=hrv.more fun k hk=>⟨sY h4 (aD hov hk).1,(aD hov hk).2⟩
   have HRN:Hid (aC (fun k=>B+4≤k∧k<w5.heap.size) w5 2 An _ _):=hrn.more fun k hk=>⟨sY h4 (aD hon hk).1,(aD hon hk).2⟩
   have HB5:=Hi hb;clear C1 hov hon hb hrv hrn h4 z1 z2 z3 z6 y1 y2 j0;go_wp2_with fail
   go_meet
   case rel=>exact⟨Av,An,cv,cn,_,_,_,rfl,rfl,HAL.o,⟨by rw[tF],by rw[tF]⟩,HRV,HRN,HB5⟩
 case rest =>
  obtain⟨Av,An,cv,cn,n,VS,IS,rfl,rfl,hn,HVI,HRV,HRI,HW⟩:=hcut
  have HS5:Hid (B+4≤wc.heap.size):=sY H4.o.lt HW.o.size;have HB5:Hid (Below w.heap.size w wc):=HB4.o.trans (HW.o.mono HB4.o.size);have H2c:=Hi (H2.o.keep (HW.o.block _ H2.o.lt));have H4c:=Hi (H4.o.keep (HW.o.block _ H4.o.lt));have hw0:IntKind.i64.wrap ((n:Int)-1)=(n:Int)-1:=tH _ (by omega);clear HW H1 H2 H3 H4 HB4 z6;go_upto_region 6 with fail
  go_loopw [12] (fun s12 wr=>∃(k np:Nat) (P:List Rf) (AP:Option Addr) (cP:Nat),s12=.int .i64 ((k:Int)-1)∧k≤n∧np+k≤n∧Hid (P.length=np)∧Hid (wr.ownsRow wc.heap.size 48 2 (.slice AP np cP) np (aF P))∧Hid (Blk wr (B+1) 53 #[.int .i64 o.k,.int .i64 o.on,.int .i64 o.oa,.string o.key,.int .i64 o.en,.int .i64 o.ea,.bool bi,.int .i64 o.vk,.int .i64 o.vn,.string o.vt,.int .i64 o.va,.int .i64 o.vb,.slice AP np cP])∧Hid (Chg (fun j=>j=B+1) wc wr)) (fun s12 _=>(intOf s12+1).toNat)
  case atStart=>exact⟨n,0,[],none,0,by go_num,sB _,by omega,rfl,bB _ _ _ _,H2c,Chg.refl _⟩
  case round =>
   obtain⟨k,np,P,AP,cP,rfl,hk,hnp,HPL,HO,HBo,HC⟩:=hrel
   clear H2c hw0;cases k with
   |succ j =>
    have e0:((j+1:Nat):Int)-1=(j:Int):=by omega
    rw[e0];clear e0;have hjn:j<n:=by omega
    have c0:=cZ HBo.o 0 rfl;have c12:=cZ HBo.o 12 rfl;go_upto_region 8 with fail
    go_cut [46] (fun s46 wd=>∃b:Bool,s46=.bool b∧wr=wd)
    case first =>
     by_cases ho4:o.k=4
     ·obtain⟨vd,hvd⟩:∃v,VS[j]?=some v:=⟨_,sC (by rw[HVI.o.1];omega)⟩
      have hrv:=HRV.o.keep (w':=wr) (HC.o.keeps fun k hk=>⟨hk.2,by omega⟩);obtain⟨vb,vo,rfl,-,hcv⟩:=hrv.at_ (by omega) (by omega)
      have x0:wr.cell? ⟨vb,vo+j*5,none⟩=some (.int .i64 vd.k):=hcv _ _ (valsC_at hvd 0 (by omega));obtain⟨z,hz⟩:∃b,(vd.k == (4:Int))=b:=⟨_,rfl⟩
      rw[ho4]at c0;clear hrv hcv hvd ho4;go_wp2_with fail
      go_meet
      case rel=>exact⟨_,rfl,rfl⟩
     ·have hz:(o.k != (4:Int))=true:=by simp[ho4]
      clear ho4;go_wp2_with fail
      go_meet
      case rel=>exact⟨true,rfl,rfl⟩
    case rest =>
     obtain⟨b,rfl,rfl⟩:=hcut
     have hwj:IntKind.i64.wrap ((j:Int)-1)=(j:Int)-1:=tH _ (by omega);cases b with
     |false =>
      go_wp2_with fail
      go_roundw
      case rel=>exact⟨j,np,P,AP,cP,by go_num,by omega,by omega,HPL,HO,HBo,HC⟩
      case measure=>(simp[intOf];try omega)
     |true =>
      obtain⟨⟨y1,y2⟩,hy⟩:∃r,IS[j]?=some r:=⟨_,sC (by rw[HVI.o.2];omega)⟩
      obtain⟨tb,tf,rfl,htb,hct⟩:=(HRI.o.keep (w':=wr) (HC.o.keeps fun k hk=>⟨hk.2,by omega⟩)).at_ (by omega) (by omega)
      have y1c:wr.cell? ⟨tb,tf+j*2,none⟩=some (.int .i64 y1):=hct _ _ (aN hy).1;have y2c:wr.cell? ⟨tb,tf+j*2+1,none⟩=some (.int .i64 y2):=by have:=hct _ _ (aN hy).2;rw[←tY]at this;exact this
      have HBS:Hid (wc.heap.size≤(wr.drew.alloc (.cells #[.int .i64 y1,.int .i64 y2] 48)).heap.size):=(HC.o.drew.alloc _).size;have HNE:Hid ((Value.slice AP np cP).ownBlock≠some (B+1)):=fun e=>by have h1:=(aD HO.o e).1;have:=HS5.o;omega
      have KS:Hid (∀V:World,(∀i,i<wr.heap.size→i≠B+1→(Value.slice AP np cP).ownBlock≠some i→V.heap[i]?=wr.heap[i]?)→V.cell? ⟨tb,tf+j*2,none⟩=some (.int .i64 y1)∧V.cell? ⟨tb,tf+j*2+1,none⟩=some (.int .i64 y2)):=fun V hV=>by
       have h1:=hV tb (World.block_lt_of_cell? wr _ y1c) (by omega) (fun e=>by have h1:=(aD HO.o e).1;omega);exact⟨(sK h1).trans y1c,(sK h1).trans y2c⟩
      have HO4:Hid ((wr.drew.alloc (.cells #[.int .i64 y1,.int .i64 y2] 48)).ownsRow wc.heap.size 48 2 (.slice AP np cP) np (aF P)):=(show wr.drew.ownsRow wc.heap.size 48 2 (.slice AP np cP) np (aF P) from HO.o).alloc _;obtain⟨i0,hi,hz0,hz1,hz2⟩:=info_parts rS
      clear hct hy htb c0 c12;go_upto_region 9 with fail
      obtain⟨SS,hSS⟩:∃SS:World→Prop,SS=fun V=>V.cell? ⟨tb,tf+j*2,none⟩=some (.int .i64 y1)∧V.cell? ⟨tb,tf+j*2+1,none⟩=some (.int .i64 y2):=⟨_,rfl⟩
      have HSI:∀V,(V.cell? ⟨tb,tf+j*2,none⟩=some (.int .i64 y1)∧V.cell? ⟨tb,tf+j*2+1,none⟩=some (.int .i64 y2))→SS V:=fun V h=>by rw[hSS];exact h
      have HSO:∀V,SS V→(V.cell? ⟨tb,tf+j*2,none⟩=some (.int .i64 y1)∧V.cell? ⟨tb,tf+j*2+1,none⟩=some (.int .i64 y2)):=fun V h=>by rw[hSS]at h;exact h
      have HSI:=Hi HSI;have HSO:=Hi HSO;clear hSS;refine wp_region_held_drew (S:=SS) (by kernel_rfl) (HSI.o _ (KS.out _ (fun j _ _ _=>rfl))) (fun hHeld=>?_);have HSA:Hid (∀j,j<wr.heap.size→j<(wr.alloc (.cells #[.int .i64 y1,.int .i64 y2] 48)).heap.size):=fun j h=>by rw[tB];exact Nat.lt_succ_of_lt h
      have p5:=cZ HBo.o 12 rfl;have p5':(wr.alloc (.cells #[.int .i64 y1,.int .i64 y2] 48)).cell? ⟨B+1,12,none⟩=some (.slice AP np cP):=(HBo.o.alloc _).cell 12;refine aK (i:=0) (v:=?_) rfl (by kernel_rfl) (by kernel_rfl) (by kernel_rfl) (fun _ _ _ h=>h) (Or.inl ⟨by rfl,?_⟩) hHeld ?_
      rotate_left
      ·(intro w _;go_simp;try with_reducible rfl)
      try simp only[Act.put,zA,zB,zC]
      refine aK (i:=2) (v:=?_) rfl (by kernel_rfl) (by kernel_rfl) (by kernel_rfl) (fun _ _ _ h=>h) (Or.inl ⟨by rfl,?_⟩) hHeld ?_
      rotate_left
      ·(intro w _;go_simp;try with_reducible rfl)
      try simp only[Act.put,zA,zB,zC]
      refine aK (i:=3) (v:=?_) rfl (by kernel_rfl) (by kernel_rfl) (by kernel_rfl) (fun _ _ _ h=>h) (Or.inl ⟨by rfl,?_⟩) hHeld ?_
      rotate_left
      ·(intro w _;go_simp;try with_reducible rfl)
      try simp only[Act.put,zA,zB,zC]
      refine aK (i:=4) (v:=?_) rfl (by kernel_rfl) (by kernel_rfl) (by kernel_rfl) (fun _ _ _ h=>h) (Or.inl ⟨by rfl,?_⟩) hHeld ?_
      rotate_left
      ·(intro w _;go_simp;try with_reducible rfl)
      try simp only[Act.put,zA,zB,zC]
      refine aK (i:=5) (v:=?_) rfl (by kernel_rfl) (by kernel_rfl) (by kernel_rfl) (fun _ _ _ h=>h) (Or.inl ⟨by rfl,?_⟩) hHeld ?_
      rotate_left
      ·(intro w hSw;obtain⟨y1c,y2c⟩:=HSO.o _ hSw;go_simp;try with_reducible rfl)
      try simp only[Act.put,zA,zB,zC]
      refine wpAnyH_ready (rs:=[1,6]) (by kernel_rfl) (by simp) ?_;refine bK (i:=1) rfl (fun K hK=>?_) (bK (i:=6) rfl (fun K hK=>?_) sZ)
      ·go_simp;refine hK.out _ _ (HSI.o _ (KS.out _ (fun j _ _ _=>rfl))) (fun hHeld=>?_);clear hK K;try simp only[Act.put,zA,zB,zC]
       refine wpAnyH_ready (rs:=[6]) (by kernel_rfl) (by simp) ?_;refine bK (i:=6) rfl (fun K hK=>?_) sZ;go_simp;refine hK.out _ _ (HSI.o _ (KS.out _ (fun j h1 _ _=>sM _ _ _ h1))) (fun hHeld=>?_);clear hK K;try simp only[Act.put,zA,zB,zC]
       have c5:(wr.drew.alloc (.cells #[.int .i64 y1,.int .i64 y2] 48)).cell? ⟨B+1,12,none⟩=some (.slice AP np cP):=(HBo.o.drew.alloc _).cell 12;refine wpAnyH_ready (rs:=[7]) (by kernel_rfl) (by simp) ?_;refine bK (i:=7) rfl (fun K hK=>?_) sZ;refine bA _ (by rfl) (.tmp 48) (.tmp 53) 51 (by rfl) wc.heap.size 48 i0 _ 2 16 Tryz.underlying51 hi hz0 hz1 hz2 rfl (by omega) (.slice AP np cP) np (aF P) (by rfl) HO4.o _ (some ⟨wr.drew.heap.size,0,none⟩) 1 1 [.int .i64 y1,.int .i64 y2] (by rfl) (cD (Blk.new wr.drew 48 #[.int .i64 y1,.int .i64 y2]) (n:=2) rfl) (oQ [(y1,y2)]) (by simp only[maxLen];omega) (by omega) HBS.o ?_;intro v5 w5 ho5 hg5 hat5;refine hK.out _ _ (HSI.o _ (KS.out _ (fun j h1 h2 h3=>(hg5.block j (HSA.o j h1) (fun e=>h3 e.symm)).trans (sM _ _ _ h1)))) (fun hHeld=>?_);clear hK K;try simp only[Act.put,zA,zB,zC]
       have HG5:Hid ((wr.drew.alloc (.cells #[.int .i64 y1,.int .i64 y2] 48)).grownBy w5 ((.slice AP np cP):Value).ownBlock):=hg5;have HAT5:=Hi hat5;have HO5:=Hi ho5;have HP5:=Hi ((HBo.o.drew.alloc (.cells #[.int .i64 y1,.int .i64 y2] 48)).grown hg5 HNE.o);obtain⟨A5,c5',hv5,-,-,-⟩:=aC.of_own ho5
       subst hv5;have p5:=cZ HP5.o 12 rfl;have f5:=HP5.o.frozen 12;clear hg5 hat5 ho5 c5;refine aK (i:=8) (v:=?_) rfl (by kernel_rfl) (by kernel_rfl) (by kernel_rfl) (fun _ _ _ h=>h) (Or.inl ⟨by rfl,?_⟩) hHeld ?_
       rotate_left
       ·(intro w _;go_simp;try with_reducible rfl)
       try simp only[Act.put,zA,zB,zC]
       refine wpAnyH_ready (rs:=[9]) (by kernel_rfl) (by simp) ?_;refine bK (i:=9) rfl (fun K hK=>?_) sZ;go_simp;refine hK.out _ _ (HSI.o _ (KS.out _ (fun j h1 h2 h3=>(sU _ _ _ _ h2).trans ((HG5.o.block j (HSA.o j h1) (fun e=>h3 e.symm)).trans (sM _ _ _ h1))))) (fun hHeld=>?_);clear hK K;try simp only[Act.put,zA,zB,zC]
       refine wpAnyH_done (by kernel_rfl) ?_ _;clear hHeld HSI HSO p5 f5;have HB6:=Hi (HP5.o.set_ 12 (.slice A5 (np+1) c5'));have HO6:Hid ((w5.setCell ⟨B+1,12,none⟩ (.slice A5 (np+1) c5')).ownsRow wc.heap.size 48 2 (.slice A5 (np+1) c5') (np+1) (aF (P++[(y1,y2)]))):=by
        show World.ownsRow _ _ _ _ _ _ _;rw[bH];exact aT HO5.o fun i hi=>sU _ _ _ _ (by have:=(aD HO5.o hi).1;have:=HS5.o;show i≠B+1;omega)
       have HC6:Hid (Chg (fun j=>j=B+1) wc (w5.setCell ⟨B+1,12,none⟩ (.slice A5 (np+1) c5'))):=(((HC.o.drew.alloc _).grown HG5.o (fun g hg=>.inr (aD HO.o hg).1)).setCell (p:=⟨B+1,12,none⟩) (.inl rfl) _);have HPL6:Hid ((P++[(y1,y2)]).length=np+1):=by show _=_;rw[sF,HPL.o];rfl
       clear HP5 HO5 HG5 HAT5 HO4 HBS KS HNE HO HBo HC;go_wp2_with fail
       go_roundw
       case rel=>exact⟨j,np+1,P++[(y1,y2)],A5,c5',by go_num,by omega,by omega,HPL6,HO6,HB6,HC6⟩
       case measure=>(simp[intOf];try omega)
      ·go_simp;refine hK.out _ _ (HSI.o _ (KS.out _ (fun j h1 _ _=>sM _ _ _ h1))) (fun hHeld=>?_);clear hK K;try simp only[Act.put,zA,zB,zC]
       refine wpAnyH_ready (rs:=[1]) (by kernel_rfl) (by simp) ?_;refine bK (i:=1) rfl (fun K hK=>?_) sZ;go_simp;refine hK.out _ _ (HSI.o _ (KS.out _ (fun j h1 _ _=>sM _ _ _ h1))) (fun hHeld=>?_);clear hK K;try simp only[Act.put,zA,zB,zC]
       have c5:(wr.drew.alloc (.cells #[.int .i64 y1,.int .i64 y2] 48)).cell? ⟨B+1,12,none⟩=some (.slice AP np cP):=(HBo.o.drew.alloc _).cell 12;refine wpAnyH_ready (rs:=[7]) (by kernel_rfl) (by simp) ?_;refine bK (i:=7) rfl (fun K hK=>?_) sZ;refine bA _ (by rfl) (.tmp 48) (.tmp 53) 51 (by rfl) wc.heap.size 48 i0 _ 2 16 Tryz.underlying51 hi hz0 hz1 hz2 rfl (by omega) (.slice AP np cP) np (aF P) (by rfl) HO4.o _ (some ⟨wr.drew.heap.size,0,none⟩) 1 1 [.int .i64 y1,.int .i64 y2] (by rfl) (cD (Blk.new wr.drew 48 #[.int .i64 y1,.int .i64 y2]) (n:=2) rfl) (oQ [(y1,y2)]) (by simp only[maxLen];omega) (by omega) HBS.o ?_;intro v5 w5 ho5 hg5 hat5;refine hK.out _ _ (HSI.o _ (KS.out _ (fun j h1 h2 h3=>(hg5.block j (HSA.o j h1) (fun e=>h3 e.symm)).trans (sM _ _ _ h1)))) (fun hHeld=>?_);clear hK K;try simp only[Act.put,zA,zB,zC]
       have HG5:Hid ((wr.drew.alloc (.cells #[.int .i64 y1,.int .i64 y2] 48)).grownBy w5 ((.slice AP np cP):Value).ownBlock):=hg5;have HAT5:=Hi hat5;have HO5:=Hi ho5;have HP5:=Hi ((HBo.o.drew.alloc (.cells #[.int .i64 y1,.int .i64 y2] 48)).grown hg5 HNE.o);obtain⟨A5,c5',hv5,-,-,-⟩:=aC.of_own ho5
       subst hv5;have p5:=cZ HP5.o 12 rfl;have f5:=HP5.o.frozen 12;clear hg5 hat5 ho5 c5;refine aK (i:=8) (v:=?_) rfl (by kernel_rfl) (by kernel_rfl) (by kernel_rfl) (fun _ _ _ h=>h) (Or.inl ⟨by rfl,?_⟩) hHeld ?_
       rotate_left
       ·(intro w _;go_simp;try with_reducible rfl)
       try simp only[Act.put,zA,zB,zC]
       refine wpAnyH_ready (rs:=[9]) (by kernel_rfl) (by simp) ?_;refine bK (i:=9) rfl (fun K hK=>?_) sZ;go_simp;refine hK.out _ _ (HSI.o _ (KS.out _ (fun j h1 h2 h3=>(sU _ _ _ _ h2).trans ((HG5.o.block j (HSA.o j h1) (fun e=>h3 e.symm)).trans (sM _ _ _ h1))))) (fun hHeld=>?_);clear hK K;try simp only[Act.put,zA,zB,zC]
       refine wpAnyH_done (by kernel_rfl) ?_ _;clear hHeld HSI HSO p5 f5;have HB6:=Hi (HP5.o.set_ 12 (.slice A5 (np+1) c5'));have HO6:Hid ((w5.setCell ⟨B+1,12,none⟩ (.slice A5 (np+1) c5')).ownsRow wc.heap.size 48 2 (.slice A5 (np+1) c5') (np+1) (aF (P++[(y1,y2)]))):=by
        show World.ownsRow _ _ _ _ _ _ _;rw[bH];exact aT HO5.o fun i hi=>sU _ _ _ _ (by have:=(aD HO5.o hi).1;have:=HS5.o;show i≠B+1;omega)
       have HC6:Hid (Chg (fun j=>j=B+1) wc (w5.setCell ⟨B+1,12,none⟩ (.slice A5 (np+1) c5'))):=(((HC.o.drew.alloc _).grown HG5.o (fun g hg=>.inr (aD HO.o hg).1)).setCell (p:=⟨B+1,12,none⟩) (.inl rfl) _);have HPL6:Hid ((P++[(y1,y2)]).length=np+1):=by show _=_;rw[sF,HPL.o];rfl
       clear HP5 HO5 HG5 HAT5 HO4 HBS KS HNE HO HBo HC;go_wp2_with fail
       go_roundw
       case rel=>exact⟨j,np+1,P++[(y1,y2)],A5,c5',by go_num,by omega,by omega,HPL6,HO6,HB6,HC6⟩
       case measure=>(simp[intOf];try omega)
   |zero =>
    have e0:((0:Nat):Int)-1=-1:=rfl;rw[e0];clear e0 hk;have HBr:Hid (Below w.heap.size w wr):=HB5.o.trans (HC.o.below HB5.o.size (fun k hk=>by have:=HBB.o;omega));have HR:=Hi (H4c.o.keep (HC.o.block _ H4c.o.lt (by omega)));have HSZ:Hid (wc.heap.size≤wr.heap.size):=HC.o.size;clear HC H4c HRV HRI HVI;have c0:=cZ HBo.o 0 rfl;have c12:=cZ HBo.o 12 rfl;obtain⟨r0,r1⟩:=ce2 HR.o
    have f0:=HR.o.frozen 0;have f1:=HR.o.frozen 1;go_upto_region 10 with fail
    go_cut [64] (fun s64 wd=>∃b:Bool,s64=.bool b∧wr=wd)
    case first =>
     obtain⟨z,hz⟩:∃b,(o.k == (3:Int))=b:=⟨_,rfl⟩
     cases z<;>(go_wp2_with fail;go_meet;case rel=>exact⟨_,rfl,rfl⟩)
    case rest =>
     obtain⟨b,rfl,rfl⟩:=hcut
     cases b with
     |true =>
      go_wp2_with fail
      have hbl:=(HR.o.set_ 0 (.int .i64 0)).set_ 1 (.int .i64 0);refine bodyPost_ret (fW (p:=8) (s:=9) (by kernel_rfl) _ _ (B+3) 48 #[.int .i64 0,.int .i64 0] _ rfl hbl Tryz.underlying48 rfl (by kernel_rfl)) rfl ?_;exact kE.no 6 HI.o ⟨_,_,_,_,_,HMM.o⟩ ((HBr.o.setCell (by show w.heap.size≤B+3;have:=HBB.o;omega) _).setCell (by show w.heap.size≤B+3;have:=HBB.o;omega) _)
     |false =>
      go_upto_region 12 with fail
      go_cut [74] (fun s74 wd=>∃b:Bool,s74=.bool b∧wr=wd)
      case first =>
       obtain⟨z,hz⟩:∃b,(o.k == (4:Int))=b:=⟨_,rfl⟩
       cases z<;>(go_wp2_with fail;go_meet;case rel=>exact⟨_,rfl,rfl⟩)
      case rest =>
       obtain⟨b,rfl,rfl⟩:=hcut
       cases b with
       |true =>
        go_wp2_with fail
        have hbl:=(HR.o.set_ 0 (.int .i64 0)).set_ 1 (.int .i64 0);refine bodyPost_ret (fW (p:=8) (s:=9) (by kernel_rfl) _ _ (B+3) 48 #[.int .i64 0,.int .i64 0] _ rfl hbl Tryz.underlying48 rfl (by kernel_rfl)) rfl ?_;exact kE.no 10 HI.o ⟨_,_,_,_,_,HMM.o⟩ ((HBr.o.setCell (by show w.heap.size≤B+3;have:=HBB.o;omega) _).setCell (by show w.heap.size≤B+3;have:=HBB.o;omega) _)
       |false =>
        have hm:=HMM.o.below HBr.o;have HMr:=Hi hm;have C2:=mN h.L h.W h.a g gb VP wr hm.blk hm.bm.br (fun c hc=>(HI.o.inv.bk.err c hc).1) (by have:=HI.o.inv.most;omega);have hN1:=gH h.L;have hN2:=lG (L:=h.L) (fun c hc=>eE (HI.o.inv.bk.err c hc).1);obtain⟨sN,hsN⟩:∃k,dH h.L=k:=⟨_,rfl⟩
        have HSN:=Hi hsN;rw[hsN]at C2 hN1 hN2;generalize gW h.a h.L=sS at C2;clear hm hsN c0 r0 r1 f0 f1;go_wp2_with fail
        go_at_call 74;refine C2.mono ?_;rintro e w6 ⟨rfl,hb6⟩;have hpl:=HPL.o;subst hpl;clear HPL;have HB6:Hid (Below w.heap.size w w6):=HBr.o.trans (hb6.mono HBr.o.size);have HR6:=Hi (HR.o.keep (hb6.block _ HR.o.lt));have HBo6:=Hi (HBo.o.keep (hb6.block _ HBo.o.lt));have HO6:=Hi (aO HO.o hb6);have hm6:=HMM.o.below HB6.o;obtain⟨APd,cPd,hVP,-,-,-⟩:=aC.of_own HMM.o.oP
        subst hVP;obtain⟨nPd,hnPd⟩:∃n,h.P.length=n:=⟨_,rfl⟩
        have HNP:=Hi hnPd;obtain⟨AL,cL,AW,cW,hbk,-,-⟩:=hm6.bm.br
        obtain⟨nL,hnL⟩:∃n,h.L.length=n:=⟨_,rfl⟩
        obtain⟨nW,hnW⟩:∃n,h.W.length=n:=⟨_,rfl⟩
        have hmost:=HI.o.inv.most;have hfew:=HI.o.few;have hact:=HI.o.act;have hmb:=hm6.blk;rw[hnL,hnW]at hbk hmost;rw[hnPd]at hfew hmb;have HBK6:=Hi hbk;have HG6:=Hi hmb;have HLW:=Hi (And.intro hnL hnW);have g0:=cZ hmb 0 rfl;have g2:=cZ hmb 2 rfl;have hwn:IntKind.i64.wrap (sN+(nPd:Int))=sN+(nPd:Int):=tH _ (by omega);have hgl:=hmb.lt;have KS:∀ob,(w6.alloc ob).cell? ⟨g,2,none⟩=some (.slice APd nPd cPd)∧(w6.alloc ob).cell? ⟨g,0,none⟩=some (.int .i64 h.a):=fun ob=>⟨(tP _ _ ⟨g,2,none⟩ hgl).trans g2,(tP _ _ ⟨g,0,none⟩ hgl).trans g0⟩
        clear C2 hb6 hm6 hbk hmb hnPd hnL hnW hgl HR HBo HO c12;go_upto_region 15 with fail
        go_region_held3 (fun V=>V.cell? ⟨g,2,none⟩=some (.slice APd nPd cPd)∧V.cell? ⟨g,0,none⟩=some (.int .i64 h.a)) (first|exact⟨g2,g0⟩|exact KS _|go_keep) (fail)
        have hb7:Below w6.heap.size w6 ((w6.alloc (.cells #[.int .i64 (sN+(nPd:Int)),.int .i64 h.a] 48)).drew):=((sA _ w6).alloc (sB _) _).drew;have hx7:Blk ((w6.alloc (.cells #[.int .i64 (sN+(nPd:Int)),.int .i64 h.a] 48)).drew) w6.heap.size 48 #[.int .i64 (sN+(nPd:Int)),.int .i64 h.a]:=Blk.new w6 _ _;clear KS g0 g2;generalize (w6.alloc (.cells #[.int .i64 (sN+(nPd:Int)),.int .i64 h.a] 48)).drew=w7 at hb7 hx7 ⊢;have HB7:Hid (Below w.heap.size w w7):=HB6.o.trans (hb7.mono HB6.o.size);have HR7:=Hi (HR6.o.keep (hb7.block _ HR6.o.lt));have HBo7:=Hi (HBo6.o.keep (hb7.block _ HBo6.o.lt));have HO7:=Hi (aO HO6.o hb7);have HG7:=Hi (HG6.o.keep (hb7.block _ HG6.o.lt));have HBK7:=Hi (HBK6.o.keep (hb7.block _ HBK6.o.lt));have HX7:=Hi hx7;have HQL:Hid (B+4≤w6.heap.size∧∀k,(Value.slice AP P.length cP).ownBlock=some k→k<w6.heap.size):=⟨HR6.o.lt,fun k hk=>(aD HO6.o hk).2⟩;clear hb7 hx7 HR6 HBo6 HO6 HG6 HBK6;generalize w6.heap.size=q at HX7 HQL ⊢;obtain⟨g0,g1,g2⟩:=ce3 HG7.o
        obtain⟨k0,k1⟩:=ce2 HBK7.o
        have x0:=cZ HX7.o 0 rfl;have hwl:IntKind.i64.wrap ((nL:Int)+(nW:Int))=(nL:Int)+(nW:Int):=tH _ (by omega);obtain⟨z1,e1⟩:∃b,decide ((40:Int)≤(nPd:Int))=b:=⟨_,rfl⟩
        obtain⟨z2,e2⟩:∃b,decide ((12:Int)<(n:Int))=b:=⟨_,rfl⟩
        obtain⟨z3,e3⟩:∃b,decide ((1000000:Int)<sN+(nPd:Int))=b:=⟨_,rfl⟩
        obtain⟨z4,e4⟩:∃b,decide ((120:Int)≤(nL:Int)+(nW:Int))=b:=⟨_,rfl⟩
        cases z1 with
        |true =>
         go_upto_region 16 with fail
         go_quiet (fail)
         change Exit.then _ _ _ _ (w7.drewN nq);have HB8:Hid (Below w.heap.size w (w7.drewN nq)):=aH HB7.o nq;have HR8:Hid (Blk (w7.drewN nq) (B+3) 48 #[.int .i64 0,.int .i64 0]):=HR7.o;obtain⟨r0,r1⟩:=ce2 HR8.o
         have f0:=HR8.o.frozen 0;have f1:=HR8.o.frozen 1;generalize w7.drewN nq=w8 at HB8 HR8 r0 r1 f0 f1 ⊢;go_wp2_with fail
         have hbl:=(HR8.o.set_ 0 (.int .i64 0)).set_ 1 (.int .i64 0);refine bodyPost_ret (fW (p:=8) (s:=9) (by kernel_rfl) _ _ (B+3) 48 #[.int .i64 0,.int .i64 0] _ rfl hbl Tryz.underlying48 rfl (by kernel_rfl)) rfl ?_;exact kE.no 4 HI.o ⟨_,_,_,_,_,HMM.o⟩ ((HB8.o.setCell (by show w.heap.size≤B+3;have:=HBB.o;omega) _).setCell (by show w.heap.size≤B+3;have:=HBB.o;omega) _)
        |false =>
        cases z2 with
        |true =>
         go_upto_region 16 with fail
         go_quiet (fail)
         change Exit.then _ _ _ _ (w7.drewN nq);have HB8:Hid (Below w.heap.size w (w7.drewN nq)):=aH HB7.o nq;have HR8:Hid (Blk (w7.drewN nq) (B+3) 48 #[.int .i64 0,.int .i64 0]):=HR7.o;obtain⟨r0,r1⟩:=ce2 HR8.o
         have f0:=HR8.o.frozen 0;have f1:=HR8.o.frozen 1;generalize w7.drewN nq=w8 at HB8 HR8 r0 r1 f0 f1 ⊢;go_wp2_with fail
         have hbl:=(HR8.o.set_ 0 (.int .i64 0)).set_ 1 (.int .i64 0);refine bodyPost_ret (fW (p:=8) (s:=9) (by kernel_rfl) _ _ (B+3) 48 #[.int .i64 0,.int .i64 0] _ rfl hbl Tryz.underlying48 rfl (by kernel_rfl)) rfl ?_;exact kE.no 4 HI.o ⟨_,_,_,_,_,HMM.o⟩ ((HB8.o.setCell (by show w.heap.size≤B+3;have:=HBB.o;omega) _).setCell (by show w.heap.size≤B+3;have:=HBB.o;omega) _)
        |false =>
        cases z3 with
        |true =>
         go_upto_region 16 with fail
         go_quiet (fail)
         change Exit.then _ _ _ _ (w7.drewN nq);have HB8:Hid (Below w.heap.size w (w7.drewN nq)):=aH HB7.o nq;have HR8:Hid (Blk (w7.drewN nq) (B+3) 48 #[.int .i64 0,.int .i64 0]):=HR7.o;obtain⟨r0,r1⟩:=ce2 HR8.o
         have f0:=HR8.o.frozen 0;have f1:=HR8.o.frozen 1;generalize w7.drewN nq=w8 at HB8 HR8 r0 r1 f0 f1 ⊢;go_wp2_with fail
         have hbl:=(HR8.o.set_ 0 (.int .i64 0)).set_ 1 (.int .i64 0);refine bodyPost_ret (fW (p:=8) (s:=9) (by kernel_rfl) _ _ (B+3) 48 #[.int .i64 0,.int .i64 0] _ rfl hbl Tryz.underlying48 rfl (by kernel_rfl)) rfl ?_;exact kE.no 4 HI.o ⟨_,_,_,_,_,HMM.o⟩ ((HB8.o.setCell (by show w.heap.size≤B+3;have:=HBB.o;omega) _).setCell (by show w.heap.size≤B+3;have:=HBB.o;omega) _)
        |false =>
        cases z4 with
        |true =>
         go_upto_region 16 with fail
         go_quiet (fail)
         change Exit.then _ _ _ _ (w7.drewN nq);have HB8:Hid (Below w.heap.size w (w7.drewN nq)):=aH HB7.o nq;have HR8:Hid (Blk (w7.drewN nq) (B+3) 48 #[.int .i64 0,.int .i64 0]):=HR7.o;obtain⟨r0,r1⟩:=ce2 HR8.o
         have f0:=HR8.o.frozen 0;have f1:=HR8.o.frozen 1;generalize w7.drewN nq=w8 at HB8 HR8 r0 r1 f0 f1 ⊢;go_wp2_with fail
         have hbl:=(HR8.o.set_ 0 (.int .i64 0)).set_ 1 (.int .i64 0);refine bodyPost_ret (fW (p:=8) (s:=9) (by kernel_rfl) _ _ (B+3) 48 #[.int .i64 0,.int .i64 0] _ rfl hbl Tryz.underlying48 rfl (by kernel_rfl)) rfl ?_;exact kE.no 4 HI.o ⟨_,_,_,_,_,HMM.o⟩ ((HB8.o.setCell (by show w.heap.size≤B+3;have:=HBB.o;omega) _).setCell (by show w.heap.size≤B+3;have:=HBB.o;omega) _)
        |false =>
        have HE:=Hi (And.intro e1 (And.intro e2 e3));go_upto_region 16 with fail
        go_quiet (fail)
        change Exit.then _ _ _ _ (w7.drewN nq);have HB8:Hid (Below w.heap.size w (w7.drewN nq)):=aH HB7.o nq;have HR8:Hid (Blk (w7.drewN nq) (B+3) 48 #[.int .i64 0,.int .i64 0]):=HR7.o;have HBo8:Hid (Blk (w7.drewN nq) (B+1) 53 #[.int .i64 o.k,.int .i64 o.on,.int .i64 o.oa,.string o.key,.int .i64 o.en,.int .i64 o.ea,.bool bi,.int .i64 o.vk,.int .i64 o.vn,.string o.vt,.int .i64 o.va,.int .i64 o.vb,.slice AP P.length cP]):=HBo7.o;have HO8:Hid ((w7.drewN nq).ownsRow wc.heap.size 48 2 (.slice AP P.length cP) P.length (aF P)):=HO7.o;have HG8:Hid (Blk (w7.drewN nq) g 83 #[.int .i64 h.a,.pointer (some ⟨gb,0,none⟩),.slice APd nPd cPd]):=HG7.o;have HX8:Hid (Blk (w7.drewN nq) q 48 #[.int .i64 (sN+(nPd:Int)),.int .i64 h.a]):=HX7.o;clear g0 g1 g2 k0 k1 x0 e1 e2 e3 e4 HB7 HR7 HBo7 HO7 HG7 HX7 HBK7;generalize w7.drewN nq=w8 at HB8 HR8 HBo8 HO8 HG8 HX8 ⊢;have hown:∀k,(Value.slice APd nPd cPd).ownBlock=some k→k<B:=fun k hk=>by
         have h1:w.ownsRow 0 53 13 (.slice APd nPd cPd) nPd (eF h.P):=by have:=HMM.o.oP;rw[HNP.o]at this;exact this
         have:=(aD h1 hk).2
         have:=HBB.o
         omega
        have HOWN:=Hi hown;have HGL:Hid (g<B):=by have:=HMM.o.blk.lt;have:=HBB.o;show _<_;omega
        have HNE:Hid ((Value.slice APd nPd cPd).ownBlock≠some g):=by have:=HMM.o.npg;rw[HNP.o]at this;exact this
        have HOP:Hid ((w8.drew.alloc (.cells #[.int .i64 o.k,.int .i64 o.on,.int .i64 o.oa,.string o.key,.int .i64 o.en,.int .i64 o.ea,.bool bi,.int .i64 o.vk,.int .i64 o.vn,.string o.vt,.int .i64 o.va,.int .i64 o.vb,.slice AP P.length cP] 53)).ownsRow 0 53 13 (.slice APd nPd cPd) nPd (eF h.P)):=by
         have h1:=(HMM.o.below HB8.o).oP;rw[HNP.o]at h1;exact(show w8.drew.ownsRow 0 53 13 (.slice APd nPd cPd) nPd (eF h.P) from h1).alloc _
        have KS:Hid (∀V:World,(∀i,i<w8.heap.size→i≠g→(Value.slice APd nPd cPd).ownBlock≠some i→V.heap[i]?=w8.heap[i]?)→V.cell? ⟨B+1,0,none⟩=some (.int .i64 o.k)∧V.cell? ⟨B+1,1,none⟩=some (.int .i64 o.on)∧V.cell? ⟨B+1,2,none⟩=some (.int .i64 o.oa)∧V.cell? ⟨B+1,3,none⟩=some (.string o.key)∧V.cell? ⟨B+1,4,none⟩=some (.int .i64 o.en)∧V.cell? ⟨B+1,5,none⟩=some (.int .i64 o.ea)∧V.cell? ⟨B+1,6,none⟩=some (.bool bi)∧V.cell? ⟨B+1,7,none⟩=some (.int .i64 o.vk)∧V.cell? ⟨B+1,8,none⟩=some (.int .i64 o.vn)∧V.cell? ⟨B+1,9,none⟩=some (.string o.vt)∧V.cell? ⟨B+1,10,none⟩=some (.int .i64 o.va)∧V.cell? ⟨B+1,11,none⟩=some (.int .i64 o.vb)∧V.cell? ⟨B+1,12,none⟩=some (.slice AP P.length cP)):=fun V hV=>by
         have h1:=HBo8.o.keep (hV _ HBo8.o.lt (by have:=HGL.o;omega) (fun e=>by have:=HOWN.o _ e;omega));exact⟨h1.cell 0,h1.cell 1,h1.cell 2,h1.cell 3,h1.cell 4,h1.cell 5,h1.cell 6,h1.cell 7,h1.cell 8,h1.cell 9,h1.cell 10,h1.cell 11,h1.cell 12⟩
        obtain⟨i0,hi,hz0,hz1,hz2⟩:=info_parts infoOp
        clear hown;go_upto_region 18 with fail
        obtain⟨SS,hSS⟩:∃SS:World→Prop,SS=fun V=>V.cell? ⟨B+1,0,none⟩=some (.int .i64 o.k)∧V.cell? ⟨B+1,1,none⟩=some (.int .i64 o.on)∧V.cell? ⟨B+1,2,none⟩=some (.int .i64 o.oa)∧V.cell? ⟨B+1,3,none⟩=some (.string o.key)∧V.cell? ⟨B+1,4,none⟩=some (.int .i64 o.en)∧V.cell? ⟨B+1,5,none⟩=some (.int .i64 o.ea)∧V.cell? ⟨B+1,6,none⟩=some (.bool bi)∧V.cell? ⟨B+1,7,none⟩=some (.int .i64 o.vk)∧V.cell? ⟨B+1,8,none⟩=some (.int .i64 o.vn)∧V.cell? ⟨B+1,9,none⟩=some (.string o.vt)∧V.cell? ⟨B+1,10,none⟩=some (.int .i64 o.va)∧V.cell? ⟨B+1,11,none⟩=some (.int .i64 o.vb)∧V.cell? ⟨B+1,12,none⟩=some (.slice AP P.length cP):=⟨_,rfl⟩
        have HSI:∀V,(V.cell? ⟨B+1,0,none⟩=some (.int .i64 o.k)∧V.cell? ⟨B+1,1,none⟩=some (.int .i64 o.on)∧V.cell? ⟨B+1,2,none⟩=some (.int .i64 o.oa)∧V.cell? ⟨B+1,3,none⟩=some (.string o.key)∧V.cell? ⟨B+1,4,none⟩=some (.int .i64 o.en)∧V.cell? ⟨B+1,5,none⟩=some (.int .i64 o.ea)∧V.cell? ⟨B+1,6,none⟩=some (.bool bi)∧V.cell? ⟨B+1,7,none⟩=some (.int .i64 o.vk)∧V.cell? ⟨B+1,8,none⟩=some (.int .i64 o.vn)∧V.cell? ⟨B+1,9,none⟩=some (.string o.vt)∧V.cell? ⟨B+1,10,none⟩=some (.int .i64 o.va)∧V.cell? ⟨B+1,11,none⟩=some (.int .i64 o.vb)∧V.cell? ⟨B+1,12,none⟩=some (.slice AP P.length cP))→SS V:=fun V h=>by rw[hSS];exact h
        have HSO:∀V,SS V→(V.cell? ⟨B+1,0,none⟩=some (.int .i64 o.k)∧V.cell? ⟨B+1,1,none⟩=some (.int .i64 o.on)∧V.cell? ⟨B+1,2,none⟩=some (.int .i64 o.oa)∧V.cell? ⟨B+1,3,none⟩=some (.string o.key)∧V.cell? ⟨B+1,4,none⟩=some (.int .i64 o.en)∧V.cell? ⟨B+1,5,none⟩=some (.int .i64 o.ea)∧V.cell? ⟨B+1,6,none⟩=some (.bool bi)∧V.cell? ⟨B+1,7,none⟩=some (.int .i64 o.vk)∧V.cell? ⟨B+1,8,none⟩=some (.int .i64 o.vn)∧V.cell? ⟨B+1,9,none⟩=some (.string o.vt)∧V.cell? ⟨B+1,10,none⟩=some (.int .i64 o.va)∧V.cell? ⟨B+1,11,none⟩=some (.int .i64 o.vb)∧V.cell? ⟨B+1,12,none⟩=some (.slice AP P.length cP)):=fun V h=>by rw[hSS]at h;exact h
        have HSI:=Hi HSI;have HSO:=Hi HSO;clear hSS;refine wp_region_held_drew (S:=SS) (by kernel_rfl) (HSI.o _ (KS.out _ (fun j _ _ _=>rfl))) (fun hHeld=>?_);have HSA:Hid (∀j,j<w8.heap.size→j<(w8.alloc (.cells #[.int .i64 o.k,.int .i64 o.on,.int .i64 o.oa,.string o.key,.int .i64 o.en,.int .i64 o.ea,.bool bi,.int .i64 o.vk,.int .i64 o.vn,.string o.vt,.int .i64 o.va,.int .i64 o.vb,.slice AP P.length cP] 53)).heap.size):=fun j h=>by rw[tB];exact Nat.lt_succ_of_lt h
        have p5:=cZ HG8.o 2 rfl;have p5':(w8.alloc (.cells #[.int .i64 o.k,.int .i64 o.on,.int .i64 o.oa,.string o.key,.int .i64 o.en,.int .i64 o.ea,.bool bi,.int .i64 o.vk,.int .i64 o.vn,.string o.vt,.int .i64 o.va,.int .i64 o.vb,.slice AP P.length cP] 53)).cell? ⟨g,2,none⟩=some (.slice APd nPd cPd):=(HG8.o.alloc _).cell 2;refine aK (i:=0) (v:=?_) rfl (by kernel_rfl) (by kernel_rfl) (by kernel_rfl) (fun _ _ _ h=>h) (Or.inl ⟨by rfl,?_⟩) hHeld ?_
        rotate_left
        ·(intro w _;go_simp;try with_reducible rfl)
        try simp only[Act.put,zA,zB,zC]
        refine aK (i:=1) (v:=?_) rfl (by kernel_rfl) (by kernel_rfl) (by kernel_rfl) (fun _ _ _ h=>h) (Or.inl ⟨by rfl,?_⟩) hHeld ?_
        rotate_left
        ·(intro w _;go_simp;try with_reducible rfl)
        try simp only[Act.put,zA,zB,zC]
        refine aK (i:=2) (v:=?_) rfl (by kernel_rfl) (by kernel_rfl) (by kernel_rfl) (fun _ _ _ h=>h) (Or.inl ⟨by rfl,?_⟩) hHeld ?_
        rotate_left
        ·(intro w _;go_simp;try with_reducible rfl)
        try simp only[Act.put,zA,zB,zC]
        refine aK (i:=3) (v:=?_) rfl (by kernel_rfl) (by kernel_rfl) (by kernel_rfl) (fun _ _ _ h=>h) (Or.inl ⟨by rfl,?_⟩) hHeld ?_
        rotate_left
        ·(intro w _;go_simp;try with_reducible rfl)
        try simp only[Act.put,zA,zB,zC]
        refine aK (i:=5) (v:=?_) rfl (by kernel_rfl) (by kernel_rfl) (by kernel_rfl) (fun _ _ _ h=>h) (Or.inl ⟨by rfl,?_⟩) hHeld ?_
        rotate_left
        ·(intro w hSw;obtain⟨r0,r1,r2,r3,r4,r5,r6,r7,r8,r9,r10,r11,r12⟩:=HSO.o _ hSw;go_simp;try with_reducible rfl)
        try simp only[Act.put,zA,zB,zC]
        refine wpAnyH_ready (rs:=[4,6]) (by kernel_rfl) (by simp) ?_;refine bK (i:=4) rfl (fun K hK=>?_) (bK (i:=6) rfl (fun K hK=>?_) sZ)
        ·go_simp;refine hK.out _ _ (HSI.o _ (KS.out _ (fun j _ _ _=>rfl))) (fun hHeld=>?_);clear hK K;try simp only[Act.put,zA,zB,zC]
         refine wpAnyH_ready (rs:=[6]) (by kernel_rfl) (by simp) ?_;refine bK (i:=6) rfl (fun K hK=>?_) sZ;go_simp;refine hK.out _ _ (HSI.o _ (KS.out _ (fun j h1 _ _=>sM _ _ _ h1))) (fun hHeld=>?_);clear hK K;try simp only[Act.put,zA,zB,zC]
         have c5:(w8.drew.alloc (.cells #[.int .i64 o.k,.int .i64 o.on,.int .i64 o.oa,.string o.key,.int .i64 o.en,.int .i64 o.ea,.bool bi,.int .i64 o.vk,.int .i64 o.vn,.string o.vt,.int .i64 o.va,.int .i64 o.vb,.slice AP P.length cP] 53)).cell? ⟨g,2,none⟩=some (.slice APd nPd cPd):=(HG8.o.drew.alloc _).cell 2;refine wpAnyH_ready (rs:=[7]) (by kernel_rfl) (by simp) ?_;refine bK (i:=7) rfl (fun K hK=>?_) sZ;refine bA _ (by rfl) (.tmp 134) (.tmp 136) 31 (by rfl) 0 53 i0 _ 13 136 Tryz.underlying31 hi hz0 hz1 hz2 rfl (by omega) (.slice APd nPd cPd) nPd (eF h.P) (by rfl) HOP.o _ (some ⟨w8.drew.heap.size,0,none⟩) 1 1 [.int .i64 o.k,.int .i64 o.on,.int .i64 o.oa,.string o.key,.int .i64 o.en,.int .i64 o.ea,.bool bi,.int .i64 o.vk,.int .i64 o.vn,.string o.vt,.int .i64 o.va,.int .i64 o.vb,.slice AP P.length cP] (by rfl) (cD (Blk.new w8.drew 53 #[.int .i64 o.k,.int .i64 o.on,.int .i64 o.oa,.string o.key,.int .i64 o.en,.int .i64 o.ea,.bool bi,.int .i64 o.vk,.int .i64 o.vn,.string o.vt,.int .i64 o.va,.int .i64 o.vb,.slice AP P.length cP]) (n:=13) rfl) (rH [{ o with ins:=bi,A:=AP,c:=cP,l:=P }]) (by simp only[maxLen];omega) (by omega) (uU _) ?_;intro v5 w5 ho5 hg5 hat5;refine hK.out _ _ (HSI.o _ (KS.out _ (fun j h1 h2 h3=>(hg5.block j (HSA.o j h1) (fun e=>h3 e.symm)).trans (sM _ _ _ h1)))) (fun hHeld=>?_);clear hK K;try simp only[Act.put,zA,zB,zC]
         have HG5:Hid ((w8.drew.alloc (.cells #[.int .i64 o.k,.int .i64 o.on,.int .i64 o.oa,.string o.key,.int .i64 o.en,.int .i64 o.ea,.bool bi,.int .i64 o.vk,.int .i64 o.vn,.string o.vt,.int .i64 o.va,.int .i64 o.vb,.slice AP P.length cP] 53)).grownBy w5 ((.slice APd nPd cPd):Value).ownBlock):=hg5;have HAT5:=Hi hat5;have HO5:=Hi ho5;have HP5:=Hi ((HG8.o.drew.alloc (.cells #[.int .i64 o.k,.int .i64 o.on,.int .i64 o.oa,.string o.key,.int .i64 o.en,.int .i64 o.ea,.bool bi,.int .i64 o.vk,.int .i64 o.vn,.string o.vt,.int .i64 o.va,.int .i64 o.vb,.slice AP P.length cP] 53)).grown hg5 HNE.o);obtain⟨A5,c5',hv5,-,-,-⟩:=aC.of_own ho5
         subst hv5;have p5:=cZ HP5.o 2 rfl;have f5:=HP5.o.frozen 2;clear hg5 hat5 ho5 c5;refine aK (i:=8) (v:=?_) rfl (by kernel_rfl) (by kernel_rfl) (by kernel_rfl) (fun _ _ _ h=>h) (Or.inl ⟨by rfl,?_⟩) hHeld ?_
         rotate_left
         ·(intro w _;go_simp;try with_reducible rfl)
         try simp only[Act.put,zA,zB,zC]
         refine aK (i:=9) (v:=?_) rfl (by kernel_rfl) (by kernel_rfl) (by kernel_rfl) (fun _ _ _ h=>h) (Or.inl ⟨by rfl,?_⟩) hHeld ?_
         rotate_left
         ·(intro w _;go_simp;try with_reducible rfl)
         try simp only[Act.put,zA,zB,zC]
         refine wpAnyH_ready (rs:=[10]) (by kernel_rfl) (by simp) ?_;refine bK (i:=10) rfl (fun K hK=>?_) sZ;go_simp;refine hK.out _ _ (HSI.o _ (KS.out _ (fun j h1 h2 h3=>(sU _ _ _ _ h2).trans ((HG5.o.block j (HSA.o j h1) (fun e=>h3 e.symm)).trans (sM _ _ _ h1))))) (fun hHeld=>?_);clear hK K;try simp only[Act.put,zA,zB,zC]
         refine wpAnyH_done (by kernel_rfl) ?_ _;clear hHeld HSI HSO p5 f5;have HX9:Hid (Blk (w5.setCell ⟨g,2,none⟩ (.slice A5 (nPd+1) c5')) q 48 #[.int .i64 (sN+(nPd:Int)),.int .i64 h.a]):=((HX8.o.drew.alloc (.cells #[.int .i64 o.k,.int .i64 o.on,.int .i64 o.oa,.string o.key,.int .i64 o.en,.int .i64 o.ea,.bool bi,.int .i64 o.vk,.int .i64 o.vn,.string o.vt,.int .i64 o.va,.int .i64 o.vb,.slice AP P.length cP] 53)).grown HG5.o (fun e=>by have:=HOWN.o _ e;have:=HQL.o.1;omega)).far (by have:=HGL.o;have:=HQL.o.1;show q≠g;omega) _;have HR9:Hid (Blk (w5.setCell ⟨g,2,none⟩ (.slice A5 (nPd+1) c5')) (B+3) 48 #[.int .i64 0,.int .i64 0]):=((HR8.o.drew.alloc (.cells #[.int .i64 o.k,.int .i64 o.on,.int .i64 o.oa,.string o.key,.int .i64 o.en,.int .i64 o.ea,.bool bi,.int .i64 o.vk,.int .i64 o.vn,.string o.vt,.int .i64 o.va,.int .i64 o.vb,.slice AP P.length cP] 53)).grown HG5.o (fun e=>by have:=HOWN.o _ e;omega)).far (by have:=HGL.o;show B+3≠g;omega) _;have hres:kA D F w (((w5.setCell ⟨g,2,none⟩ (.slice A5 (nPd+1) c5')).setCell ⟨B+3,0,none⟩ (.int .i64 (sN+(nPd:Int)))).setCell ⟨B+3,1,none⟩ (.int .i64 h.a)) g (h.push { o with ins:=bi,A:=AP,c:=cP,l:=P }) :=
          HMM.o.pushOp HB8.o (o:={ o with ins:=bi,A:=AP,c:=cP,l:=P }) (by have:=HG5.o;rw[HNP.o];exact this) (by have:=HO5.o;rw[HNP.o];exact this) (by rw[HNP.o];exact HAT5.o) HO8.o rfl (by have:=HS5.o;have:=HBB.o;omega) (by show P.length≤12;have:=of_decide_eq_false HE.o.2.1;omega) (by have:=HBB.o;omega) HR8.o.lt (fun e=>by have h1:=(aD HO8.o e).1;have:=HS5.o;omega) _ _
         have HRS:=Hi hres;have x0:(w5.setCell ⟨g,2,none⟩ (.slice A5 (nPd+1) c5')).cell? ⟨q,0,none⟩=some (.int .i64 (sN+(nPd:Int))):=HX9.o.cell 0;have x1:(w5.setCell ⟨g,2,none⟩ (.slice A5 (nPd+1) c5')).cell? ⟨q,1,none⟩=some (.int .i64 h.a):=HX9.o.cell 1;have r0:(w5.setCell ⟨g,2,none⟩ (.slice A5 (nPd+1) c5')).cell? ⟨B+3,0,none⟩=some (.int .i64 0):=HR9.o.cell 0;have r1:(w5.setCell ⟨g,2,none⟩ (.slice A5 (nPd+1) c5')).cell? ⟨B+3,1,none⟩=some (.int .i64 0):=HR9.o.cell 1;have f0:=HR9.o.frozen 0;have f1:=HR9.o.frozen 1;clear hres HP5 HO5 HG5 HAT5 HOP KS HNE HX8 HR8 HG8 HBo8 HO8;generalize hw9:w5.setCell ⟨g,2,none⟩ (.slice A5 (nPd+1) c5')=w9 at HX9 HR9 HRS x0 x1 r0 r1 f0 f1 ⊢;clear hw9;go_wp2_with fail
         have hbl:=(HR9.o.set_ 0 (.int .i64 (sN+(nPd:Int)))).set_ 1 (.int .i64 h.a);refine bodyPost_ret (fW (p:=8) (s:=9) (by kernel_rfl) _ _ (B+3) 48 #[.int .i64 (sN+(nPd:Int)),.int .i64 h.a] _ rfl hbl Tryz.underlying48 rfl (by kernel_rfl)) rfl ?_;have hnid:h.nid.1=sN+(nPd:Int):=by unfold HandD.nid;rw[HSN.o,HNP.o]
         have h1:=of_decide_eq_false HE.o.1;have h2:=of_decide_eq_false HE.o.2.1;have h3:=of_decide_eq_false HE.o.2.2;refine⟨h.push { o with ins:=bi,A:=AP,c:=cP,l:=P },_,_,_,rfl,⟨by show _;omega,by show _;omega⟩,HI.o.push (o:={ o with ins:=bi,A:=AP,c:=cP,l:=P }) (by rw[HNP.o];omega) (by rw[hnid];omega) ⟨HOK.o,HOV.o,by show P.length≤12;omega⟩ (fun e=>by rw[hnid];have:=HOU.o (HIN.o.trans e);rw[hnid]at this;exact this),HRS.o⟩
        ·go_simp;refine hK.out _ _ (HSI.o _ (KS.out _ (fun j h1 _ _=>sM _ _ _ h1))) (fun hHeld=>?_);clear hK K;try simp only[Act.put,zA,zB,zC]
         refine wpAnyH_ready (rs:=[4]) (by kernel_rfl) (by simp) ?_;refine bK (i:=4) rfl (fun K hK=>?_) sZ;go_simp;refine hK.out _ _ (HSI.o _ (KS.out _ (fun j h1 _ _=>sM _ _ _ h1))) (fun hHeld=>?_);clear hK K;try simp only[Act.put,zA,zB,zC]
         have c5:(w8.drew.alloc (.cells #[.int .i64 o.k,.int .i64 o.on,.int .i64 o.oa,.string o.key,.int .i64 o.en,.int .i64 o.ea,.bool bi,.int .i64 o.vk,.int .i64 o.vn,.string o.vt,.int .i64 o.va,.int .i64 o.vb,.slice AP P.length cP] 53)).cell? ⟨g,2,none⟩=some (.slice APd nPd cPd):=(HG8.o.drew.alloc _).cell 2;refine wpAnyH_ready (rs:=[7]) (by kernel_rfl) (by simp) ?_;refine bK (i:=7) rfl (fun K hK=>?_) sZ;refine bA _ (by rfl) (.tmp 134) (.tmp 136) 31 (by rfl) 0 53 i0 _ 13 136 Tryz.underlying31 hi hz0 hz1 hz2 rfl (by omega) (.slice APd nPd cPd) nPd (eF h.P) (by rfl) HOP.o _ (some ⟨w8.drew.heap.size,0,none⟩) 1 1 [.int .i64 o.k,.int .i64 o.on,.int .i64 o.oa,.string o.key,.int .i64 o.en,.int .i64 o.ea,.bool bi,.int .i64 o.vk,.int .i64 o.vn,.string o.vt,.int .i64 o.va,.int .i64 o.vb,.slice AP P.length cP] (by rfl) (cD (Blk.new w8.drew 53 #[.int .i64 o.k,.int .i64 o.on,.int .i64 o.oa,.string o.key,.int .i64 o.en,.int .i64 o.ea,.bool bi,.int .i64 o.vk,.int .i64 o.vn,.string o.vt,.int .i64 o.va,.int .i64 o.vb,.slice AP P.length cP]) (n:=13) rfl) (rH [{ o with ins:=bi,A:=AP,c:=cP,l:=P }]) (by simp only[maxLen];omega) (by omega) (uU _) ?_;intro v5 w5 ho5 hg5 hat5;refine hK.out _ _ (HSI.o _ (KS.out _ (fun j h1 h2 h3=>(hg5.block j (HSA.o j h1) (fun e=>h3 e.symm)).trans (sM _ _ _ h1)))) (fun hHeld=>?_);clear hK K;try simp only[Act.put,zA,zB,zC]
         have HG5:Hid ((w8.drew.alloc (.cells #[.int .i64 o.k,.int .i64 o.on,.int .i64 o.oa,.string o.key,.int .i64 o.en,.int .i64 o.ea,.bool bi,.int .i64 o.vk,.int .i64 o.vn,.string o.vt,.int .i64 o.va,.int .i64 o.vb,.slice AP P.length cP] 53)).grownBy w5 ((.slice APd nPd cPd):Value).ownBlock):=hg5;have HAT5:=Hi hat5;have HO5:=Hi ho5;have HP5:=Hi ((HG8.o.drew.alloc (.cells #[.int .i64 o.k,.int .i64 o.on,.int .i64 o.oa,.string o.key,.int .i64 o.en,.int .i64 o.ea,.bool bi,.int .i64 o.vk,.int .i64 o.vn,.string o.vt,.int .i64 o.va,.int .i64 o.vb,.slice AP P.length cP] 53)).grown hg5 HNE.o);obtain⟨A5,c5',hv5,-,-,-⟩:=aC.of_own ho5
         subst hv5;have p5:=cZ HP5.o 2 rfl;have f5:=HP5.o.frozen 2;clear hg5 hat5 ho5 c5;refine aK (i:=8) (v:=?_) rfl (by kernel_rfl) (by kernel_rfl) (by kernel_rfl) (fun _ _ _ h=>h) (Or.inl ⟨by rfl,?_⟩) hHeld ?_
         rotate_left
         ·(intro w _;go_simp;try with_reducible rfl)
         try simp only[Act.put,zA,zB,zC]
         refine aK (i:=9) (v:=?_) rfl (by kernel_rfl) (by kernel_rfl) (by kernel_rfl) (fun _ _ _ h=>h) (Or.inl ⟨by rfl,?_⟩) hHeld ?_
         rotate_left
         ·(intro w _;go_simp;try with_reducible rfl)
         try simp only[Act.put,zA,zB,zC]
         refine wpAnyH_ready (rs:=[10]) (by kernel_rfl) (by simp) ?_;refine bK (i:=10) rfl (fun K hK=>?_) sZ;go_simp;refine hK.out _ _ (HSI.o _ (KS.out _ (fun j h1 h2 h3=>(sU _ _ _ _ h2).trans ((HG5.o.block j (HSA.o j h1) (fun e=>h3 e.symm)).trans (sM _ _ _ h1))))) (fun hHeld=>?_);clear hK K;try simp only[Act.put,zA,zB,zC]
         refine wpAnyH_done (by kernel_rfl) ?_ _;clear hHeld HSI HSO p5 f5;have HX9:Hid (Blk (w5.setCell ⟨g,2,none⟩ (.slice A5 (nPd+1) c5')) q 48 #[.int .i64 (sN+(nPd:Int)),.int .i64 h.a]):=((HX8.o.drew.alloc (.cells #[.int .i64 o.k,.int .i64 o.on,.int .i64 o.oa,.string o.key,.int .i64 o.en,.int .i64 o.ea,.bool bi,.int .i64 o.vk,.int .i64 o.vn,.string o.vt,.int .i64 o.va,.int .i64 o.vb,.slice AP P.length cP] 53)).grown HG5.o (fun e=>by have:=HOWN.o _ e;have:=HQL.o.1;omega)).far (by have:=HGL.o;have:=HQL.o.1;show q≠g;omega) _;have HR9:Hid (Blk (w5.setCell ⟨g,2,none⟩ (.slice A5 (nPd+1) c5')) (B+3) 48 #[.int .i64 0,.int .i64 0]):=((HR8.o.drew.alloc (.cells #[.int .i64 o.k,.int .i64 o.on,.int .i64 o.oa,.string o.key,.int .i64 o.en,.int .i64 o.ea,.bool bi,.int .i64 o.vk,.int .i64 o.vn,.string o.vt,.int .i64 o.va,.int .i64 o.vb,.slice AP P.length cP] 53)).grown HG5.o (fun e=>by have:=HOWN.o _ e;omega)).far (by have:=HGL.o;show B+3≠g;omega) _;have hres:kA D F w (((w5.setCell ⟨g,2,none⟩ (.slice A5 (nPd+1) c5')).setCell ⟨B+3,0,none⟩ (.int .i64 (sN+(nPd:Int)))).setCell ⟨B+3,1,none⟩ (.int .i64 h.a)) g (h.push { o with ins:=bi,A:=AP,c:=cP,l:=P }) :=
          HMM.o.pushOp HB8.o (o:={ o with ins:=bi,A:=AP,c:=cP,l:=P }) (by have:=HG5.o;rw[HNP.o];exact this) (by have:=HO5.o;rw[HNP.o];exact this) (by rw[HNP.o];exact HAT5.o) HO8.o rfl (by have:=HS5.o;have:=HBB.o;omega) (by show P.length≤12;have:=of_decide_eq_false HE.o.2.1;omega) (by have:=HBB.o;omega) HR8.o.lt (fun e=>by have h1:=(aD HO8.o e).1;have:=HS5.o;omega) _ _
         have HRS:=Hi hres;have x0:(w5.setCell ⟨g,2,none⟩ (.slice A5 (nPd+1) c5')).cell? ⟨q,0,none⟩=some (.int .i64 (sN+(nPd:Int))):=HX9.o.cell 0;have x1:(w5.setCell ⟨g,2,none⟩ (.slice A5 (nPd+1) c5')).cell? ⟨q,1,none⟩=some (.int .i64 h.a):=HX9.o.cell 1;have r0:(w5.setCell ⟨g,2,none⟩ (.slice A5 (nPd+1) c5')).cell? ⟨B+3,0,none⟩=some (.int .i64 0):=HR9.o.cell 0;have r1:(w5.setCell ⟨g,2,none⟩ (.slice A5 (nPd+1) c5')).cell? ⟨B+3,1,none⟩=some (.int .i64 0):=HR9.o.cell 1;have f0:=HR9.o.frozen 0;have f1:=HR9.o.frozen 1;clear hres HP5 HO5 HG5 HAT5 HOP KS HNE HX8 HR8 HG8 HBo8 HO8;generalize hw9:w5.setCell ⟨g,2,none⟩ (.slice A5 (nPd+1) c5')=w9 at HX9 HR9 HRS x0 x1 r0 r1 f0 f1 ⊢;clear hw9;go_wp2_with fail
         have hbl:=(HR9.o.set_ 0 (.int .i64 (sN+(nPd:Int)))).set_ 1 (.int .i64 h.a);refine bodyPost_ret (fW (p:=8) (s:=9) (by kernel_rfl) _ _ (B+3) 48 #[.int .i64 (sN+(nPd:Int)),.int .i64 h.a] _ rfl hbl Tryz.underlying48 rfl (by kernel_rfl)) rfl ?_;have hnid:h.nid.1=sN+(nPd:Int):=by unfold HandD.nid;rw[HSN.o,HNP.o]
         have h1:=of_decide_eq_false HE.o.1;have h2:=of_decide_eq_false HE.o.2.1;have h3:=of_decide_eq_false HE.o.2.2;refine⟨h.push { o with ins:=bi,A:=AP,c:=cP,l:=P },_,_,_,rfl,⟨by show _;omega,by show _;omega⟩,HI.o.push (o:={ o with ins:=bi,A:=AP,c:=cP,l:=P }) (by rw[HNP.o];omega) (by rw[hnid];omega) ⟨HOK.o,HOV.o,by show P.length≤12;omega⟩ (fun e=>by rw[hnid];have:=HOU.o (HIN.o.trans e);rw[hnid]at this;exact this),HRS.o⟩
end Go.Proofs.YtjhkcbideddlgaaGreat
