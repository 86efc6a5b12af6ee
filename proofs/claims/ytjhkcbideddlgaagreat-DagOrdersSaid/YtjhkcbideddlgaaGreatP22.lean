/- Contracts of the program's books: Take. -/
import Derived.Test.YtjhkcbideddlgaaGreatP21
import Derived.Test.YtjhkcbideddlgaaGreatP20
import Derived.Deep.DeepCutAuto
set_option maxHeartbeats 16000000
set_option maxRecDepth 20000
set_option linter.unusedVariables false
set_option linter.unusedSimpArgs false
namespace Go.Proofs.YtjhkcbideddlgaaGreat
open Go.ChangeShapes Go.WideShapes Go.ChangeAt Go.RowKit
theorem take_any(X:List (ChD×Nat×List Rf))(W:List ChD)(c:ChD)(g bh bw bb:Nat)(w:World)(hB:PB w g bh bw bb X W)(hi:Inv (X.map Prod.fst) W)(hc:ChIn (fun k=>k<w.heap.size) w c)(hw:∀o∈c.ops,(Lit.int .i64 o.vn).wf=true):
 Calls Tryz.prog 8 #[.pointer (some ⟨g,0,none⟩),c.v] w fun e w' =>
  ∃(c':ChD) (X':List (ChD×Nat×List Rf)),c'.base=c.base∧e=.returned (jN (aS (X.map Prod.fst) W c').2)∧PB w' g bh bw bb X' (aS (X.map Prod.fst) W c').1.2∧X'.map Prod.fst=(aS (X.map Prod.fst) W c').1.1∧Chg (fun k=>k=bh∨k=bw∨k=bb) w w'∧(∀x∈X',x∈X∨w.heap.size≤x.2.1) ∧
  (∀y,y∈(aS (X.map Prod.fst) W c').1.1∨y∈(aS (X.map Prod.fst) W c').1.2→y∈X.map Prod.fst∨y∈W∨ChIn (fun k=>w.heap.size≤k) w' y):=by
 obtain⟨L,hL⟩:∃L,X.map Prod.fst=L:=⟨_,rfl⟩
 have HB:=Hi hB;have HLX:=Hi hL;have HCI:=Hi hc;have HV:=Hi hw;rw[hL]at hi ⊢;have HI:=Hi hi;have HW:Hid (Below w.heap.size w (w.alloc (.cells #[.int .i64 c.a,.int .i64 c.s,.int .i64 c.st,.slice c.DA c.deps.length c.DC,.slice c.OA c.ops.length c.OC] 33))):=(sA _ w).alloc (sB _) _;have HQ:=Hi (Blk.new w 33 #[.int .i64 c.a,.int .i64 c.s,.int .i64 c.st,.slice c.DA c.deps.length c.DC,.slice c.OA c.ops.length c.OC]);have C1:=fun V h=>check_any c.a c.s c.st c.deps c.DA c.deps.length c.DC c.ops c.OA c.ops.length c.OC V h rfl rfl
 clear hB hc hi hL hw;unfold ChD.v;go_enter Tryz.func8,Tryz.ntmps8;go_wp2_with fail
 refine qG 0 (fun a' w'=>a'.tmps.size=115∧a'.defers=[]∧a'.tmps[0]?=some (.pointer (some ⟨g,0,none⟩))∧∃(c':ChD) (X':List (ChD×Nat×List Rf)) (W':List ChD),Hid (c'.base=c.base)∧Hid (aS L W c'=(bO W'.length (X'.map Prod.fst) W',0))∧Hid (PB w' g bh bw bb X' W')∧Hid (Inv (X'.map Prod.fst) W')∧Hid (Chg (fun k=>k=bh∨k=bw∨k=bb) w w')∧Hid (∀x∈X',x∈X∨w.heap.size≤x.2.1)∧Hid (∀y,y∈X'.map Prod.fst∨y∈W'→y∈L∨y∈W∨y=c')∧Hid (∃V,ChIn (fun k=>w.heap.size≤k) V c'))
  (fun _ w'=>mlen w' bw) rfl ?_ ?_
 ·clear HW HQ C1
  as_aux_lemma =>
   rintro a' w' ⟨hs,hd,h0,c',X',W',HCB,HTP,HPB,HINV,HCH,HFX,HFY,HFC⟩;refine frame_of 115 (fun a=>a.tmps[0]?=some (.pointer (some ⟨g,0,none⟩))→Code.wp Tryz.prog _ (Exit.jump 0 _ _) a w') hs hd ?_ h0;clear hs hd h0;intro u0 u1 u2 u3 u4 u5 u6 u7 u8 u9 u10 u11 u12 u13 u14 u15 u16 u17 u18 u19 u20 u21 u22 u23 u24 u25 u26 u27 u28 u29 u30 u31 u32 u33 u34 u35 u36 u37 u38 u39 u40 u41 u42 u43 u44 u45 u46 u47 u48 u49 u50 u51 u52 u53 u54 u55 u56 u57 u58 u59 u60 u61 u62 u63 u64 u65 u66 u67 u68 u69 u70 u71 u72 u73 u74 u75 u76 u77 u78 u79 u80 u81 u82 u83 u84 u85 u86 u87 u88 u89 u90 u91 u92 u93 u94 u95 u96 u97 u98 u99 u100 u101 u102 u103 u104 u105 u106 u107 u108 u109 u110 u111 u112 u113 u114 h0;obtain rfl:u0=.pointer (some ⟨g,0,none⟩):=by simpa using h0
   clear h0;obtain⟨L',hL'⟩:∃L',X'.map Prod.fst=L':=⟨_,rfl⟩
   have HLX':=Hi hL';rw[hL']at HTP HINV;clear hL';have g1:=cZ HPB.o.blk 1 rfl;have C1:=mE (W'.map kvC) bw w' HPB.o.mw.kv (by rw[tF];have:=HINV.o.most;omega);rw[kvC_fst]at C1;have HML:Hid (mlen w' bw=W'.length):=dS.mlen HPB.o.mw;go_wp2_with fail
   go_at_call 44;refine C1.mono ?_;rintro e w3 ⟨A,cc,S,rfl,hp,ha,hrow,hb⟩;have hb3:Below w'.heap.size w' w3:=hb;have HP3:=Hi (HPB.o.below hb3);have HAG:=Hi (Ag.start HINV.o rfl hp ha);have HROW:Hid (∀i r,S[i]?=some r→∃b,A=some ⟨b,0,none⟩∧w'.heap.size≤b∧b<w3.heap.size∧w3.cell? ⟨b,i*2,none⟩=some (.int .i64 r.1)∧w3.cell? ⟨b,i*2+1,none⟩=some (.int .i64 r.2)):=fun i r hr=>by
    rcases hrow with rfl|⟨b,h1,h2,rfl,h3,_⟩
    ·simp at hr
    ·exact⟨b,rfl,h1,h2,h3.cell1 hr,h3.cell2 hr⟩
   have HC3:Hid (Chg (fun k=>k=bh∨k=bw∨k=bb) w w3):=HCH.o.trans (Chg.of_below hb3) fun _ _ h=>h
   have HBW:Hid (bw<w'.heap.size∧w'.heap.size≤w3.heap.size):=⟨aJ.lt HPB.o.mw,hb3.size⟩;obtain⟨n,hn⟩:∃n,S.length=n:=⟨_,rfl⟩
   have HN:=Hi hn;have hn2:n≤120:=by rw[←hn,hp.length_eq];have:=HINV.o.most;simp only[aB,tF];omega
   rw[hn];clear C1 g1 hp ha hrow hb hb3 hn HCH HPB;go_wp2_with fail
   go_loopw [10,11,89] (fun _ _ s wr=>∃(i:Nat) (W2:List ChD),s=.int .i64 i∧i≤n∧Hid (PB wr g bh bw bb X' W2)∧Hid (Ag L' W' S i L' W2)∧Hid ((∀y∈W2,y∈W')∧W2.length≤W'.length)∧Hid (Chg (fun k=>k=bw) w3 wr)) (fun _ _ s _=>n-(intOf s).toNat)
   case atStart=>exact⟨0,W',rfl,by omega,HP3,HAG,Hi ⟨fun _ h=>h,sB _⟩,Hi (Chg.refl _)⟩
   case round =>
    clear HP3 HAG;obtain⟨i,W2,rfl,hi,HP,HAG,HWW,HC⟩:=hrel
    by_cases hil:i<n
    ·as_aux_lemma =>
      obtain⟨r,hr⟩:∃r,S[i]?=some r:=⟨_,sC (by rw[HN.o];exact hil)⟩
      obtain⟨j,x,hx,hxr⟩:=HAG.o.at hr
      obtain⟨b,hA,hb1,hb2,hb3,hb4⟩:=HROW.o i r hr
      obtain⟨r1,r2⟩:=r
      have x1:wr.cell? ⟨b,i*2,none⟩=some (.int .i64 r1):=(sK (HC.o.block _ hb2 (fun e=>by have:=HBW.o;have e:b=bw:=e;omega))).trans hb3;have x2:wr.cell? ⟨b,i*2+1,none⟩=some (.int .i64 r2):=(sK (HC.o.block _ hb2 (fun e=>by have:=HBW.o;have e:b=bw:=e;omega))).trans hb4;have hbl:b<wr.heap.size:=sD hb2 HC.o.size;have HX:=Hi hx;have HXR:=Hi hxr;have HR:=Hi hr;have HXW:=Hi (sJ hx);have HXG:=Hi (HAG.o.inv.good x (sJ hx));have HLT:=Hi hil;have HOX:=Hi hA;rw[hA];clear hx hxr hA hb1 hb2 hb3 hb4 hr;go_upto_region 24 with fail
      have HRB:=Hi (Blk.new wr 45 #[.int .i64 r1,.int .i64 r2]);have hb9:Below wr.heap.size wr (wr.alloc (.cells #[.int .i64 r1,.int .i64 r2] 45)):=(sA _ wr).alloc (sB _) _;have HPR:=Hi (HP.o.below hb9);have HC4:=Hi (HC.o.alloc (.cells #[.int .i64 r1,.int .i64 r2] 45));clear x1 x2 hbl hb9 HP HC;generalize wr.alloc (.cells #[.int .i64 r1,.int .i64 r2] 45)=w4 at HRB HPR HC4 ⊢;generalize wr.heap.size=qr at HRB ⊢;obtain⟨q0,q1⟩:=ce2 HRB.o
      have g0:=cZ HPR.o.blk 1 rfl;have hr64:eL (r1,r2):=by rw[←HXR.o];exact mF HXG.o.1
      have hlv:hN W2 (r1,r2)=x.v:=by unfold hN;rw[←HXR.o,dQ HAG.o.inv.nd HXW.o]
      have KL:∀V:World,Below w4.heap.size w4 V→(Instr.lookup 90 (.map (some bw)) (.agg #[.int .i64 r1,.int .i64 r2]) false).run Tryz.prog V=.ok (.agg #[.int .i64 x.a,.int .i64 x.s,.int .i64 x.st,.slice x.DA x.deps.length x.DC,.slice x.OA x.ops.length x.OC]) V:=fun V hv=>by
       have h1:=dS.look (show dS V bw W2 from aJ.keep HPR.o.mw (hv.block _ (aJ.lt HPR.o.mw))) hr64 false;rw[hlv]at h1;simp only[uT,if_false]at h1;exact h1
      have KS:∀V:World,Below w4.heap.size w4 V→V.cell? ⟨qr,0,none⟩=some (.int .i64 r1)∧V.cell? ⟨qr,1,none⟩=some (.int .i64 r2)∧V.cell? ⟨g,1,none⟩=some (.map (some bw))∧(Instr.lookup 90 (.map (some bw)) (.agg #[.int .i64 r1,.int .i64 r2]) false).run Tryz.prog V=.ok (.agg #[.int .i64 x.a,.int .i64 x.s,.int .i64 x.st,.slice x.DA x.deps.length x.DC,.slice x.OA x.ops.length x.OC]) V:=fun V hv=>⟨(sK (hv.block _ HRB.o.lt)).trans q0,(sK (hv.block _ HRB.o.lt)).trans q1,(sK (hv.block _ HPR.o.blk.lt)).trans g0,KL V hv⟩
      have K0:=KS w4.drew (sA _ w4).drew;have K1:=fun o=>KS (w4.drew.alloc o) ((sA _ w4).drew.alloc (sB _) o)
      clear KL KS q0 q1 g0;clear hlv;go_cut [11] (fun s11 wc=>s11=.pointer (some ⟨w4.heap.size,0,none⟩)∧wc=(w4.alloc (.cells #[.int .i64 x.a,.int .i64 x.s,.int .i64 x.st,.slice x.DA x.deps.length x.DC,.slice x.OA x.ops.length x.OC] 33)).drew)
      case first =>
       go_region_held3 (fun w'=>w'.cell? ⟨qr,0,none⟩=some (.int .i64 r1)∧w'.cell? ⟨qr,1,none⟩=some (.int .i64 r2)∧w'.cell? ⟨g,1,none⟩=some (.map (some bw))∧(Instr.lookup 90 (.map (some bw)) (.agg #[.int .i64 r1,.int .i64 r2]) false).run Tryz.prog w'=.ok (.agg #[.int .i64 x.a,.int .i64 x.s,.int .i64 x.st,.slice x.DA x.deps.length x.DC,.slice x.OA x.ops.length x.OC]) w') (first|exact K0|exact K1 _|go_keep) (fail)
       all_goals
        clear K0 K1;go_wp2_with fail
        go_meet
        case rel=>exact⟨rfl,rfl⟩
      case rest =>
       obtain⟨rfl,rfl⟩:=hcut
       clear K0 K1;have hb9:Below w4.heap.size w4 (w4.alloc (.cells #[.int .i64 x.a,.int .i64 x.s,.int .i64 x.st,.slice x.DA x.deps.length x.DC,.slice x.OA x.ops.length x.OC] 33)).drew:=((sA _ w4).alloc (sB _) _).drew;have HV:Hid (Blk (w4.alloc (.cells #[.int .i64 x.a,.int .i64 x.s,.int .i64 x.st,.slice x.DA x.deps.length x.DC,.slice x.OA x.ops.length x.OC] 33)).drew w4.heap.size 33 #[.int .i64 x.a,.int .i64 x.s,.int .i64 x.st,.slice x.DA x.deps.length x.DC,.slice x.OA x.ops.length x.OC]):=Blk.new w4 _ _;have HRB5:=Hi (HRB.o.keep (hb9.block _ HRB.o.lt));have HP5:=Hi (HPR.o.below hb9);have HC5:Hid (Chg (fun k=>k=bw) w3 (w4.alloc (.cells #[.int .i64 x.a,.int .i64 x.s,.int .i64 x.st,.slice x.DA x.deps.length x.DC,.slice x.OA x.ops.length x.OC] 33)).drew):=(HC4.o.alloc _).drew;clear hb9 HRB HPR HC4;generalize (w4.alloc (.cells #[.int .i64 x.a,.int .i64 x.s,.int .i64 x.st,.slice x.DA x.deps.length x.DC,.slice x.OA x.ops.length x.OC] 33)).drew=w5 at HV HRB5 HP5 HC5 ⊢;generalize w4.heap.size=qx at HV ⊢;obtain⟨y0,y1,y2,y3,y4⟩:=ce5 HV.o
       have C2:=ready_any L' x (err_deps HXG.o.1) g bh (.map (some bw)) (.map (some bb)) w5 (HLX'.o▸HP5.o.hb) ((HP5.o.inW x HXW.o).more fun k hk=>hk.1);unfold ChD.v at C2;go_wp2_with fail
       go_at_call 41;refine C2.mono ?_;rintro e w6 ⟨rfl,hb⟩;have HV6:=Hi (HV.o.keep (hb.block _ HV.o.lt));have HRB6:=Hi (HRB5.o.keep (hb.block _ HRB5.o.lt));have HP6:=Hi (HP5.o.below hb);have HC6:Hid (Chg (fun k=>k=bw) w3 w6):=HC5.o.trans (Chg.of_below hb) fun _ _ h=>h
       clear C2 hb y0 y1 y2 y3 y4 HV HRB5 HP5 HC5;cases hrd:aU L' x with
       |false =>
        have HAG2:=Hi (HAG.o.skip HR.o HX.o HXR.o hrd);clear hrd;go_wp2_with fail
        go_roundw
        case rel=>exact⟨i+1,W2,by go_num,by have:=HLT.o;omega,HP6,HAG2,HWW,HC6⟩
        case measure=>have:=HLT.o;simp[intOf];omega
       |true =>
        have HRD:=Hi hrd;clear hrd;obtain⟨q0,q1⟩:=ce2 HRB6.o
        have g0:=cZ HP6.o.blk 1 rfl;go_upto_region 26 with fail
        refine wp_region_still_tail 5 (by kernel_rfl) (by kernel_rfl) ?_;simp only[tE,tO,tG,tT];repeat (first|(refine aQ rfl (fun K hK=>?_);go_simp;refine hK _ ?_;clear hK K)|(refine wpStill_skip rfl ?_;go_frame))
        refine wpStill_nil ?_;change wpList _ _ _ _ _ w6.drew;have HP7:Hid (PB w6.drew g bh bw bb X' W2):=HP6.o.below (sA _ w6).drew;have HV7:Hid (Blk w6.drew qx 33 #[.int .i64 x.a,.int .i64 x.s,.int .i64 x.st,.slice x.DA x.deps.length x.DC,.slice x.OA x.ops.length x.OC]):=HV6;have HC7:Hid (Chg (fun k=>k=bw) w3 w6.drew):=HC6.o.drew;clear q0 q1 g0 HP6 HV6 HC6 HRB6;generalize w6.drew=w7 at HP7 HV7 HC7 ⊢;have hdr:∀ty,∃w',(Builtin.delete_ #[90,45] ty #[.map (some bw),.agg #[.int .i64 r1,.int .i64 r2]]).run Tryz.prog w7=.ok (.tuple #[]) w'∧(dS w' bw (W2.eraseIdx j)∧w7.mapTurned w' bw):=fun ty=>by
         have:=HP7.o.mw.drop HX.o ty
         rw[HXR.o]at this;exact this
        go_wp2_with (first
         |(refine wpL_delete _ rfl (.tmp 106) (.tmp 107) 90 45 rfl bw (.agg #[.int .i64 r1,.int .i64 r2]) rfl rfl (fun w'=>dS w' bw (W2.eraseIdx j)∧w7.mapTurned w' bw) hdr ?_;rintro w8 ⟨hm8,ht8⟩;have hg8:=ht8.grown;have hch8:Chg (fun k=>k=bw) w7 w8:=(Chg.refl w7).grown hg8 (fun q hq=>by cases hq;exact .inl rfl);have HXI:Hid (ChIn (NF w7 bh bw bb) w8 x):=(HP7.o.inW x HXW.o).keep fun k hk=>hch8.block k hk.1 (fun e=>hk.2.2.1 e)
           have HP8:=Hi (HP7.o.waits hch8 hm8 (fun c hc=>.inl (dJ hc)));have HV8:=Hi (HV7.o.keep (hch8.block _ HV7.o.lt (fun e=>aJ.no_cells HP7.o.mw _ _ (by have e:qx=bw:=e;rw[←e];exact HV7.o))));have HC8:Hid (Chg (fun k=>k=bw) w3 w8):=HC7.o.trans hch8 fun _ _ h=>h
           have HS8:Hid (w7.heap.size≤w8.heap.size):=hch8.size;clear hdr hm8 ht8 hg8 hch8 HP7 HV7 HC7;have HXJ:Hid (ChIn (NF w8 bh bw bb) w8 x):=HXI.o.more fun k hk=>⟨sD hk.1 HS8.o,hk.2⟩
           clear HXI HS8;obtain⟨y0,y1,y2,y3⟩:=ce4 HV8.o
           have y4:w8.cell? ⟨qx,4,none⟩=some (.slice x.OA x.ops.length x.OC):=HV8.o.cell 4))
        have hlen:X'.length≤1000:=by have h1:=HAG.o.inv.most;have h2:=congrArg List.length HLX'.o;simp only[tF]at h2;omega
        have C3:=fits_any X' (W2.eraseIdx j) x g bh bw bb w8 HP8.o (HLX'.o▸HAG.o.inv.bk) hlen (HXJ.o.more fun k hk=>hk.1) HXG.o.1 (HLX'.o▸HRD.o);rw[HLX'.o]at C3;unfold ChD.v at C3;go_wp2_with fail
        go_at_call 42;refine C3.mono ?_;rintro e w9 ⟨rfl,hb⟩;have HV9:=Hi (HV8.o.keep (hb.block _ HV8.o.lt));have HP9:=Hi (HP8.o.below hb);have HX9:Hid (ChIn (NF w9 bh bw bb) w9 x):=(HXJ.o.keep fun k hk=>hb.block k hk.1).more fun k hk=>hk.more hb.size
        have HC9:Hid (Chg (fun k=>k=bw) w3 w9):=HC8.o.trans (Chg.of_below hb) fun _ _ h=>h
        have HWE:Hid ((∀y∈W2.eraseIdx j,y∈W')∧(W2.eraseIdx j).length≤W'.length):=⟨fun y hy=>HWW.o.1 y (dJ hy),sY (List.length_eraseIdx_le ..) HWW.o.2⟩;clear C3 hb y0 y1 y2 y3 y4 HV8 HP8 HXJ HC8;cases hft:bR L' x with
        |false =>
         have HAG2:=Hi (HAG.o.lose HR.o HX.o HXR.o HRD.o hft);clear hft hlen;go_wp2_with fail
         go_roundw
         case rel=>exact⟨i+1,W2.eraseIdx j,by go_num,by have:=HLT.o;omega,HP9,HAG2,HWE,HC9⟩
         case measure=>have:=HLT.o;simp[intOf];omega
        |true =>
         have HWIN:=Hi (HAG.o.win HR.o HX.o HXR.o HRD.o hft);clear hft;obtain⟨y0,y1,y2,y3,y4⟩:=ce5 HV9.o
         have C4:=put_any X' (W2.eraseIdx j) x g bh bw bb w9 HP9.o (HLX'.o▸HAG.o.inv.bk) hlen HX9.o HXG.o.1 (HLX'.o▸HRD.o) (HLX'.o▸HAG.o.inv.apart x HXW.o);unfold ChD.v at C4;go_wp2_with fail
         go_at_call 43;refine C4.mono ?_;rintro e w10 ⟨rfl,⟨mk,Sk,hp10,hmk⟩,hch⟩;have HP10:=Hi hp10;have HMK:=Hi hmk;have HC10:Hid (Chg (fun k=>k=bh∨k=bw∨k=bb) w w10):=(HC3.o.trans HC9.o fun _ _ h=>.inr (.inl h)).trans hch fun i hi h=>h.elim .inl fun h=>.inr (.inr h)
         have HML2:Hid (mlen w10 bw<mlen w' bw):=by show _<_;rw[HML.o,dS.mlen HP10.o.mw];exact sD HWIN.o.2.2 HWW.o.2
         have HTP2:Hid (aS L W c'=(bO (W2.eraseIdx j).length ((X'++[(x,mk,Sk)]).map Prod.fst) (W2.eraseIdx j),0)):=by
          show _=_;rw[HTP.o,HWIN.o.1,tN,HLX'.o];rfl
         have HIN2:Hid (Inv ((X'++[(x,mk,Sk)]).map Prod.fst) (W2.eraseIdx j)):=by show Inv _ _;rw[tN,HLX'.o];exact HWIN.o.2.1
         have HFX2:Hid (∀z∈X'++[(x,mk,Sk)],z∈X∨w.heap.size≤z.2.1):=fun z hz=>by
          rcases sG.1 hz with h|h
          ·exact HFX.o z h
          ·rw[sP.1 h];exact .inr (sY (sY HC3.o.size HC9.o.size) HMK.o)
         have HFY2:Hid (∀y,y∈(X'++[(x,mk,Sk)]).map Prod.fst∨y∈W2.eraseIdx j→y∈L∨y∈W∨y=c'):=fun y hy=>by
          have hxW:x∈W':=HWW.o.1 x HXW.o;rw[tN]at hy;rcases hy with h|h
          ·rcases sG.1 h with h|h
           ·exact HFY.o y (.inl h)
           ·rw[sP.1 h];exact HFY.o x (.inr hxW)
          ·exact HFY.o y (.inr (HWE.o.1 y h))
         clear C4 hp10 hmk hch y0 y1 y2 y3 y4;go_wp2_with fail
         go_step3
         refine⟨rfl,⟨rfl,rfl,rfl,c',X'++[(x,mk,Sk)],W2.eraseIdx j,HCB,HTP2,HP10,HIN2,HC10,HFX2,HFY2,HFC⟩,HML2.o⟩
    ·have HDN:Hid (aS L W c'=((L',W2),0)):=by show _=_;rw[HTP.o,HAG.o.done (by rw[HN.o];omega)]
     have HC9:Hid (Chg (fun k=>k=bh∨k=bw∨k=bb) w wr):=HC3.o.trans HC.o fun _ _ h=>.inr (.inl h)
     go_wp2_with fail
     try simp only[Exit.jump]
     go_ret;exact⟨c',X',HCB.o,by rw[HDN.o];rfl,by rw[HDN.o];exact HP.o,by rw[HDN.o];exact HLX'.o,HC9.o,HFX.o,by
      rw[HDN.o];exact take_fresh HP.o HLX'.o (fun y hy=>HFY.o y (by rw[HLX'.o];exact hy.imp id (HWW.o.1 y))) HFC.o⟩
 ·as_aux_lemma =>
   intro again;have AGN:=Hi again;clear again;go_wp2_with fail
   generalize w.alloc (.cells #[.int .i64 c.a,.int .i64 c.s,.int .i64 c.st,.slice c.DA c.deps.length c.DC,.slice c.OA c.ops.length c.OC] 33)=V at *;replace C1:=C1 V ((HCI.o.chm (fun _ h=>h)).keep HW.o);obtain⟨c0,c1,c2,c3,c4⟩:=ce5 HQ.o
   go_wp2_with fail
   go_at_call 37;refine C1.mono ?_;rintro e w1 ⟨rfl,hb⟩;replace HQ:=Hi (HQ.o.keep (hb.block _ HQ.o.lt));replace HW:Hid (Below w.heap.size w w1):=HW.o.trans (hb.mono HW.o.size);clear hb;clear C1 c0 c1 c2 c3 c4;have HE:Hid (c.err=dK c.a c.s c.st c.deps c.ops):=rfl;rw[←HE.o];by_cases he:c.err=0
   case neg =>
    have hev:jN c.err=.iface 97 (.int .i64 c.err):=sT he;have HT:Hid (aS L W c=((L,W),c.err)):=takeP_err he;have HEV:=Hi hev;rw[hev];clear he hev;go_wp2_with fail
    try simp only[Exit.jump]
    go_ret;exact⟨c,X,rfl,by rw[HT.o];exact congrArg _ HEV.o.symm,by rw[HT.o];exact HB.o.below HW.o,by rw[HT.o];exact HLX.o,Chg.of_below HW.o,fun x hx=>.inl hx,by rw[HT.o];exact fun y hy=>hy.elim .inl fun h=>.inr (.inl h)⟩
   case pos =>
    have HE0:=Hi he;rw[he,show jN 0=.nilIface from rfl];clear he;obtain⟨c0,c1,c2,c3,c4⟩:=ce5 HQ.o
    have C2:=chref_any c.a c.s (.int .i64 c.st) (.slice c.DA c.deps.length c.DC) (.slice c.OA c.ops.length c.OC) w1 rfl rfl rfl;go_wp2_with fail
    go_at_call 38;refine C2.mono ?_;rintro e w2 ⟨rfl,hb⟩;replace HQ:=Hi (HQ.o.keep (hb.block _ HQ.o.lt));replace HW:Hid (Below w.heap.size w w2):=HW.o.trans (hb.mono HW.o.size);clear hb;clear C2 c0 c1 c2 c3 c4;go_upto_region 5 with fail
    have hb9:Below w2.heap.size w2 (w2.alloc (.cells #[.int .i64 c.a,.int .i64 c.s] 45)):=(sA _ w2).alloc (sB _) _;have HRB:=Hi (Blk.new w2 45 #[.int .i64 c.a,.int .i64 c.s]);have HQ3:=Hi (HQ.o.keep (hb9.block _ HQ.o.lt));have HW3:Hid (Below w.heap.size w (w2.alloc (.cells #[.int .i64 c.a,.int .i64 c.s] 45))):=HW.o.trans (hb9.mono HW.o.size);have hqr:=HQ.o.lt;clear HQ HW hb9;generalize w2.alloc (.cells #[.int .i64 c.a,.int .i64 c.s] 45)=w3 at HRB HQ3 HW3 ⊢;generalize w2.heap.size=qr at HRB hqr ⊢;have HQRN:=Hi hqr;clear hqr;have HPR:=Hi (HB.o.below HW3.o);have HI64:=Hi (mF HE0.o);obtain⟨xa,xs,xst,xA,xn,xC,xA',xn',xC',hlv⟩:=kS L c.rf
    obtain⟨ok,hok⟩:∃ok,decide (c.rf∈aB L)=ok:=⟨_,rfl⟩
    have HLV:=Hi hlv;have HOK:=Hi hok;obtain⟨q0,q1⟩:=ce2 HRB.o
    have g0:=cZ HPR.o.blk 0 rfl;have KS:∀V:World,Below w3.heap.size w3 V→V.cell? ⟨qr,0,none⟩=some (.int .i64 c.a)∧V.cell? ⟨qr,1,none⟩=some (.int .i64 c.s)∧V.cell? ⟨g,0,none⟩=some (.map (some bh))∧(Instr.lookup 90 (.map (some bh)) (.agg #[.int .i64 c.a,.int .i64 c.s]) true).run Tryz.prog V=.ok (.tuple #[.agg #[.int .i64 xa,.int .i64 xs,.int .i64 xst,.slice xA xn xC,.slice xA' xn' xC'],.bool ok]) V:=fun V hv=>by
     have hm:dS V bh L:=by rw[←HLX.o];exact aJ.keep HPR.o.mh (hv.block _ (aJ.lt HPR.o.mh))
     have h1:=dS.lookT hm HI64.o HLV.o HOK.o;exact⟨(sK (hv.block _ HRB.o.lt)).trans q0,(sK (hv.block _ HRB.o.lt)).trans q1,(sK (hv.block _ HPR.o.blk.lt)).trans g0,h1⟩
    have K0:=KS w3.drew (sA _ w3).drew;have K1:=fun o=>KS (w3.drew.alloc o) ((sA _ w3).drew.alloc (sB _) o)
    clear KS q0 q1 g0 hlv hok;go_cut [7,8] (fun s7 s8 wc=>s7=.pointer (some ⟨w3.heap.size,0,none⟩)∧s8=.bool ok∧wc=(w3.alloc (.cells #[.int .i64 xa,.int .i64 xs,.int .i64 xst,.slice xA xn xC,.slice xA' xn' xC'] 33)).drew)
    case first =>
     go_region_held3 (fun w'=>w'.cell? ⟨qr,0,none⟩=some (.int .i64 c.a)∧w'.cell? ⟨qr,1,none⟩=some (.int .i64 c.s)∧w'.cell? ⟨g,0,none⟩=some (.map (some bh))∧(Instr.lookup 90 (.map (some bh)) (.agg #[.int .i64 c.a,.int .i64 c.s]) true).run Tryz.prog w'=.ok (.tuple #[.agg #[.int .i64 xa,.int .i64 xs,.int .i64 xst,.slice xA xn xC,.slice xA' xn' xC'],.bool ok]) w') (first|exact K0|exact K1 _|go_keep) (fail)
     all_goals
      clear K0 K1;go_wp2_with fail
      go_meet
      case rel=>exact⟨rfl,rfl,rfl⟩
    case rest =>
     obtain⟨rfl,rfl,rfl⟩:=hcut
     clear K0 K1;have hb9:Below w3.heap.size w3 (w3.alloc (.cells #[.int .i64 xa,.int .i64 xs,.int .i64 xst,.slice xA xn xC,.slice xA' xn' xC'] 33)).drew:=((sA _ w3).alloc (sB _) _).drew;have H7:Hid (Blk (w3.alloc (.cells #[.int .i64 xa,.int .i64 xs,.int .i64 xst,.slice xA xn xC,.slice xA' xn' xC'] 33)).drew w3.heap.size 33 #[.int .i64 xa,.int .i64 xs,.int .i64 xst,.slice xA xn xC,.slice xA' xn' xC']):=Blk.new w3 _ _;have HRB4:=Hi (HRB.o.keep (hb9.block _ HRB.o.lt));have HQ4:=Hi (HQ3.o.keep (hb9.block _ HQ3.o.lt));have HPR4:=Hi (HPR.o.below hb9);have HW4:Hid (Below w.heap.size w (w3.alloc (.cells #[.int .i64 xa,.int .i64 xs,.int .i64 xst,.slice xA xn xC,.slice xA' xn' xC'] 33)).drew):=HW3.o.trans (hb9.mono HW3.o.size);have HGQ:Hid (g≠w3.heap.size):=fun e=>by have:=HPR.o.blk.lt;omega
     have HNE:Hid (w.heap.size<w3.heap.size∧qr<w3.heap.size∧w.heap.size≤w3.heap.size):=⟨HQ3.o.lt,HRB.o.lt,HW3.o.size⟩;clear hb9 HRB HQ3 HPR HW3;generalize (w3.alloc (.cells #[.int .i64 xa,.int .i64 xs,.int .i64 xst,.slice xA xn xC,.slice xA' xn' xC'] 33)).drew=w4 at H7 HRB4 HQ4 HPR4 HW4 ⊢;generalize w3.heap.size=q7 at H7 HNE HGQ ⊢;go_upto_if 29 with fail
     go_cut [8] (fun s8 wc=>∃(od:Option ChD) (xa xs xst:Int) (xA:Option Addr) (xn xC:Nat) (xA':Option Addr) (xn' xC':Nat),s8=.bool od.isSome∧Hid ((aV L c.rf).or (aV W c.rf)=od)∧Hid (∀d,od=some d→d.v=.agg #[.int .i64 xa,.int .i64 xs,.int .i64 xst,.slice xA xn xC,.slice xA' xn' xC'])∧Hid (Blk wc q7 33 #[.int .i64 xa,.int .i64 xs,.int .i64 xst,.slice xA xn xC,.slice xA' xn' xC'])∧Hid (Blk wc w.heap.size 33 #[.int .i64 c.a,.int .i64 c.s,.int .i64 c.st,.slice c.DA c.deps.length c.DC,.slice c.OA c.ops.length c.OC])∧Hid (Blk wc qr 45 #[.int .i64 c.a,.int .i64 c.s])∧Hid (Below w.heap.size w wc))
     case first =>
      cases ok with
      |true =>
       obtain⟨d,hd⟩:∃d,aV L c.rf=some d:=by
        cases h:aV L c.rf with
        |some d=>exact⟨d,rfl⟩
        |none=>exact absurd (of_decide_eq_true HOK.o) (bW.1 h)
       have HFD:Hid ((aV L c.rf).or (aV W c.rf)=some d):=by show _=_;rw[hd];rfl
       have HDV:Hid (∀d',some d=some d'→d'.v=.agg #[.int .i64 xa,.int .i64 xs,.int .i64 xst,.slice xA xn xC,.slice xA' xn' xC']):=fun d' e=>by
        cases e;have:=HLV.o
        unfold hN at this;rw[hd]at this;exact this
       clear hd;go_wp2_with fail
       go_meet
       case rel=>exact⟨some d,xa,xs,xst,xA,xn,xC,xA',xn',xC',rfl,HFD,HDV,H7,HQ4,HRB4,HW4⟩
      |false =>
       obtain⟨ya,ys,yst,yA,yn,yC,yA',yn',yC',hlv⟩:=kS W c.rf
       obtain⟨okw,hok⟩:∃ok,decide (c.rf∈aB W)=ok:=⟨_,rfl⟩
       have HLW:=Hi hlv;have HOW:=Hi hok;have HFN:Hid (aV L c.rf=none):=bW.2 (of_decide_eq_false HOK.o);obtain⟨q0,q1⟩:=ce2 HRB4.o
       have g1:=cZ HPR4.o.blk 1 rfl;have hlk:(Instr.lookup 90 (.map (some bw)) (.agg #[.int .i64 c.a,.int .i64 c.s]) true).run Tryz.prog w4.drew=.ok (.tuple #[.agg #[.int .i64 ya,.int .i64 ys,.int .i64 yst,.slice yA yn yC,.slice yA' yn' yC'],.bool okw]) w4.drew:=dS.lookT (aJ.keep (w':=w4.drew) HPR4.o.mw rfl) HI64.o HLW.o HOW.o;have HFD:Hid ((aV L c.rf).or (aV W c.rf)=aV W c.rf):=by show _=_;rw[HFN.o];rfl
       have HDV:Hid (∀d,aV W c.rf=some d→d.v=.agg #[.int .i64 ya,.int .i64 ys,.int .i64 yst,.slice yA yn yC,.slice yA' yn' yC']):=fun d e=>by
        have:=HLW.o
        unfold hN at this;rw[e]at this;exact this
       have HOKW:Hid (okw=(aV W c.rf).isSome):=by
        show _=_;rw[←HOW.o];cases h:aV W c.rf with
        |some d=>exact sH (by rw[←(cK h).2];exact bX (cK h).1)
        |none=>exact sI (bW.1 h)
       have f0:=H7.o.frozen 0;have f1:=H7.o.frozen 1;have f2:=H7.o.frozen 2;have f3:=H7.o.frozen 3;have f4:=H7.o.frozen 4;obtain⟨x0,x1,x2,x3,x4⟩:=ce5 H7.o
       clear hlv hok;have hch8:Chg (fun k=>k=q7) w4.drew (w4.drew.setCells q7 0 [.int .i64 ya,.int .i64 ys,.int .i64 yst,.slice yA yn yC,.slice yA' yn' yC']):=eG _ _ (Chg.refl w4.drew);have K0:w4.drew.cell? ⟨qr,0,none⟩=some (.int .i64 c.a)∧w4.drew.cell? ⟨qr,1,none⟩=some (.int .i64 c.s)∧w4.drew.cell? ⟨g,1,none⟩=some (.map (some bw))∧(Instr.lookup 90 (.map (some bw)) (.agg #[.int .i64 c.a,.int .i64 c.s]) true).run Tryz.prog w4.drew=.ok (.tuple #[.agg #[.int .i64 ya,.int .i64 ys,.int .i64 yst,.slice yA yn yC,.slice yA' yn' yC'],.bool okw]) w4.drew:=⟨q0,q1,g1,hlk⟩;have K2:(w4.drew.setCells q7 0 [.int .i64 ya,.int .i64 ys,.int .i64 yst,.slice yA yn yC,.slice yA' yn' yC']).cell? ⟨qr,0,none⟩=some (.int .i64 c.a)∧(w4.drew.setCells q7 0 [.int .i64 ya,.int .i64 ys,.int .i64 yst,.slice yA yn yC,.slice yA' yn' yC']).cell? ⟨qr,1,none⟩=some (.int .i64 c.s)∧(w4.drew.setCells q7 0 [.int .i64 ya,.int .i64 ys,.int .i64 yst,.slice yA yn yC,.slice yA' yn' yC']).cell? ⟨g,1,none⟩=some (.map (some bw))∧(Instr.lookup 90 (.map (some bw)) (.agg #[.int .i64 c.a,.int .i64 c.s]) true).run Tryz.prog (w4.drew.setCells q7 0 [.int .i64 ya,.int .i64 ys,.int .i64 yst,.slice yA yn yC,.slice yA' yn' yC'])=.ok (.tuple #[.agg #[.int .i64 ya,.int .i64 ys,.int .i64 yst,.slice yA yn yC,.slice yA' yn' yC'],.bool okw]) (w4.drew.setCells q7 0 [.int .i64 ya,.int .i64 ys,.int .i64 yst,.slice yA yn yC,.slice yA' yn' yC']):=by
        refine⟨(sK (hch8.block _ HRB4.o.lt (by have:=HNE.o;intro e;have e:qr=q7:=e;omega))).trans q0,(sK (hch8.block _ HRB4.o.lt (by have:=HNE.o;intro e;have e:qr=q7:=e;omega))).trans q1,(sK (hch8.block _ HPR4.o.blk.lt (fun e=>HGQ.o e))).trans g1,?_⟩
        exact dS.lookT (aJ.keep HPR4.o.mw (hch8.block _ (aJ.lt HPR4.o.mw) (fun e=>aJ.no_cells HPR4.o.mw _ _ (by have e:bw=q7:=e;rw[e];exact H7.o)))) HI64.o HLW.o HOW.o
       go_upto_region 7 with fail
       have HK2:=Hi K2;obtain⟨SS,hSS⟩:∃SS:World→Prop,SS=fun V=>V.cell? ⟨qr,0,none⟩=some (.int .i64 c.a)∧V.cell? ⟨qr,1,none⟩=some (.int .i64 c.s)∧V.cell? ⟨g,1,none⟩=some (.map (some bw))∧(Instr.lookup 90 (.map (some bw)) (.agg #[.int .i64 c.a,.int .i64 c.s]) true).run Tryz.prog V=.ok (.tuple #[.agg #[.int .i64 ya,.int .i64 ys,.int .i64 yst,.slice yA yn yC,.slice yA' yn' yC'],.bool okw]) V:=⟨_,rfl⟩
       have HSI:∀V,(V.cell? ⟨qr,0,none⟩=some (.int .i64 c.a)∧V.cell? ⟨qr,1,none⟩=some (.int .i64 c.s)∧V.cell? ⟨g,1,none⟩=some (.map (some bw))∧(Instr.lookup 90 (.map (some bw)) (.agg #[.int .i64 c.a,.int .i64 c.s]) true).run Tryz.prog V=.ok (.tuple #[.agg #[.int .i64 ya,.int .i64 ys,.int .i64 yst,.slice yA yn yC,.slice yA' yn' yC'],.bool okw]) V)→SS V:=fun V h=>by rw[hSS];exact h
       have HSO:∀V,SS V→(V.cell? ⟨qr,0,none⟩=some (.int .i64 c.a)∧V.cell? ⟨qr,1,none⟩=some (.int .i64 c.s)∧V.cell? ⟨g,1,none⟩=some (.map (some bw))∧(Instr.lookup 90 (.map (some bw)) (.agg #[.int .i64 c.a,.int .i64 c.s]) true).run Tryz.prog V=.ok (.tuple #[.agg #[.int .i64 ya,.int .i64 ys,.int .i64 yst,.slice yA yn yC,.slice yA' yn' yC'],.bool okw]) V):=fun V h=>by rw[hSS]at h;exact h
       have HSI:=Hi HSI;have HSO:=Hi HSO;clear hSS;refine wp_region_held_drew (S:=SS) (by kernel_rfl) (HSI.o _ K0) (fun hHeld=>?_);clear K0 K2 q0 q1 g1 hlk;refine aK (i:=0) (v:=?_) rfl (by kernel_rfl) (by kernel_rfl) (by kernel_rfl) (fun _ _ _ h=>h) (Or.inl ⟨by rfl,?_⟩) hHeld ?_
       rotate_left
       ·(intro w _;go_simp;try with_reducible rfl)
       try simp only[Act.put,zA,zB,zC]
       refine aK (i:=1) (v:=?_) rfl (by kernel_rfl) (by kernel_rfl) (by kernel_rfl) (fun _ _ _ h=>h) (Or.inl ⟨by rfl,?_⟩) hHeld ?_
       rotate_left
       ·(intro w _;go_simp;try with_reducible rfl)
       try simp only[Act.put,zA,zB,zC]
       refine aK (i:=2) (v:=?_) rfl (by kernel_rfl) (by kernel_rfl) (by kernel_rfl) (fun _ _ _ h=>h) (Or.inl ⟨by rfl,?_⟩) hHeld ?_
       rotate_left
       ·(intro w _;go_simp;try with_reducible rfl)
       try simp only[Act.put,zA,zB,zC]
       refine aK (i:=3) (v:=?_) rfl (by kernel_rfl) (by kernel_rfl) (by kernel_rfl) (fun _ _ _ h=>h) (Or.inl ⟨by rfl,?_⟩) hHeld ?_
       rotate_left
       ·(intro w hSw;obtain⟨-,-,g1,-⟩:=HSO.o _ hSw;go_simp;try with_reducible rfl)
       try simp only[Act.put,zA,zB,zC]
       refine aK (i:=4) (v:=?_) rfl (by kernel_rfl) (by kernel_rfl) (by kernel_rfl) (fun _ _ _ h=>h) (Or.inl ⟨by rfl,?_⟩) hHeld ?_
       rotate_left
       ·(intro w hSw;obtain⟨q0,q1,-,-⟩:=HSO.o _ hSw;go_simp;try with_reducible rfl)
       try simp only[Act.put,zA,zB,zC]
       refine aK (i:=5) (v:=?_) rfl (by kernel_rfl) (by kernel_rfl) (by kernel_rfl) (fun _ _ _ h=>h) (Or.inl ⟨by rfl,?_⟩) hHeld ?_
       rotate_left
       ·(intro w hSw;obtain⟨-,-,-,hlk⟩:=HSO.o _ hSw;go_simp;try with_reducible rfl)
       try simp only[Act.put,zA,zB,zC]
       refine aK (i:=6) (v:=?_) rfl (by kernel_rfl) (by kernel_rfl) (by kernel_rfl) (fun _ _ _ h=>h) (Or.inl ⟨by rfl,?_⟩) hHeld ?_
       rotate_left
       ·(intro w _;go_simp;try with_reducible rfl)
       try simp only[Act.put,zA,zB,zC]
       refine aK (i:=7) (v:=?_) rfl (by kernel_rfl) (by kernel_rfl) (by kernel_rfl) (fun _ _ _ h=>h) (Or.inl ⟨by rfl,?_⟩) hHeld ?_
       rotate_left
       ·(intro w _;go_simp;try with_reducible rfl)
       try simp only[Act.put,zA,zB,zC]
       refine aK (i:=8) (v:=?_) rfl (by kernel_rfl) (by kernel_rfl) (by kernel_rfl) (fun _ _ _ h=>h) (Or.inl ⟨by rfl,?_⟩) hHeld ?_
       rotate_left
       ·(intro w _;go_simp;try with_reducible rfl)
       try simp only[Act.put,zA,zB,zC]
       refine wpAnyH_ready (rs:=[9]) (by kernel_rfl) (by simp) ?_;refine bK (i:=9) rfl (fun K hK=>?_) sZ;simp only[Region.wanted,if_true];refine wp_store_mid 33 (.tmp 7) (.tmp 37) rfl q7 0 #[.int .i64 ya,.int .i64 ys,.int .i64 yst,.slice yA yn yC,.slice yA' yn' yC'] rfl rfl (Blk.there (show Blk w4.drew q7 33 #[.int .i64 xa,.int .i64 xs,.int .i64 xst,.slice xA xn xC,.slice xA' xn' xC'] from H7.o) rfl) nI (ch_one _ _ _ _ _ _ _ _ _) ?_;refine hK.out _ _ (HSI.o _ HK2.o) (fun hHeld=>?_);clear hK K;try simp only[Act.put,zA,zB,zC]
       refine aK (i:=10) (v:=?_) rfl (by kernel_rfl) (by kernel_rfl) (by kernel_rfl) (fun _ _ _ h=>h) (Or.inl ⟨by rfl,?_⟩) hHeld ?_
       rotate_left
       ·(intro w _;go_simp;try with_reducible rfl)
       try simp only[Act.put,zA,zB,zC]
       refine wpAnyH_done (by kernel_rfl) ?_ _;clear hHeld HSI HSO;go_wp2_with fail
       have hch7:Chg (fun k=>k=q7) w4 (w4.drew.setCells q7 0 [.int .i64 ya,.int .i64 ys,.int .i64 yst,.slice yA yn yC,.slice yA' yn' yC']):=eG _ _ (Chg.refl w4).drew;have HW9:Hid (Below w.heap.size w (w4.drew.setCells q7 0 [.int .i64 ya,.int .i64 ys,.int .i64 yst,.slice yA yn yC,.slice yA' yn' yC'])):=Below.set5 (g:=q7) HW4.o.drew (by have:=HNE.o;omega) (.int .i64 ya) (.int .i64 ys) (.int .i64 yst) (.slice yA yn yC) (.slice yA' yn' yC');have H79:Hid (Blk (w4.drew.setCells q7 0 [.int .i64 ya,.int .i64 ys,.int .i64 yst,.slice yA yn yC,.slice yA' yn' yC']) q7 33 #[.int .i64 ya,.int .i64 ys,.int .i64 yst,.slice yA yn yC,.slice yA' yn' yC']):=(show Blk w4.drew q7 33 #[.int .i64 xa,.int .i64 xs,.int .i64 xst,.slice xA xn xC,.slice xA' xn' xC'] from H7.o).set5 (.int .i64 ya) (.int .i64 ys) (.int .i64 yst) (.slice yA yn yC) (.slice yA' yn' yC');have HQ9:=Hi (HQ4.o.keep (hch7.block _ HQ4.o.lt (by have:=HNE.o;intro e;have e:w.heap.size=q7:=e;omega)));have HRB9:=Hi (HRB4.o.keep (hch7.block _ HRB4.o.lt (by have:=HNE.o;intro e;have e:qr=q7:=e;omega)));go_meet
       case rel=>exact⟨aV W c.rf,ya,ys,yst,yA,yn,yC,yA',yn',yC',by rw[HOKW.o],HFD,HDV,H79,HQ9,HRB9,HW9⟩
     case rest =>
      clear H7 HQ4 HRB4 HPR4 HW4 HLV HOK;clear xa xs xst xA xn xC xA' xn' xC';obtain⟨od,xa,xs,xst,xA,xn,xC,xA',xn',xC',rfl,HFD,HDV,H7,HQ,HRB,HW⟩:=hcut
      cases od with
      |some d =>
       have hdv:=HDV.o d rfl;have HT:Hid (aS L W c=((L,W),fF d c)):=takeP_found HE0.o HFD.o;have hfi:=found_in HFD.o;have hpb:=HB.o.below HW.o;have hdi:ChIn (fun k=>k<wc.heap.size) wc d:=by
        rcases hfi.1 with h|h
        ·rw[←HLX.o]at h;obtain⟨x,hx,rfl⟩:=sW.1 h
         exact(hpb.inL x hx).more fun k hk=>hk.1
        ·exact(hpb.inW d h).more fun k hk=>hk.1
       have hde:d.err=0∧∀o∈d.ops,(Lit.int .i64 o.vn).wf=true:=by
        rcases hfi.1 with h|h
        ·exact HI.o.bk.err d h
        ·exact HI.o.good d h
       have HSE:Hid (fF d c=if pI d c then 0 else 8):=by
        show _=_;rw[sameC_enc hde.1 HE0.o hde.2 HV.o hfi.2];unfold fF;by_cases h:d.enc=c.enc
        ·rw[tA h,sH h];rfl
        ·rw[sT h,sI h];rfl
       have C3:=same_any d c wc hdi ((HCI.o.keep fun k hk=>HW.o.block k hk).more fun k hk=>sD hk HW.o.size);unfold ChD.v at C3 hdv;simp only[Value.agg.injEq,Array.mk.injEq,wH,Value.int.injEq,tS,true_and,and_true]at hdv;obtain⟨rfl,rfl,rfl,⟨rfl,rfl,rfl⟩,rfl,rfl,rfl⟩:=hdv
       obtain⟨c0,c1,c2,c3,c4⟩:=ce5 HQ.o
       obtain⟨x0,x1,x2,x3,x4⟩:=ce5 H7.o
       clear hfi hpb hdi hde HFD HDV;go_wp2_with fail
       go_at_call 39;refine C3.mono ?_;rintro e w5 ⟨rfl,hb⟩;have HW5:Hid (Below w.heap.size w w5):=HW.o.trans (hb.mono HW.o.size);clear C3 c0 c1 c2 c3 c4 x0 x1 x2 x3 x4 hb H7 HQ HRB;cases hsm:pI d c with
       |true =>
        have HT2:Hid (aS L W c=((L,W),0)):=by show _=_;rw[HT.o,HSE.o,hsm];rfl
        clear hsm;go_wp2_with fail
        try simp only[Exit.jump]
        go_ret;exact⟨c,X,rfl,by rw[HT2.o];rfl,by rw[HT2.o];exact HB.o.below HW5.o,by rw[HT2.o];exact HLX.o,Chg.of_below HW5.o,fun x hx=>.inl hx,by rw[HT2.o];exact fun y hy=>hy.elim .inl fun h=>.inr (.inl h)⟩
       |false =>
        have HT2:Hid (aS L W c=((L,W),8)):=by show _=_;rw[HT.o,HSE.o,hsm];rfl
        clear hsm;go_wp2_with fail
        try simp only[Exit.jump]
        go_ret;exact⟨c,X,rfl,by rw[HT2.o];rfl,by rw[HT2.o];exact HB.o.below HW5.o,by rw[HT2.o];exact HLX.o,Chg.of_below HW5.o,fun x hx=>.inl hx,by rw[HT2.o];exact fun y hy=>hy.elim .inl fun h=>.inr (.inl h)⟩
      |none =>
       have HNN:=Hi (takeP_none HE0.o HFD.o);have hpb:=HB.o.below HW.o;obtain⟨nl,hnl⟩:∃n,L.length=n:=⟨_,rfl⟩
       obtain⟨nw,hnw⟩:∃n,W.length=n:=⟨_,rfl⟩
       have HNL:=Hi hnl;have HNW:=Hi hnw;have hmost:=HI.o.most;rw[hnl,hnw]at hmost;obtain⟨g0,g1⟩:=ce2 hpb.blk
       have hl1:∀ty,(Builtin.len_ #[90] ty #[.map (some bh)]).run Tryz.prog wc.drew=.ok (.int .i64 nl) wc.drew:=fun ty=>by
        have:=aJ.len (aJ.keep (w':=wc.drew) hpb.mh rfl) Tryz.underlying90 ty
        rw[tF,HLX.o,hnl]at this;exact this
       have hl2:∀ty,(Builtin.len_ #[90] ty #[.map (some bw)]).run Tryz.prog wc.drew=.ok (.int .i64 nw) wc.drew:=fun ty=>by
        have:=aJ.len (aJ.keep (w':=wc.drew) hpb.mw rfl) Tryz.underlying90 ty
        rw[tF,hnw]at this;exact this
       have hwn:IntKind.i64.wrap ((nl:Int)+(nw:Int))=(nl:Int)+(nw:Int):=tH _ (by omega);have hwn2:wrap64 ((nl:Int)+(nw:Int))=(nl:Int)+(nw:Int):=by simp only[wrap64];omega
       clear hnl hnw hpb HFD HDV H7;go_upto_region 12 with fail
       refine wp_region_still_tail 12 (by kernel_rfl) (by kernel_rfl) ?_;simp only[tE,tO,tG,tT];repeat (first|(refine aQ rfl (fun K hK=>?_);go_simp;refine hK _ ?_;clear hK K)|(refine wpStill_skip rfl ?_;go_frame))
       refine wpStill_nil ?_;change wpList _ _ _ _ _ wc.drew;by_cases h120:(120:Int)≤(nl:Int)+(nw:Int)
       ·have HT:Hid (aS L W c=((L,W),4)):=takeP_full HE0.o HNN.o.1 HNN.o.2 (by rw[HNL.o,HNW.o];omega);have HW9:Hid (Below w.heap.size w wc.drew):=HW.o.drew;go_wp2_with fail
        try simp only[Exit.jump]
        go_ret;exact⟨c,X,rfl,by rw[HT.o];rfl,by rw[HT.o];exact HB.o.below HW9.o,by rw[HT.o];exact HLX.o,Chg.of_below HW9.o,fun x hx=>.inl hx,by rw[HT.o];exact fun y hy=>hy.elim .inl fun h=>.inr (.inl h)⟩
       ·have HLE:Hid (¬120≤L.length+W.length):=by show ¬_≤_;rw[HNL.o,HNW.o];omega
        rw[sI h120];clear h120 hmost;have HQd:Hid (Blk wc.drew w.heap.size 33 #[.int .i64 c.a,.int .i64 c.s,.int .i64 c.st,.slice c.DA c.deps.length c.DC,.slice c.OA c.ops.length c.OC]):=HQ;have HRBd:Hid (Blk wc.drew qr 45 #[.int .i64 c.a,.int .i64 c.s]):=HRB;have HWd:Hid (Below w.heap.size w wc.drew):=HW.o.drew;clear g0 g1 hl1 hl2 hwn hwn2 HQ HRB HW;generalize wc.drew=w6 at HQd HRBd HWd ⊢;obtain⟨c0,c1,c2,c3,c4⟩:=ce5 HQd.o
        have hco:=eE HE0.o;have C4:=clone_any c w6 ((HCI.o.keep fun k hk=>HWd.o.block k hk).more fun k hk=>sD hk HWd.o.size) (by have:=hco.2.2.2;omega) (by have:=hco.2.2.1;omega) (fun o ho=>by have:=err_ll HE0.o o ho;omega);unfold ChD.v at C4;clear hco;go_wp2_with fail
        go_at_call 40;refine C4.mono ?_;rintro e w7 ⟨c',rfl,hcb,hci,hb⟩;have HCB:=Hi hcb;have HCN:Hid (ChIn (fun k=>w6.heap.size≤k∧k<w7.heap.size) w7 c'):=hci;have HQ7:=Hi (HQd.o.keep (hb.block _ HQd.o.lt));have HRB7:=Hi (HRBd.o.keep (hb.block _ HRBd.o.lt));have HW7:Hid (Below w.heap.size w w7):=HWd.o.trans (hb.mono HWd.o.size);have HS6:Hid (w.heap.size<w6.heap.size∧qr<w6.heap.size):=⟨HQd.o.lt,HRBd.o.lt⟩;have HQN:Hid (qr≠w.heap.size):=fun e=>by have:=HQRN.o;omega
        clear C4 hcb hci hb c0 c1 c2 c3 c4 HQd HRBd HWd;obtain⟨c0,c1,c2,c3,c4⟩:=ce5 HQ7.o
        have f0:=HQ7.o.frozen 0;have f1:=HQ7.o.frozen 1;have f2:=HQ7.o.frozen 2;have f3:=HQ7.o.frozen 3;have f4:=HQ7.o.frozen 4;go_upto_region 15 with(refine wpList_store_mid rfl 33 (.tmp 3) (.tmp 64) rfl w.heap.size 0 #[.int .i64 c'.a,.int .i64 c'.s,.int .i64 c'.st,.slice c'.DA c'.deps.length c'.DC,.slice c'.OA c'.ops.length c'.OC] rfl rfl (Blk.there HQ7.o rfl) nI (ch_one _ _ _ _ _ _ _ _ _) ?_)
        try simp only[Act.put,zA,zB,zC]
        change Code.wp _ _ _ _ (w7.setCells w.heap.size 0 [.int .i64 c'.a,.int .i64 c'.s,.int .i64 c'.st,.slice c'.DA c'.deps.length c'.DC,.slice c'.OA c'.ops.length c'.OC]);have hch8:Chg (fun k=>k=w.heap.size) w7 (w7.setCells w.heap.size 0 [.int .i64 c'.a,.int .i64 c'.s,.int .i64 c'.st,.slice c'.DA c'.deps.length c'.DC,.slice c'.OA c'.ops.length c'.OC]):=eG _ _ (Chg.refl w7);have HQ8:Hid (Blk (w7.setCells w.heap.size 0 [.int .i64 c'.a,.int .i64 c'.s,.int .i64 c'.st,.slice c'.DA c'.deps.length c'.DC,.slice c'.OA c'.ops.length c'.OC]) w.heap.size 33 #[.int .i64 c'.a,.int .i64 c'.s,.int .i64 c'.st,.slice c'.DA c'.deps.length c'.DC,.slice c'.OA c'.ops.length c'.OC]):=HQ7.o.set5 (.int .i64 c'.a) (.int .i64 c'.s) (.int .i64 c'.st) (.slice c'.DA c'.deps.length c'.DC) (.slice c'.OA c'.ops.length c'.OC);have HW8:Hid (Below w.heap.size w (w7.setCells w.heap.size 0 [.int .i64 c'.a,.int .i64 c'.s,.int .i64 c'.st,.slice c'.DA c'.deps.length c'.DC,.slice c'.OA c'.ops.length c'.OC])):=Below.set5 (g:=w.heap.size) HW7.o (sB _) (.int .i64 c'.a) (.int .i64 c'.s) (.int .i64 c'.st) (.slice c'.DA c'.deps.length c'.DC) (.slice c'.OA c'.ops.length c'.OC);have HRB8:=Hi (HRB7.o.keep (hch8.block _ HRB7.o.lt HQN.o));have HCN8:Hid (ChIn (fun k=>w6.heap.size≤k∧k<(w7.setCells w.heap.size 0 [.int .i64 c'.a,.int .i64 c'.s,.int .i64 c'.st,.slice c'.DA c'.deps.length c'.DC,.slice c'.OA c'.ops.length c'.OC]).heap.size) (w7.setCells w.heap.size 0 [.int .i64 c'.a,.int .i64 c'.s,.int .i64 c'.st,.slice c'.DA c'.deps.length c'.DC,.slice c'.OA c'.ops.length c'.OC]) c'):=(HCN.o.keep fun k hk=>hch8.block _ hk.2 (fun e=>by have:=HS6.o;have e:k=w.heap.size:=e;have:=hk.1;omega)).more fun k hk=>⟨hk.1,sD hk.2 hch8.size⟩
        clear hch8 HQ7 HW7 HRB7 HCN c0 c1 c2 c3 c4 f0 f1 f2 f3 f4;generalize (w7.setCells w.heap.size 0 [.int .i64 c'.a,.int .i64 c'.s,.int .i64 c'.st,.slice c'.DA c'.deps.length c'.DC,.slice c'.OA c'.ops.length c'.OC])=w8 at HQ8 HW8 HRB8 HCN8 ⊢;obtain⟨ec1,ec2,ec3⟩:=base_same HCB.o
        have HE2:Hid (c'.err=0):=ec1.trans HE0.o;have HR2:Hid (c'.rf=c.rf):=ec2;have HV2:Hid (∀o∈c'.ops,(Lit.int .i64 o.vn).wf=true):=ec3 HV.o;have HN1:Hid (aV L c'.rf=none):=by show _=_;rw[HR2.o];exact HNN.o.1
        have HN2:Hid (aV W c'.rf=none):=by show _=_;rw[HR2.o];exact HNN.o.2
        clear ec1 ec2 ec3;have HP8:=Hi (HB.o.below HW8.o);obtain⟨c0,c1,c2,c3,c4⟩:=ce5 HQ8.o
        have C5:=ready_any L c' (err_deps HE2.o) g bh (.map (some bw)) (.map (some bb)) w8 (HLX.o▸HP8.o.hb) (HCN8.o.more fun k hk=>hk.2);unfold ChD.v at C5;go_wp2_with (refine wpList_load_mid rfl 33 (.tmp 3) rfl w.heap.size 0 rfl [.int .i64 c'.a,.int .i64 c'.s,.int .i64 c'.st,.slice c'.DA c'.deps.length c'.DC,.slice c'.OA c'.ops.length c'.OC] _ (Blk.range HQ8.o) Tryz.underlying33 rfl nI ?_)
        go_at_call 41;refine C5.mono ?_;rintro e w9 ⟨rfl,hb⟩;have HQ9:=Hi (HQ8.o.keep (hb.block _ HQ8.o.lt));have HRB9:=Hi (HRB8.o.keep (hb.block _ HRB8.o.lt));have HW9:Hid (Below w.heap.size w w9):=HW8.o.trans (hb.mono HW8.o.size);have HP9:=Hi (HP8.o.below hb);have HCN9:Hid (ChIn (fun k=>w6.heap.size≤k∧k<w9.heap.size) w9 c'):=(HCN8.o.keep fun k hk=>hb.block k hk.2).more fun k hk=>⟨hk.1,sD hk.2 hb.size⟩
        have HNF:Hid (∀k,w6.heap.size≤k→k≠bh∧k≠bw∧k≠bb):=fun k hk=>by
         have h1:=aJ.lt HB.o.mh;have h2:=aJ.lt HB.o.mw;have h3:=aJ.lt HB.o.mb;have:=HS6.o
         omega
        clear C5 hb c0 c1 c2 c3 c4 HQ8 HW8 HRB8 HCN8 HP8;cases hrd:aU L c' with
        |false =>
         have HT:Hid (aS L W c'=((L,W++[c']),0)):=qP HE2.o HN1.o HN2.o HLE.o hrd;clear hrd;obtain⟨c0,c1,c2,c3,c4⟩:=ce5 HQ9.o
         have g1:=cZ HP9.o.blk 1 rfl;obtain⟨q0,q1⟩:=ce2 HRB9.o
         go_upto_region 16 with fail
         refine wp_region_still_tail 6 (by kernel_rfl) (by kernel_rfl) ?_;simp only[tE,tO,tG,tT];repeat (first|(refine aQ rfl (fun K hK=>?_);go_simp;refine hK _ ?_;clear hK K)|(refine wpStill_skip rfl ?_;go_frame))
         refine wpStill_nil ?_;change wpList _ _ _ _ _ w9.drew;have HPd:=Hi (HP9.o.below (sA _ w9).drew);have HWd:Hid (Below w.heap.size w w9.drew):=HW9.o.drew;have HCd:Hid (ChIn (fun k=>w6.heap.size≤k∧k<w9.heap.size) w9.drew c'):=HCN9.o.keep fun k hk=>rfl
         have HSd:Hid (w9.heap.size=w9.drew.heap.size):=rfl;clear c0 c1 c2 c3 c4 g1 q0 q1 HQ9 HRB9 HW9 HP9 HCN9;rw[HSd.o]at HCd;generalize w9.drew=w10 at HPd HWd HCd ⊢;clear HSd;have hst:=dS.add (c:=c') HPd.o.mw (mF HE2.o) (bW.1 HN2.o) (by have:=HI.o.most;omega);rw[HR2.o]at hst;unfold ChD.v at hst;go_wp2_with (refine eX _ rfl (.tmp 72) (.tmp 73) (.tmp 74) 90 (.inl rfl) bw (.agg #[.int .i64 c.a,.int .i64 c.s]) (.agg #[.int .i64 c'.a,.int .i64 c'.s,.int .i64 c'.st,.slice c'.DA c'.deps.length c'.DC,.slice c'.OA c'.ops.length c'.OC]) rfl rfl rfl _ hst ?_;rintro w11 ⟨hm11,ht11⟩)
         have hg11:=ht11.grown;have hch:Chg (fun k=>k=bw) w10 w11:=(Chg.refl w10).grown hg11 (fun q hq=>by cases hq;exact .inl rfl);have HP11:=Hi (HPd.o.waits hch hm11 (fun y hy=>by
          rcases sG.1 hy with h|h
          ·exact .inl h
          ·rw[sP.1 h];exact .inr (HCd.o.more fun k hk=>⟨hk.2,HNF.o k hk.1⟩)))
         have HC11:Hid (Chg (fun k=>k=bh∨k=bw∨k=bb) w w11):=(Chg.of_below HWd.o).trans hch fun _ _ h=>.inr (.inl h)
         have HF11:Hid (ChIn (fun k=>w.heap.size≤k) w11 c'):=(HCd.o.keep fun k hk=>hch.block k hk.2 (HNF.o k hk.1).2.1).more fun k hk=>by have:=HS6.o;have:=hk.1;omega
         clear hst hm11 ht11 hg11 hch;try simp only[Act.put,zA,zB,zC]
         go_wp2_with fail
         try simp only[Exit.jump]
         go_ret;exact⟨c',X,HCB.o,by rw[HT.o];rfl,by rw[HT.o];exact HP11.o,by rw[HT.o];exact HLX.o,HC11.o,fun x hx=>.inl hx,by
          rw[HT.o];intro y hy;rcases hy with h|h
          ·exact .inl h
          ·rcases sG.1 h with h|h
           ·exact .inr (.inl h)
           ·rw[sP.1 h];exact .inr (.inr HF11.o)⟩
        |true =>
         have HRD:=Hi hrd;clear hrd;obtain⟨c0,c1,c2,c3,c4⟩:=ce5 HQ9.o
         have hlen:X.length≤1000:=by have h1:=HI.o.most;have h2:=congrArg List.length HLX.o;simp only[tF]at h2;omega
         have C6:=fits_any X W c' g bh bw bb w9 HP9.o (HLX.o▸HI.o.bk) hlen (HCN9.o.more fun k hk=>hk.2) HE2.o (HLX.o▸HRD.o);rw[HLX.o]at C6;unfold ChD.v at C6;go_wp2_with (refine wpList_load_mid rfl 33 (.tmp 3) rfl w.heap.size 0 rfl [.int .i64 c'.a,.int .i64 c'.s,.int .i64 c'.st,.slice c'.DA c'.deps.length c'.DC,.slice c'.OA c'.ops.length c'.OC] _ (Blk.range HQ9.o) Tryz.underlying33 rfl nI ?_)
         go_at_call 42;refine C6.mono ?_;rintro e w10 ⟨rfl,hb⟩;have HQ10:=Hi (HQ9.o.keep (hb.block _ HQ9.o.lt));have HW10:Hid (Below w.heap.size w w10):=HW9.o.trans (hb.mono HW9.o.size);have HP10:=Hi (HP9.o.below hb);have HCN10:Hid (ChIn (fun k=>w6.heap.size≤k∧k<w10.heap.size) w10 c'):=(HCN9.o.keep fun k hk=>hb.block k hk.2).more fun k hk=>⟨hk.1,sD hk.2 hb.size⟩
         clear C6 hb c0 c1 c2 c3 c4 HQ9 HW9 HP9 HCN9 HRB9;cases hft:bR L c' with
         |false =>
          have HT:Hid (aS L W c'=((L,W),7)):=takeP_bad HE2.o HN1.o HN2.o HLE.o HRD.o hft;clear hft;go_wp2_with fail
          try simp only[Exit.jump]
          go_ret;exact⟨c',X,HCB.o,by rw[HT.o];rfl,by rw[HT.o];exact HB.o.below HW10.o,by rw[HT.o];exact HLX.o,Chg.of_below HW10.o,fun x hx=>.inl hx,by rw[HT.o];exact fun y hy=>hy.elim .inl fun h=>.inr (.inl h)⟩
         |true =>
          have HFT:=Hi hft;have HT:Hid (aS L W c'=(bO W.length (L++[c']) W,0)):=takeP_go HE2.o HN1.o HN2.o HLE.o HRD.o hft;clear hft;obtain⟨c0,c1,c2,c3,c4⟩:=ce5 HQ10.o
          have C7:=put_any X W c' g bh bw bb w10 HP10.o (HLX.o▸HI.o.bk) hlen (HCN10.o.more fun k hk=>⟨hk.2,HNF.o k hk.1⟩) HE2.o (HLX.o▸HRD.o) (HLX.o▸bW.1 HN1.o);unfold ChD.v at C7;go_wp2_with (refine wpList_load_mid rfl 33 (.tmp 3) rfl w.heap.size 0 rfl [.int .i64 c'.a,.int .i64 c'.s,.int .i64 c'.st,.slice c'.DA c'.deps.length c'.DC,.slice c'.OA c'.ops.length c'.OC] _ (Blk.range HQ10.o) Tryz.underlying33 rfl nI ?_)
          go_at_call 43;refine C7.mono ?_;rintro e w11 ⟨rfl,⟨mk,Sk,hp11,hmk⟩,hch⟩;have HP11:=Hi hp11;have HTP:Hid (aS L W c'=(bO W.length ((X++[(c',mk,Sk)]).map Prod.fst) W,0)):=by show _=_;rw[HT.o,tN,HLX.o];rfl
          have HIN:Hid (Inv ((X++[(c',mk,Sk)]).map Prod.fst) W):=by
           show Inv _ _;rw[tN,HLX.o];exact HI.o.start HE2.o HV2.o HN1.o HN2.o HRD.o HFT.o (Nat.lt_of_not_le HLE.o)
          have HC11:Hid (Chg (fun k=>k=bh∨k=bw∨k=bb) w w11):=(Chg.of_below HW10.o).trans hch fun i hi h=>h.elim .inl fun h=>.inr (.inr h)
          have HFX:Hid (∀z∈X++[(c',mk,Sk)],z∈X∨w.heap.size≤z.2.1):=fun z hz=>by
           rcases sG.1 hz with h|h
           ·exact .inl h
           ·rw[sP.1 h];exact .inr (sY HW10.o.size hmk)
          have HFY:Hid (∀y,y∈(X++[(c',mk,Sk)]).map Prod.fst∨y∈W→y∈L∨y∈W∨y=c'):=fun y hy=>by
           rw[tN,HLX.o]at hy;rcases hy with h|h
           ·rcases sG.1 h with h|h
            ·exact .inl h
            ·exact .inr (.inr (sP.1 h))
           ·exact .inr (.inl h)
          have HFC:Hid (∃V,ChIn (fun k=>w.heap.size≤k) V c'):=⟨w10,HCN10.o.more fun k hk=>by have:=HS6.o;have:=hk.1;omega⟩;clear C7 hp11 hmk hch c0 c1 c2 c3 c4;go_wp2_with fail
          go_step3
          go_step
          go_step
          first
           |(refine AGN.out _ _ ?_;exact⟨rfl,rfl,rfl,c',X++[(c',mk,Sk)],W,HCB,HTP,HP11,HIN,HC11,HFX,HFY,HFC⟩)
           |(go_step;refine AGN.out _ _ ?_;exact⟨rfl,rfl,rfl,c',X++[(c',mk,Sk)],W,HCB,HTP,HP11,HIN,HC11,HFX,HFY,HFC⟩)
end Go.Proofs.YtjhkcbideddlgaaGreat
