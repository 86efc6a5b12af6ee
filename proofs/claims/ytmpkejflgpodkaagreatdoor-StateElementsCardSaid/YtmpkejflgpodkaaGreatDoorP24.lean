/- Contracts of the program's books: Take. -/
import Derived.Test.YtmpkejflgpodkaaGreatDoorP23
import Derived.Test.YtmpkejflgpodkaaGreatDoorP22
import Derived.Deep.DeepCutAuto
set_option linter.unusedVariables false
set_option linter.unusedSimpArgs false
namespace Go.Proofs.YtmpkejflgpodkaaGreatDoor
open Go.ChangeShapes Go.WideShapes Go.ChangeAt Go.RowKit
set_option maxHeartbeats 16000000 in
set_option maxRecDepth 20000 in
theorem take_any (X : List (ChD × Nat × List Rf)) (W : List ChD) (c : ChD) (g bh bw bb : Nat) (w : World) (hB : PB w g bh bw bb X W) (hi : Inv (X.map Prod.fst) W) (hc : ChIn (fun k=>k < w.heap.size) w c) (hw : ∀ o∈c.ops,(Lit.int .i64 o.vn).wf=true) :
 Calls Tryz.prog 84 #[.pointer (some ⟨g,0,none⟩),c.v] w fun e w' =>
  ∃ (c' : ChD) (X' : List (ChD × Nat × List Rf)),c'.base=c.base∧e=.returned (errN (takeP (X.map Prod.fst) W c').2)∧PB w' g bh bw bb X' (takeP (X.map Prod.fst) W c').1.2∧X'.map Prod.fst=(takeP (X.map Prod.fst) W c').1.1∧Chg (fun k=>k=bh∨k=bw∨k=bb) w w'∧(∀ x∈X',x∈X∨w.heap.size≤x.2.1) ∧
  (∀ y,y∈(takeP (X.map Prod.fst) W c').1.1∨y∈(takeP (X.map Prod.fst) W c').1.2→y∈X.map Prod.fst∨y∈W∨ChIn (fun k=>w.heap.size≤k) w' y):=by
 obtain ⟨L,hL⟩ : ∃ L,X.map Prod.fst=L:=⟨_,rfl⟩
 have HB:=Lib.hid hB
 have HLX:=Lib.hid hL
 have HCI:=Lib.hid hc
 have HV:=Lib.hid hw
 rw [hL] at hi ⊢
 have HI:=Lib.hid hi
 have HW : Hid (Below w.heap.size w (w.alloc (.cells #[.int .i64 c.a,.int .i64 c.s,.int .i64 c.st,.slice c.DA c.deps.length c.DC,.slice c.OA c.ops.length c.OC] 82))):=(Below.refl _ w).alloc (Nat.le_refl _) _
 have HQ:=Lib.hid (Blk.new w 82 #[.int .i64 c.a,.int .i64 c.s,.int .i64 c.st,.slice c.DA c.deps.length c.DC,.slice c.OA c.ops.length c.OC])
 have C1:=fun V h=>check_any c.a c.s c.st c.deps c.DA c.deps.length c.DC c.ops c.OA c.ops.length c.OC V h rfl rfl
 clear hB hc hi hL hw
 unfold ChD.v
 go_enter Tryz.func84,Tryz.ntmps84
 go_wp2_with fail
 refine wp_scope_again 0 (fun a' w'=>a'.tmps.size=115∧a'.defers=[]∧a'.tmps[0]?=some (.pointer (some ⟨g,0,none⟩))∧∃ (c' : ChD) (X' : List (ChD × Nat × List Rf)) (W' : List ChD),Hid (c'.base=c.base)∧Hid (takeP L W c'=(settle W'.length (X'.map Prod.fst) W',0))∧Hid (PB w' g bh bw bb X' W')∧Hid (Inv (X'.map Prod.fst) W')∧Hid (Chg (fun k=>k=bh∨k=bw∨k=bb) w w')∧Hid (∀ x∈X',x∈X∨w.heap.size≤x.2.1)∧Hid (∀ y,y∈X'.map Prod.fst∨y∈W'→y∈L∨y∈W∨y=c')∧Hid (∃ V,ChIn (fun k=>w.heap.size≤k) V c'))
  (fun _ w'=>mlen w' bw) rfl ?_ ?_
 · clear HW HQ C1
   as_aux_lemma =>
    rintro a' w' ⟨hs,hd,h0,c',X',W',HCB,HTP,HPB,HINV,HCH,HFX,HFY,HFC⟩
    refine frame_of 115 (fun a=>a.tmps[0]?=some (.pointer (some ⟨g,0,none⟩))→Code.wp Tryz.prog _ (Exit.jump 0 _ _) a w') hs hd ?_ h0
    clear hs hd h0
    intro u0 u1 u2 u3 u4 u5 u6 u7 u8 u9 u10 u11 u12 u13 u14 u15 u16 u17 u18 u19 u20 u21 u22 u23 u24 u25 u26 u27 u28 u29 u30 u31 u32 u33 u34 u35 u36 u37 u38 u39 u40 u41 u42 u43 u44 u45 u46 u47 u48 u49 u50 u51 u52 u53 u54 u55 u56 u57 u58 u59 u60 u61 u62 u63 u64 u65 u66 u67 u68 u69 u70 u71 u72 u73 u74 u75 u76 u77 u78 u79 u80 u81 u82 u83 u84 u85 u86 u87 u88 u89 u90 u91 u92 u93 u94 u95 u96 u97 u98 u99 u100 u101 u102 u103 u104 u105 u106 u107 u108 u109 u110 u111 u112 u113 u114 h0
    obtain rfl : u0=.pointer (some ⟨g,0,none⟩):=by simpa using h0
    clear h0
    obtain ⟨L',hL'⟩ : ∃ L',X'.map Prod.fst=L':=⟨_,rfl⟩
    have HLX':=Lib.hid hL'
    rw [hL'] at HTP HINV
    clear hL'
    have g1 : w'.cell? ⟨g,1,none⟩=some (.map (some bw)):=HPB.out.blk.cell 1
    have C1:=rising_any (W'.map kvC) bw w' HPB.out.mw.kv (by rw [List.length_map];have:=HINV.out.most;omega)
    rw [kvC_fst] at C1
    have HML : Hid (mlen w' bw=W'.length):=HasL.mlen HPB.out.mw
    go_wp2_with fail
    go_at_call 87
    refine C1.mono ?_
    rintro e w3 ⟨A,cc,S,rfl,hp,ha,hrow,hb⟩
    have hb3 : Below w'.heap.size w' w3:=hb
    have HP3:=Lib.hid (HPB.out.below hb3)
    have HAG:=Lib.hid (Ag.start HINV.out rfl hp ha)
    have HROW : Hid (∀ i r,S[i]?=some r→∃ b,A=some ⟨b,0,none⟩∧w'.heap.size≤b∧b < w3.heap.size∧w3.cell? ⟨b,i*2,none⟩=some (.int .i64 r.1)∧w3.cell? ⟨b,i*2+1,none⟩=some (.int .i64 r.2)):=fun i r hr=>by
     rcases hrow with rfl | ⟨b,h1,h2,rfl,h3,_⟩
     · simp at hr
     · exact ⟨b,rfl,h1,h2,h3.cell1 hr,h3.cell2 hr⟩
    have HC3 : Hid (Chg (fun k=>k=bh∨k=bw∨k=bb) w w3):=HCH.out.trans (Chg.of_below hb3) fun _ _ h=>h
    have HBW : Hid (bw < w'.heap.size∧w'.heap.size≤w3.heap.size):=⟨MapL.lt HPB.out.mw,hb3.size⟩
    obtain ⟨n,hn⟩ : ∃ n,S.length=n:=⟨_,rfl⟩
    have HN:=Lib.hid hn
    have hn2 : n≤120:=by rw [← hn,hp.length_eq];have:=HINV.out.most;simp only [refsOf,List.length_map];omega
    rw [hn]
    clear C1 g1 hp ha hrow hb hb3 hn HCH HPB
    go_wp2_with fail
    go_loopw [10,11,89] (fun _ _ s wr=>∃ (i : Nat) (W2 : List ChD),s=.int .i64 i∧i≤n∧Hid (PB wr g bh bw bb X' W2)∧Hid (Ag L' W' S i L' W2)∧Hid ((∀ y∈W2,y∈W')∧W2.length≤W'.length)∧Hid (Chg (fun k=>k=bw) w3 wr)) (fun _ _ s _=>n - (intOf s).toNat)
    case atStart=>exact ⟨0,W',rfl,by omega,HP3,HAG,Lib.hid ⟨fun _ h=>h,Nat.le_refl _⟩,Lib.hid (Chg.refl _)⟩
    case round =>
     clear HP3 HAG
     obtain ⟨i,W2,rfl,hi,HP,HAG,HWW,HC⟩:=hrel
     by_cases hil : i < n
     · as_aux_lemma =>
        obtain ⟨r,hr⟩ : ∃ r,S[i]?=some r:=⟨_,List.getElem?_eq_getElem (by rw [HN.out];exact hil)⟩
        obtain ⟨j,x,hx,hxr⟩:=HAG.out.at hr
        obtain ⟨b,hA,hb1,hb2,hb3,hb4⟩:=HROW.out i r hr
        obtain ⟨r1,r2⟩:=r
        have x1 : wr.cell? ⟨b,i*2,none⟩=some (.int .i64 r1):=(World.cell?_of_block (HC.out.block _ hb2 (fun e=>by have:=HBW.out;have e : b=bw:=e;omega))).trans hb3
        have x2 : wr.cell? ⟨b,i*2+1,none⟩=some (.int .i64 r2):=(World.cell?_of_block (HC.out.block _ hb2 (fun e=>by have:=HBW.out;have e : b=bw:=e;omega))).trans hb4
        have hbl : b < wr.heap.size:=Nat.lt_of_lt_of_le hb2 HC.out.size
        have HX:=Lib.hid hx
        have HXR:=Lib.hid hxr
        have HR:=Lib.hid hr
        have HXW:=Lib.hid (List.mem_of_getElem? hx)
        have HXG:=Lib.hid (HAG.out.inv.good x (List.mem_of_getElem? hx))
        have HLT:=Lib.hid hil
        have HOX:=Lib.hid hA
        rw [hA]
        clear hx hxr hA hb1 hb2 hb3 hb4 hr
        go_upto_region 24 with fail
        have HRB:=Lib.hid (Blk.new wr 77 #[.int .i64 r1,.int .i64 r2])
        have hb9 : Below wr.heap.size wr (wr.alloc (.cells #[.int .i64 r1,.int .i64 r2] 77)):=(Below.refl _ wr).alloc (Nat.le_refl _) _
        have HPR:=Lib.hid (HP.out.below hb9)
        have HC4:=Lib.hid (HC.out.alloc (.cells #[.int .i64 r1,.int .i64 r2] 77))
        clear x1 x2 hbl hb9 HP HC
        generalize wr.alloc (.cells #[.int .i64 r1,.int .i64 r2] 77)=w4 at HRB HPR HC4 ⊢
        generalize wr.heap.size=qr at HRB ⊢
        have q0 : w4.cell? ⟨qr,0,none⟩=some (.int .i64 r1):=HRB.out.cell 0
        have q1 : w4.cell? ⟨qr,1,none⟩=some (.int .i64 r2):=HRB.out.cell 1
        have g0 : w4.cell? ⟨g,1,none⟩=some (.map (some bw)):=HPR.out.blk.cell 1
        have hr64 : I64R (r1,r2):=by rw [← HXR.out];exact rf_i64 HXG.out.1
        have hlv : lookV W2 (r1,r2)=x.v:=by unfold lookV;rw [← HXR.out,findC_is HAG.out.inv.nd HXW.out]
        have KL : ∀ V : World,Below w4.heap.size w4 V→(Instr.lookup 159 (.map (some bw)) (.agg #[.int .i64 r1,.int .i64 r2]) false).run Tryz.prog V=.ok (.agg #[.int .i64 x.a,.int .i64 x.s,.int .i64 x.st,.slice x.DA x.deps.length x.DC,.slice x.OA x.ops.length x.OC]) V:=fun V hv=>by
         have h1:=HasL.look (show HasL V bw W2 from MapL.keep HPR.out.mw (hv.block _ (MapL.lt HPR.out.mw))) hr64 false
         rw [hlv] at h1
         simp only [Bool.false_eq_true,if_false] at h1
         exact h1
        have KS : ∀ V : World,Below w4.heap.size w4 V→V.cell? ⟨qr,0,none⟩=some (.int .i64 r1)∧V.cell? ⟨qr,1,none⟩=some (.int .i64 r2)∧V.cell? ⟨g,1,none⟩=some (.map (some bw))∧(Instr.lookup 159 (.map (some bw)) (.agg #[.int .i64 r1,.int .i64 r2]) false).run Tryz.prog V=.ok (.agg #[.int .i64 x.a,.int .i64 x.s,.int .i64 x.st,.slice x.DA x.deps.length x.DC,.slice x.OA x.ops.length x.OC]) V:=fun V hv=>⟨(World.cell?_of_block (hv.block _ HRB.out.lt)).trans q0,(World.cell?_of_block (hv.block _ HRB.out.lt)).trans q1,(World.cell?_of_block (hv.block _ HPR.out.blk.lt)).trans g0,KL V hv⟩
        have K0:=KS w4.drew (Below.refl _ w4).drew
        have K1:=fun o=>KS (w4.drew.alloc o) ((Below.refl _ w4).drew.alloc (Nat.le_refl _) o)
        clear KL KS q0 q1 g0
        clear hlv
        go_cut [11] (fun s11 wc=>s11=.pointer (some ⟨w4.heap.size,0,none⟩)∧wc=(w4.alloc (.cells #[.int .i64 x.a,.int .i64 x.s,.int .i64 x.st,.slice x.DA x.deps.length x.DC,.slice x.OA x.ops.length x.OC] 82)).drew)
        case first =>
         go_region_held3 (fun w'=>w'.cell? ⟨qr,0,none⟩=some (.int .i64 r1)∧w'.cell? ⟨qr,1,none⟩=some (.int .i64 r2)∧w'.cell? ⟨g,1,none⟩=some (.map (some bw))∧(Instr.lookup 159 (.map (some bw)) (.agg #[.int .i64 r1,.int .i64 r2]) false).run Tryz.prog w'=.ok (.agg #[.int .i64 x.a,.int .i64 x.s,.int .i64 x.st,.slice x.DA x.deps.length x.DC,.slice x.OA x.ops.length x.OC]) w') (first | exact K0 | exact K1 _ | go_keep) (fail)
         all_goals
          clear K0 K1
          go_wp2_with fail
          go_meet
          case rel=>exact ⟨rfl,rfl⟩
        case rest =>
         obtain ⟨rfl,rfl⟩:=hcut
         clear K0 K1
         have hb9 : Below w4.heap.size w4 (w4.alloc (.cells #[.int .i64 x.a,.int .i64 x.s,.int .i64 x.st,.slice x.DA x.deps.length x.DC,.slice x.OA x.ops.length x.OC] 82)).drew:=((Below.refl _ w4).alloc (Nat.le_refl _) _).drew
         have HV : Hid (Blk (w4.alloc (.cells #[.int .i64 x.a,.int .i64 x.s,.int .i64 x.st,.slice x.DA x.deps.length x.DC,.slice x.OA x.ops.length x.OC] 82)).drew w4.heap.size 82 #[.int .i64 x.a,.int .i64 x.s,.int .i64 x.st,.slice x.DA x.deps.length x.DC,.slice x.OA x.ops.length x.OC]):=Blk.new w4 _ _
         have HRB5:=Lib.hid (HRB.out.keep (hb9.block _ HRB.out.lt))
         have HP5:=Lib.hid (HPR.out.below hb9)
         have HC5 : Hid (Chg (fun k=>k=bw) w3 (w4.alloc (.cells #[.int .i64 x.a,.int .i64 x.s,.int .i64 x.st,.slice x.DA x.deps.length x.DC,.slice x.OA x.ops.length x.OC] 82)).drew):=(HC4.out.alloc _).drew
         clear hb9 HRB HPR HC4
         generalize (w4.alloc (.cells #[.int .i64 x.a,.int .i64 x.s,.int .i64 x.st,.slice x.DA x.deps.length x.DC,.slice x.OA x.ops.length x.OC] 82)).drew=w5 at HV HRB5 HP5 HC5 ⊢
         generalize w4.heap.size=qx at HV ⊢
         have y0 : w5.cell? ⟨qx,0,none⟩=some (.int .i64 x.a):=HV.out.cell 0
         have y1 : w5.cell? ⟨qx,1,none⟩=some (.int .i64 x.s):=HV.out.cell 1
         have y2 : w5.cell? ⟨qx,2,none⟩=some (.int .i64 x.st):=HV.out.cell 2
         have y3 : w5.cell? ⟨qx,3,none⟩=some (.slice x.DA x.deps.length x.DC):=HV.out.cell 3
         have y4 : w5.cell? ⟨qx,4,none⟩=some (.slice x.OA x.ops.length x.OC):=HV.out.cell 4
         have C2:=ready_any L' x (err_deps HXG.out.1) g bh (.map (some bw)) (.map (some bb)) w5 (HLX'.out▸HP5.out.hb) ((HP5.out.inW x HXW.out).more fun k hk=>hk.1)
         unfold ChD.v at C2
         go_wp2_with fail
         go_at_call 128
         refine C2.mono ?_
         rintro e w6 ⟨rfl,hb⟩
         have HV6:=Lib.hid (HV.out.keep (hb.block _ HV.out.lt))
         have HRB6:=Lib.hid (HRB5.out.keep (hb.block _ HRB5.out.lt))
         have HP6:=Lib.hid (HP5.out.below hb)
         have HC6 : Hid (Chg (fun k=>k=bw) w3 w6):=HC5.out.trans (Chg.of_below hb) fun _ _ h=>h
         clear C2 hb y0 y1 y2 y3 y4 HV HRB5 HP5 HC5
         cases hrd : readyP L' x with
         | false =>
           have HAG2:=Lib.hid (HAG.out.skip HR.out HX.out HXR.out hrd)
           clear hrd
           go_wp2_with fail
           go_roundw
           case rel=>exact ⟨i+1,W2,by go_num,by have:=HLT.out;omega,HP6,HAG2,HWW,HC6⟩
           case measure=>have:=HLT.out;simp [intOf];omega
         | true =>
           have HRD:=Lib.hid hrd
           clear hrd
           have q0 : w6.cell? ⟨qr,0,none⟩=some (.int .i64 r1):=HRB6.out.cell 0
           have q1 : w6.cell? ⟨qr,1,none⟩=some (.int .i64 r2):=HRB6.out.cell 1
           have g0 : w6.cell? ⟨g,1,none⟩=some (.map (some bw)):=HP6.out.blk.cell 1
           go_upto_region 26 with fail
           refine wp_region_still_tail 5 (by kernel_rfl) (by kernel_rfl) ?_
           simp only [List.take_succ_cons,List.take_zero,List.drop_succ_cons,List.drop_zero]
           repeat (first | (refine wpStill_want rfl (fun K hK=>?_);go_simp;refine hK _ ?_;clear hK K) | (refine wpStill_skip rfl ?_;go_frame))
           refine wpStill_nil ?_
           change wpList _ _ _ _ _ w6.drew
           have HP7 : Hid (PB w6.drew g bh bw bb X' W2):=HP6.out.below (Below.refl _ w6).drew
           have HV7 : Hid (Blk w6.drew qx 82 #[.int .i64 x.a,.int .i64 x.s,.int .i64 x.st,.slice x.DA x.deps.length x.DC,.slice x.OA x.ops.length x.OC]):=HV6
           have HC7 : Hid (Chg (fun k=>k=bw) w3 w6.drew):=HC6.out.drew
           clear q0 q1 g0 HP6 HV6 HC6 HRB6
           generalize w6.drew=w7 at HP7 HV7 HC7 ⊢
           have hdr : ∀ ty,∃ w',(Builtin.delete_ #[159,77] ty #[.map (some bw),.agg #[.int .i64 r1,.int .i64 r2]]).run Tryz.prog w7=.ok (.tuple #[]) w'∧(HasL w' bw (W2.eraseIdx j)∧w7.mapTurned w' bw):=fun ty=>by
            have:=HP7.out.mw.drop HX.out ty
            rw [HXR.out] at this
            exact this
           go_wp2_with (first
            | (refine wpL_delete _ rfl (.tmp 106) (.tmp 107) 159 77 rfl bw (.agg #[.int .i64 r1,.int .i64 r2]) rfl rfl (fun w'=>HasL w' bw (W2.eraseIdx j)∧w7.mapTurned w' bw) hdr ?_
               rintro w8 ⟨hm8,ht8⟩
               have hg8:=ht8.grown
               have hch8 : Chg (fun k=>k=bw) w7 w8:=(Chg.refl w7).grown hg8 (fun q hq=>by cases hq;exact .inl rfl)
               have HXI : Hid (ChIn (NF w7 bh bw bb) w8 x):=(HP7.out.inW x HXW.out).keep fun k hk=>hch8.block k hk.1 (fun e=>hk.2.2.1 e)
               have HP8:=Lib.hid (HP7.out.waits hch8 hm8 (fun c hc=>.inl (mem_eraseIdx_of hc)))
               have HV8:=Lib.hid (HV7.out.keep (hch8.block _ HV7.out.lt (fun e=>MapL.no_cells HP7.out.mw _ _ (by have e : qx=bw:=e;rw [← e];exact HV7.out))))
               have HC8 : Hid (Chg (fun k=>k=bw) w3 w8):=HC7.out.trans hch8 fun _ _ h=>h
               have HS8 : Hid (w7.heap.size≤w8.heap.size):=hch8.size
               clear hdr hm8 ht8 hg8 hch8 HP7 HV7 HC7
               have HXJ : Hid (ChIn (NF w8 bh bw bb) w8 x):=HXI.out.more fun k hk=>⟨Nat.lt_of_lt_of_le hk.1 HS8.out,hk.2⟩
               clear HXI HS8
               have y0 : w8.cell? ⟨qx,0,none⟩=some (.int .i64 x.a):=HV8.out.cell 0
               have y1 : w8.cell? ⟨qx,1,none⟩=some (.int .i64 x.s):=HV8.out.cell 1
               have y2 : w8.cell? ⟨qx,2,none⟩=some (.int .i64 x.st):=HV8.out.cell 2
               have y3 : w8.cell? ⟨qx,3,none⟩=some (.slice x.DA x.deps.length x.DC):=HV8.out.cell 3
               have y4 : w8.cell? ⟨qx,4,none⟩=some (.slice x.OA x.ops.length x.OC):=HV8.out.cell 4))
           have hlen : X'.length≤1000:=by have h1:=HAG.out.inv.most;have h2:=congrArg List.length HLX'.out;simp only [List.length_map] at h2;omega
           have C3:=fits_any X' (W2.eraseIdx j) x g bh bw bb w8 HP8.out (HLX'.out▸HAG.out.inv.bk) hlen (HXJ.out.more fun k hk=>hk.1) HXG.out.1 (HLX'.out▸HRD.out)
           rw [HLX'.out] at C3
           unfold ChD.v at C3
           go_wp2_with fail
           go_at_call 129
           refine C3.mono ?_
           rintro e w9 ⟨rfl,hb⟩
           have HV9:=Lib.hid (HV8.out.keep (hb.block _ HV8.out.lt))
           have HP9:=Lib.hid (HP8.out.below hb)
           have HX9 : Hid (ChIn (NF w9 bh bw bb) w9 x):=(HXJ.out.keep fun k hk=>hb.block k hk.1).more fun k hk=>hk.more hb.size
           have HC9 : Hid (Chg (fun k=>k=bw) w3 w9):=HC8.out.trans (Chg.of_below hb) fun _ _ h=>h
           have HWE : Hid ((∀ y∈W2.eraseIdx j,y∈W')∧(W2.eraseIdx j).length≤W'.length):=⟨fun y hy=>HWW.out.1 y (mem_eraseIdx_of hy),Nat.le_trans (List.length_eraseIdx_le ..) HWW.out.2⟩
           clear C3 hb y0 y1 y2 y3 y4 HV8 HP8 HXJ HC8
           cases hft : fitsP L' x with
           | false =>
             have HAG2:=Lib.hid (HAG.out.lose HR.out HX.out HXR.out HRD.out hft)
             clear hft hlen
             go_wp2_with fail
             go_roundw
             case rel=>exact ⟨i+1,W2.eraseIdx j,by go_num,by have:=HLT.out;omega,HP9,HAG2,HWE,HC9⟩
             case measure=>have:=HLT.out;simp [intOf];omega
           | true =>
             have HWIN:=Lib.hid (HAG.out.win HR.out HX.out HXR.out HRD.out hft)
             clear hft
             have y0 : w9.cell? ⟨qx,0,none⟩=some (.int .i64 x.a):=HV9.out.cell 0
             have y1 : w9.cell? ⟨qx,1,none⟩=some (.int .i64 x.s):=HV9.out.cell 1
             have y2 : w9.cell? ⟨qx,2,none⟩=some (.int .i64 x.st):=HV9.out.cell 2
             have y3 : w9.cell? ⟨qx,3,none⟩=some (.slice x.DA x.deps.length x.DC):=HV9.out.cell 3
             have y4 : w9.cell? ⟨qx,4,none⟩=some (.slice x.OA x.ops.length x.OC):=HV9.out.cell 4
             have C4:=put_any X' (W2.eraseIdx j) x g bh bw bb w9 HP9.out (HLX'.out▸HAG.out.inv.bk) hlen HX9.out HXG.out.1 (HLX'.out▸HRD.out) (HLX'.out▸HAG.out.inv.apart x HXW.out)
             unfold ChD.v at C4
             go_wp2_with fail
             go_at_call 130
             refine C4.mono ?_
             rintro e w10 ⟨rfl,⟨mk,Sk,hp10,hmk⟩,hch⟩
             have HP10:=Lib.hid hp10
             have HMK:=Lib.hid hmk
             have HC10 : Hid (Chg (fun k=>k=bh∨k=bw∨k=bb) w w10):=(HC3.out.trans HC9.out fun _ _ h=>.inr (.inl h)).trans hch fun i hi h=>h.elim .inl fun h=>.inr (.inr h)
             have HML2 : Hid (mlen w10 bw < mlen w' bw):=by show _ < _;rw [HML.out,HasL.mlen HP10.out.mw];exact Nat.lt_of_lt_of_le HWIN.out.2.2 HWW.out.2
             have HTP2 : Hid (takeP L W c'=(settle (W2.eraseIdx j).length ((X'++[(x,mk,Sk)]).map Prod.fst) (W2.eraseIdx j),0)):=by
              show _=_
              rw [HTP.out,HWIN.out.1,List.map_append,HLX'.out];rfl
             have HIN2 : Hid (Inv ((X'++[(x,mk,Sk)]).map Prod.fst) (W2.eraseIdx j)):=by show Inv _ _;rw [List.map_append,HLX'.out];exact HWIN.out.2.1
             have HFX2 : Hid (∀ z∈X'++[(x,mk,Sk)],z∈X∨w.heap.size≤z.2.1):=fun z hz=>by
              rcases List.mem_append.1 hz with h | h
              · exact HFX.out z h
              · rw [List.mem_singleton.1 h];exact .inr (Nat.le_trans (Nat.le_trans HC3.out.size HC9.out.size) HMK.out)
             have HFY2 : Hid (∀ y,y∈(X'++[(x,mk,Sk)]).map Prod.fst∨y∈W2.eraseIdx j→y∈L∨y∈W∨y=c'):=fun y hy=>by
              have hxW : x∈W':=HWW.out.1 x HXW.out
              rw [List.map_append] at hy
              rcases hy with h | h
              · rcases List.mem_append.1 h with h | h
                · exact HFY.out y (.inl h)
                · rw [List.mem_singleton.1 h];exact HFY.out x (.inr hxW)
              · exact HFY.out y (.inr (HWE.out.1 y h))
             clear C4 hp10 hmk hch y0 y1 y2 y3 y4
             go_wp2_with fail
             go_step3
             refine ⟨rfl,⟨rfl,rfl,rfl,c',X'++[(x,mk,Sk)],W2.eraseIdx j,HCB,HTP2,HP10,HIN2,HC10,HFX2,HFY2,HFC⟩,HML2.out⟩
     · have HDN : Hid (takeP L W c'=((L',W2),0)):=by show _=_;rw [HTP.out,HAG.out.done (by rw [HN.out];omega)]
       have HC9 : Hid (Chg (fun k=>k=bh∨k=bw∨k=bb) w wr):=HC3.out.trans HC.out fun _ _ h=>.inr (.inl h)
       go_wp2_with fail
       try simp only [Exit.jump]
       go_ret
       exact ⟨c',X',HCB.out,by rw [HDN.out];rfl,by rw [HDN.out];exact HP.out,by rw [HDN.out];exact HLX'.out,HC9.out,HFX.out,by
        rw [HDN.out]
        exact take_fresh HP.out HLX'.out (fun y hy=>HFY.out y (by rw [HLX'.out];exact hy.imp id (HWW.out.1 y))) HFC.out⟩
 · as_aux_lemma =>
    intro again
    have AGN:=Lib.hid again
    clear again
    go_wp2_with fail
    generalize w.alloc (.cells #[.int .i64 c.a,.int .i64 c.s,.int .i64 c.st,.slice c.DA c.deps.length c.DC,.slice c.OA c.ops.length c.OC] 82)=V at *
    replace C1:=C1 V ((HCI.out.chm (fun _ h=>h)).keep HW.out)
    have c0 : V.cell? ⟨w.heap.size,0,none⟩=some (.int .i64 c.a):=HQ.out.cell 0
    have c1 : V.cell? ⟨w.heap.size,1,none⟩=some (.int .i64 c.s):=HQ.out.cell 1
    have c2 : V.cell? ⟨w.heap.size,2,none⟩=some (.int .i64 c.st):=HQ.out.cell 2
    have c3 : V.cell? ⟨w.heap.size,3,none⟩=some (.slice c.DA c.deps.length c.DC):=HQ.out.cell 3
    have c4 : V.cell? ⟨w.heap.size,4,none⟩=some (.slice c.OA c.ops.length c.OC):=HQ.out.cell 4
    go_wp2_with fail
    go_at_call 125
    refine C1.mono ?_
    rintro e w1 ⟨rfl,hb⟩
    replace HQ:=Lib.hid (HQ.out.keep (hb.block _ HQ.out.lt))
    replace HW : Hid (Below w.heap.size w w1):=HW.out.trans (hb.mono HW.out.size)
    clear hb
    clear C1 c0 c1 c2 c3 c4
    have HE : Hid (c.err=chgE c.a c.s c.st c.deps c.ops):=rfl
    rw [← HE.out]
    by_cases he : c.err=0
    case neg =>
     have hev : errN c.err=.iface 101 (.int .i64 c.err):=if_neg he
     have HT : Hid (takeP L W c=((L,W),c.err)):=takeP_err he
     have HEV:=Lib.hid hev
     rw [hev]
     clear he hev
     go_wp2_with fail
     try simp only [Exit.jump]
     go_ret
     exact ⟨c,X,rfl,by rw [HT.out];exact congrArg _ HEV.out.symm,by rw [HT.out];exact HB.out.below HW.out,by rw [HT.out];exact HLX.out,Chg.of_below HW.out,fun x hx=>.inl hx,by rw [HT.out];exact fun y hy=>hy.elim .inl fun h=>.inr (.inl h)⟩
    case pos =>
     have HE0:=Lib.hid he
     rw [he,show errN 0=.nilIface from rfl]
     clear he
     have c0 : w1.cell? ⟨w.heap.size,0,none⟩=some (.int .i64 c.a):=HQ.out.cell 0
     have c1 : w1.cell? ⟨w.heap.size,1,none⟩=some (.int .i64 c.s):=HQ.out.cell 1
     have c2 : w1.cell? ⟨w.heap.size,2,none⟩=some (.int .i64 c.st):=HQ.out.cell 2
     have c3 : w1.cell? ⟨w.heap.size,3,none⟩=some (.slice c.DA c.deps.length c.DC):=HQ.out.cell 3
     have c4 : w1.cell? ⟨w.heap.size,4,none⟩=some (.slice c.OA c.ops.length c.OC):=HQ.out.cell 4
     have C2:=chref_any c.a c.s (.int .i64 c.st) (.slice c.DA c.deps.length c.DC) (.slice c.OA c.ops.length c.OC) w1 rfl rfl rfl
     go_wp2_with fail
     go_at_call 126
     refine C2.mono ?_
     rintro e w2 ⟨rfl,hb⟩
     replace HQ:=Lib.hid (HQ.out.keep (hb.block _ HQ.out.lt))
     replace HW : Hid (Below w.heap.size w w2):=HW.out.trans (hb.mono HW.out.size)
     clear hb
     clear C2 c0 c1 c2 c3 c4
     go_upto_region 5 with fail
     have hb9 : Below w2.heap.size w2 (w2.alloc (.cells #[.int .i64 c.a,.int .i64 c.s] 77)):=(Below.refl _ w2).alloc (Nat.le_refl _) _
     have HRB:=Lib.hid (Blk.new w2 77 #[.int .i64 c.a,.int .i64 c.s])
     have HQ3:=Lib.hid (HQ.out.keep (hb9.block _ HQ.out.lt))
     have HW3 : Hid (Below w.heap.size w (w2.alloc (.cells #[.int .i64 c.a,.int .i64 c.s] 77))):=HW.out.trans (hb9.mono HW.out.size)
     have hqr:=HQ.out.lt
     clear HQ HW hb9
     generalize w2.alloc (.cells #[.int .i64 c.a,.int .i64 c.s] 77)=w3 at HRB HQ3 HW3 ⊢
     generalize w2.heap.size=qr at HRB hqr ⊢
     have HQRN:=Lib.hid hqr
     clear hqr
     have HPR:=Lib.hid (HB.out.below HW3.out)
     have HI64:=Lib.hid (rf_i64 HE0.out)
     obtain ⟨xa,xs,xst,xA,xn,xC,xA',xn',xC',hlv⟩:=lookV_cells L c.rf
     obtain ⟨ok,hok⟩ : ∃ ok,decide (c.rf∈refsOf L)=ok:=⟨_,rfl⟩
     have HLV:=Lib.hid hlv
     have HOK:=Lib.hid hok
     have q0 : w3.cell? ⟨qr,0,none⟩=some (.int .i64 c.a):=HRB.out.cell 0
     have q1 : w3.cell? ⟨qr,1,none⟩=some (.int .i64 c.s):=HRB.out.cell 1
     have g0 : w3.cell? ⟨g,0,none⟩=some (.map (some bh)):=HPR.out.blk.cell 0
     have KS : ∀ V : World,Below w3.heap.size w3 V→V.cell? ⟨qr,0,none⟩=some (.int .i64 c.a)∧V.cell? ⟨qr,1,none⟩=some (.int .i64 c.s)∧V.cell? ⟨g,0,none⟩=some (.map (some bh))∧(Instr.lookup 159 (.map (some bh)) (.agg #[.int .i64 c.a,.int .i64 c.s]) true).run Tryz.prog V=.ok (.tuple #[.agg #[.int .i64 xa,.int .i64 xs,.int .i64 xst,.slice xA xn xC,.slice xA' xn' xC'],.bool ok]) V:=fun V hv=>by
      have hm : HasL V bh L:=by rw [← HLX.out];exact MapL.keep HPR.out.mh (hv.block _ (MapL.lt HPR.out.mh))
      have h1:=HasL.lookT hm HI64.out HLV.out HOK.out
      exact ⟨(World.cell?_of_block (hv.block _ HRB.out.lt)).trans q0,(World.cell?_of_block (hv.block _ HRB.out.lt)).trans q1,(World.cell?_of_block (hv.block _ HPR.out.blk.lt)).trans g0,h1⟩
     have K0:=KS w3.drew (Below.refl _ w3).drew
     have K1:=fun o=>KS (w3.drew.alloc o) ((Below.refl _ w3).drew.alloc (Nat.le_refl _) o)
     clear KS q0 q1 g0 hlv hok
     go_cut [7,8] (fun s7 s8 wc=>s7=.pointer (some ⟨w3.heap.size,0,none⟩)∧s8=.bool ok∧wc=(w3.alloc (.cells #[.int .i64 xa,.int .i64 xs,.int .i64 xst,.slice xA xn xC,.slice xA' xn' xC'] 82)).drew)
     case first =>
      go_region_held3 (fun w'=>w'.cell? ⟨qr,0,none⟩=some (.int .i64 c.a)∧w'.cell? ⟨qr,1,none⟩=some (.int .i64 c.s)∧w'.cell? ⟨g,0,none⟩=some (.map (some bh))∧(Instr.lookup 159 (.map (some bh)) (.agg #[.int .i64 c.a,.int .i64 c.s]) true).run Tryz.prog w'=.ok (.tuple #[.agg #[.int .i64 xa,.int .i64 xs,.int .i64 xst,.slice xA xn xC,.slice xA' xn' xC'],.bool ok]) w') (first | exact K0 | exact K1 _ | go_keep) (fail)
      all_goals
       clear K0 K1
       go_wp2_with fail
       go_meet
       case rel=>exact ⟨rfl,rfl,rfl⟩
     case rest =>
      obtain ⟨rfl,rfl,rfl⟩:=hcut
      clear K0 K1
      have hb9 : Below w3.heap.size w3 (w3.alloc (.cells #[.int .i64 xa,.int .i64 xs,.int .i64 xst,.slice xA xn xC,.slice xA' xn' xC'] 82)).drew:=((Below.refl _ w3).alloc (Nat.le_refl _) _).drew
      have H7 : Hid (Blk (w3.alloc (.cells #[.int .i64 xa,.int .i64 xs,.int .i64 xst,.slice xA xn xC,.slice xA' xn' xC'] 82)).drew w3.heap.size 82 #[.int .i64 xa,.int .i64 xs,.int .i64 xst,.slice xA xn xC,.slice xA' xn' xC']):=Blk.new w3 _ _
      have HRB4:=Lib.hid (HRB.out.keep (hb9.block _ HRB.out.lt))
      have HQ4:=Lib.hid (HQ3.out.keep (hb9.block _ HQ3.out.lt))
      have HPR4:=Lib.hid (HPR.out.below hb9)
      have HW4 : Hid (Below w.heap.size w (w3.alloc (.cells #[.int .i64 xa,.int .i64 xs,.int .i64 xst,.slice xA xn xC,.slice xA' xn' xC'] 82)).drew):=HW3.out.trans (hb9.mono HW3.out.size)
      have HGQ : Hid (g≠w3.heap.size):=fun e=>by have:=HPR.out.blk.lt;omega
      have HNE : Hid (w.heap.size < w3.heap.size∧qr < w3.heap.size∧w.heap.size≤w3.heap.size):=⟨HQ3.out.lt,HRB.out.lt,HW3.out.size⟩
      clear hb9 HRB HQ3 HPR HW3
      generalize (w3.alloc (.cells #[.int .i64 xa,.int .i64 xs,.int .i64 xst,.slice xA xn xC,.slice xA' xn' xC'] 82)).drew=w4 at H7 HRB4 HQ4 HPR4 HW4 ⊢
      generalize w3.heap.size=q7 at H7 HNE HGQ ⊢
      go_upto_if 29 with fail
      go_cut [8] (fun s8 wc=>∃ (od : Option ChD) (xa xs xst : Int) (xA : Option Addr) (xn xC : Nat) (xA' : Option Addr) (xn' xC' : Nat),s8=.bool od.isSome∧Hid ((findC L c.rf).or (findC W c.rf)=od)∧Hid (∀ d,od=some d→d.v=.agg #[.int .i64 xa,.int .i64 xs,.int .i64 xst,.slice xA xn xC,.slice xA' xn' xC'])∧Hid (Blk wc q7 82 #[.int .i64 xa,.int .i64 xs,.int .i64 xst,.slice xA xn xC,.slice xA' xn' xC'])∧Hid (Blk wc w.heap.size 82 #[.int .i64 c.a,.int .i64 c.s,.int .i64 c.st,.slice c.DA c.deps.length c.DC,.slice c.OA c.ops.length c.OC])∧Hid (Blk wc qr 77 #[.int .i64 c.a,.int .i64 c.s])∧Hid (Below w.heap.size w wc))
      case first =>
       cases ok with
       | true =>
         obtain ⟨d,hd⟩ : ∃ d,findC L c.rf=some d:=by
          cases h : findC L c.rf with
          | some d=>exact ⟨d,rfl⟩
          | none=>exact absurd (of_decide_eq_true HOK.out) (findC_none.1 h)
         have HFD : Hid ((findC L c.rf).or (findC W c.rf)=some d):=by show _=_;rw [hd];rfl
         have HDV : Hid (∀ d',some d=some d'→d'.v=.agg #[.int .i64 xa,.int .i64 xs,.int .i64 xst,.slice xA xn xC,.slice xA' xn' xC']):=fun d' e=>by
          cases e
          have:=HLV.out
          unfold lookV at this
          rw [hd] at this
          exact this
         clear hd
         go_wp2_with fail
         go_meet
         case rel=>exact ⟨some d,xa,xs,xst,xA,xn,xC,xA',xn',xC',rfl,HFD,HDV,H7,HQ4,HRB4,HW4⟩
       | false =>
         obtain ⟨ya,ys,yst,yA,yn,yC,yA',yn',yC',hlv⟩:=lookV_cells W c.rf
         obtain ⟨okw,hok⟩ : ∃ ok,decide (c.rf∈refsOf W)=ok:=⟨_,rfl⟩
         have HLW:=Lib.hid hlv
         have HOW:=Lib.hid hok
         have HFN : Hid (findC L c.rf=none):=findC_none.2 (of_decide_eq_false HOK.out)
         have q0 : w4.cell? ⟨qr,0,none⟩=some (.int .i64 c.a):=HRB4.out.cell 0
         have q1 : w4.cell? ⟨qr,1,none⟩=some (.int .i64 c.s):=HRB4.out.cell 1
         have g1 : w4.cell? ⟨g,1,none⟩=some (.map (some bw)):=HPR4.out.blk.cell 1
         have hlk : (Instr.lookup 159 (.map (some bw)) (.agg #[.int .i64 c.a,.int .i64 c.s]) true).run Tryz.prog w4.drew=.ok (.tuple #[.agg #[.int .i64 ya,.int .i64 ys,.int .i64 yst,.slice yA yn yC,.slice yA' yn' yC'],.bool okw]) w4.drew:=HasL.lookT (MapL.keep (w':=w4.drew) HPR4.out.mw rfl) HI64.out HLW.out HOW.out
         have HFD : Hid ((findC L c.rf).or (findC W c.rf)=findC W c.rf):=by show _=_;rw [HFN.out];rfl
         have HDV : Hid (∀ d,findC W c.rf=some d→d.v=.agg #[.int .i64 ya,.int .i64 ys,.int .i64 yst,.slice yA yn yC,.slice yA' yn' yC']):=fun d e=>by
          have:=HLW.out
          unfold lookV at this
          rw [e] at this
          exact this
         have HOKW : Hid (okw=(findC W c.rf).isSome):=by
          show _=_
          rw [← HOW.out]
          cases h : findC W c.rf with
          | some d=>exact decide_eq_true (by rw [← (findC_some h).2];exact mem_refs (findC_some h).1)
          | none=>exact decide_eq_false (findC_none.1 h)
         have f0:=H7.out.frozen 0
         have f1:=H7.out.frozen 1
         have f2:=H7.out.frozen 2
         have f3:=H7.out.frozen 3
         have f4:=H7.out.frozen 4
         have x0 : w4.cell? ⟨q7,0,none⟩=some (.int .i64 xa):=H7.out.cell 0
         have x1 : w4.cell? ⟨q7,1,none⟩=some (.int .i64 xs):=H7.out.cell 1
         have x2 : w4.cell? ⟨q7,2,none⟩=some (.int .i64 xst):=H7.out.cell 2
         have x3 : w4.cell? ⟨q7,3,none⟩=some (.slice xA xn xC):=H7.out.cell 3
         have x4 : w4.cell? ⟨q7,4,none⟩=some (.slice xA' xn' xC'):=H7.out.cell 4
         clear hlv hok
         have hch8 : Chg (fun k=>k=q7) w4.drew (w4.drew.setCells q7 0 [.int .i64 ya,.int .i64 ys,.int .i64 yst,.slice yA yn yC,.slice yA' yn' yC']):=chg_setCells _ _ (Chg.refl w4.drew)
         have K0 : w4.drew.cell? ⟨qr,0,none⟩=some (.int .i64 c.a)∧w4.drew.cell? ⟨qr,1,none⟩=some (.int .i64 c.s)∧w4.drew.cell? ⟨g,1,none⟩=some (.map (some bw))∧(Instr.lookup 159 (.map (some bw)) (.agg #[.int .i64 c.a,.int .i64 c.s]) true).run Tryz.prog w4.drew=.ok (.tuple #[.agg #[.int .i64 ya,.int .i64 ys,.int .i64 yst,.slice yA yn yC,.slice yA' yn' yC'],.bool okw]) w4.drew:=⟨q0,q1,g1,hlk⟩
         have K2 : (w4.drew.setCells q7 0 [.int .i64 ya,.int .i64 ys,.int .i64 yst,.slice yA yn yC,.slice yA' yn' yC']).cell? ⟨qr,0,none⟩=some (.int .i64 c.a)∧(w4.drew.setCells q7 0 [.int .i64 ya,.int .i64 ys,.int .i64 yst,.slice yA yn yC,.slice yA' yn' yC']).cell? ⟨qr,1,none⟩=some (.int .i64 c.s)∧(w4.drew.setCells q7 0 [.int .i64 ya,.int .i64 ys,.int .i64 yst,.slice yA yn yC,.slice yA' yn' yC']).cell? ⟨g,1,none⟩=some (.map (some bw))∧(Instr.lookup 159 (.map (some bw)) (.agg #[.int .i64 c.a,.int .i64 c.s]) true).run Tryz.prog (w4.drew.setCells q7 0 [.int .i64 ya,.int .i64 ys,.int .i64 yst,.slice yA yn yC,.slice yA' yn' yC'])=.ok (.tuple #[.agg #[.int .i64 ya,.int .i64 ys,.int .i64 yst,.slice yA yn yC,.slice yA' yn' yC'],.bool okw]) (w4.drew.setCells q7 0 [.int .i64 ya,.int .i64 ys,.int .i64 yst,.slice yA yn yC,.slice yA' yn' yC']):=by
          refine ⟨(World.cell?_of_block (hch8.block _ HRB4.out.lt (by have:=HNE.out;intro e;have e : qr=q7:=e;omega))).trans q0,(World.cell?_of_block (hch8.block _ HRB4.out.lt (by have:=HNE.out;intro e;have e : qr=q7:=e;omega))).trans q1,(World.cell?_of_block (hch8.block _ HPR4.out.blk.lt (fun e=>HGQ.out e))).trans g1,?_⟩
          exact HasL.lookT (MapL.keep HPR4.out.mw (hch8.block _ (MapL.lt HPR4.out.mw) (fun e=>MapL.no_cells HPR4.out.mw _ _ (by have e : bw=q7:=e;rw [e];exact H7.out)))) HI64.out HLW.out HOW.out
         go_upto_region 7 with fail
         have HK2:=Lib.hid K2
         obtain ⟨SS,hSS⟩ : ∃ SS : World→Prop,SS=fun V=>V.cell? ⟨qr,0,none⟩=some (.int .i64 c.a)∧V.cell? ⟨qr,1,none⟩=some (.int .i64 c.s)∧V.cell? ⟨g,1,none⟩=some (.map (some bw))∧(Instr.lookup 159 (.map (some bw)) (.agg #[.int .i64 c.a,.int .i64 c.s]) true).run Tryz.prog V=.ok (.tuple #[.agg #[.int .i64 ya,.int .i64 ys,.int .i64 yst,.slice yA yn yC,.slice yA' yn' yC'],.bool okw]) V:=⟨_,rfl⟩
         have HSI : ∀ V,(V.cell? ⟨qr,0,none⟩=some (.int .i64 c.a)∧V.cell? ⟨qr,1,none⟩=some (.int .i64 c.s)∧V.cell? ⟨g,1,none⟩=some (.map (some bw))∧(Instr.lookup 159 (.map (some bw)) (.agg #[.int .i64 c.a,.int .i64 c.s]) true).run Tryz.prog V=.ok (.tuple #[.agg #[.int .i64 ya,.int .i64 ys,.int .i64 yst,.slice yA yn yC,.slice yA' yn' yC'],.bool okw]) V)→SS V:=fun V h=>by rw [hSS];exact h
         have HSO : ∀ V,SS V→(V.cell? ⟨qr,0,none⟩=some (.int .i64 c.a)∧V.cell? ⟨qr,1,none⟩=some (.int .i64 c.s)∧V.cell? ⟨g,1,none⟩=some (.map (some bw))∧(Instr.lookup 159 (.map (some bw)) (.agg #[.int .i64 c.a,.int .i64 c.s]) true).run Tryz.prog V=.ok (.tuple #[.agg #[.int .i64 ya,.int .i64 ys,.int .i64 yst,.slice yA yn yC,.slice yA' yn' yC'],.bool okw]) V):=fun V h=>by rw [hSS] at h;exact h
         have HSI:=Lib.hid HSI
         have HSO:=Lib.hid HSO
         clear hSS
         refine wp_region_held_drew (S:=SS) (by kernel_rfl) (HSI.out _ K0) (fun hHeld=>?_)
         clear K0 K2 q0 q1 g1 hlk
         refine takeL (i:=0) (v:=?_) rfl (by kernel_rfl) (by kernel_rfl) (by kernel_rfl) (fun _ _ _ h=>h) (Or.inl ⟨by rfl,?_⟩) hHeld ?_
         rotate_left
         · (intro w _;go_simp;try with_reducible rfl)
         try simp only [Act.put,List.setIfInBounds_toArray,List.set_cons_zero,List.set_cons_succ]
         refine takeL (i:=1) (v:=?_) rfl (by kernel_rfl) (by kernel_rfl) (by kernel_rfl) (fun _ _ _ h=>h) (Or.inl ⟨by rfl,?_⟩) hHeld ?_
         rotate_left
         · (intro w _;go_simp;try with_reducible rfl)
         try simp only [Act.put,List.setIfInBounds_toArray,List.set_cons_zero,List.set_cons_succ]
         refine takeL (i:=2) (v:=?_) rfl (by kernel_rfl) (by kernel_rfl) (by kernel_rfl) (fun _ _ _ h=>h) (Or.inl ⟨by rfl,?_⟩) hHeld ?_
         rotate_left
         · (intro w _;go_simp;try with_reducible rfl)
         try simp only [Act.put,List.setIfInBounds_toArray,List.set_cons_zero,List.set_cons_succ]
         refine takeL (i:=3) (v:=?_) rfl (by kernel_rfl) (by kernel_rfl) (by kernel_rfl) (fun _ _ _ h=>h) (Or.inl ⟨by rfl,?_⟩) hHeld ?_
         rotate_left
         · (intro w hSw;obtain ⟨-,-,g1,-⟩:=HSO.out _ hSw;go_simp;try with_reducible rfl)
         try simp only [Act.put,List.setIfInBounds_toArray,List.set_cons_zero,List.set_cons_succ]
         refine takeL (i:=4) (v:=?_) rfl (by kernel_rfl) (by kernel_rfl) (by kernel_rfl) (fun _ _ _ h=>h) (Or.inl ⟨by rfl,?_⟩) hHeld ?_
         rotate_left
         · (intro w hSw;obtain ⟨q0,q1,-,-⟩:=HSO.out _ hSw;go_simp;try with_reducible rfl)
         try simp only [Act.put,List.setIfInBounds_toArray,List.set_cons_zero,List.set_cons_succ]
         refine takeL (i:=5) (v:=?_) rfl (by kernel_rfl) (by kernel_rfl) (by kernel_rfl) (fun _ _ _ h=>h) (Or.inl ⟨by rfl,?_⟩) hHeld ?_
         rotate_left
         · (intro w hSw;obtain ⟨-,-,-,hlk⟩:=HSO.out _ hSw;go_simp;try with_reducible rfl)
         try simp only [Act.put,List.setIfInBounds_toArray,List.set_cons_zero,List.set_cons_succ]
         refine takeL (i:=6) (v:=?_) rfl (by kernel_rfl) (by kernel_rfl) (by kernel_rfl) (fun _ _ _ h=>h) (Or.inl ⟨by rfl,?_⟩) hHeld ?_
         rotate_left
         · (intro w _;go_simp;try with_reducible rfl)
         try simp only [Act.put,List.setIfInBounds_toArray,List.set_cons_zero,List.set_cons_succ]
         refine takeL (i:=7) (v:=?_) rfl (by kernel_rfl) (by kernel_rfl) (by kernel_rfl) (fun _ _ _ h=>h) (Or.inl ⟨by rfl,?_⟩) hHeld ?_
         rotate_left
         · (intro w _;go_simp;try with_reducible rfl)
         try simp only [Act.put,List.setIfInBounds_toArray,List.set_cons_zero,List.set_cons_succ]
         refine takeL (i:=8) (v:=?_) rfl (by kernel_rfl) (by kernel_rfl) (by kernel_rfl) (fun _ _ _ h=>h) (Or.inl ⟨by rfl,?_⟩) hHeld ?_
         rotate_left
         · (intro w _;go_simp;try with_reducible rfl)
         try simp only [Act.put,List.setIfInBounds_toArray,List.set_cons_zero,List.set_cons_succ]
         refine wpAnyH_ready (rs:=[9]) (by kernel_rfl) (by simp) ?_
         refine consL (i:=9) rfl (fun K hK=>?_) AllReadyH.nil
         simp only [Region.wanted,if_true]
         refine wp_store_mid 82 (.tmp 7) (.tmp 37) rfl q7 0 #[.int .i64 ya,.int .i64 ys,.int .i64 yst,.slice yA yn yC,.slice yA' yn' yC'] rfl rfl (Blk.there (show Blk w4.drew q7 82 #[.int .i64 xa,.int .i64 xs,.int .i64 xst,.slice xA xn xC,.slice xA' xn' xC'] from H7.out) rfl) info_ch (ch_one _ _ _ _ _ _ _ _ _) ?_
         refine hK.out _ _ (HSI.out _ HK2.out) (fun hHeld=>?_)
         clear hK K
         try simp only [Act.put,List.setIfInBounds_toArray,List.set_cons_zero,List.set_cons_succ]
         refine takeL (i:=10) (v:=?_) rfl (by kernel_rfl) (by kernel_rfl) (by kernel_rfl) (fun _ _ _ h=>h) (Or.inl ⟨by rfl,?_⟩) hHeld ?_
         rotate_left
         · (intro w _;go_simp;try with_reducible rfl)
         try simp only [Act.put,List.setIfInBounds_toArray,List.set_cons_zero,List.set_cons_succ]
         refine wpAnyH_done (by kernel_rfl) ?_ _
         clear hHeld HSI HSO
         go_wp2_with fail
         have hch7 : Chg (fun k=>k=q7) w4 (w4.drew.setCells q7 0 [.int .i64 ya,.int .i64 ys,.int .i64 yst,.slice yA yn yC,.slice yA' yn' yC']):=chg_setCells _ _ (Chg.refl w4).drew
         have HW9 : Hid (Below w.heap.size w (w4.drew.setCells q7 0 [.int .i64 ya,.int .i64 ys,.int .i64 yst,.slice yA yn yC,.slice yA' yn' yC'])):=Below.set5 (g:=q7) HW4.out.drew (by have:=HNE.out;omega) (.int .i64 ya) (.int .i64 ys) (.int .i64 yst) (.slice yA yn yC) (.slice yA' yn' yC')
         have H79 : Hid (Blk (w4.drew.setCells q7 0 [.int .i64 ya,.int .i64 ys,.int .i64 yst,.slice yA yn yC,.slice yA' yn' yC']) q7 82 #[.int .i64 ya,.int .i64 ys,.int .i64 yst,.slice yA yn yC,.slice yA' yn' yC']):=(show Blk w4.drew q7 82 #[.int .i64 xa,.int .i64 xs,.int .i64 xst,.slice xA xn xC,.slice xA' xn' xC'] from H7.out).set5 (.int .i64 ya) (.int .i64 ys) (.int .i64 yst) (.slice yA yn yC) (.slice yA' yn' yC')
         have HQ9:=Lib.hid (HQ4.out.keep (hch7.block _ HQ4.out.lt (by have:=HNE.out;intro e;have e : w.heap.size=q7:=e;omega)))
         have HRB9:=Lib.hid (HRB4.out.keep (hch7.block _ HRB4.out.lt (by have:=HNE.out;intro e;have e : qr=q7:=e;omega)))
         go_meet
         case rel=>exact ⟨findC W c.rf,ya,ys,yst,yA,yn,yC,yA',yn',yC',by rw [HOKW.out],HFD,HDV,H79,HQ9,HRB9,HW9⟩
      case rest =>
       clear H7 HQ4 HRB4 HPR4 HW4 HLV HOK
       clear xa xs xst xA xn xC xA' xn' xC'
       obtain ⟨od,xa,xs,xst,xA,xn,xC,xA',xn',xC',rfl,HFD,HDV,H7,HQ,HRB,HW⟩:=hcut
       cases od with
       | some d =>
         have hdv:=HDV.out d rfl
         have HT : Hid (takeP L W c=((L,W),sameE d c)):=takeP_found HE0.out HFD.out
         have hfi:=found_in HFD.out
         have hpb:=HB.out.below HW.out
         have hdi : ChIn (fun k=>k < wc.heap.size) wc d:=by
          rcases hfi.1 with h | h
          · rw [← HLX.out] at h
            obtain ⟨x,hx,rfl⟩:=List.mem_map.1 h
            exact (hpb.inL x hx).more fun k hk=>hk.1
          · exact (hpb.inW d h).more fun k hk=>hk.1
         have hde : d.err=0∧∀ o∈d.ops,(Lit.int .i64 o.vn).wf=true:=by
          rcases hfi.1 with h | h
          · exact HI.out.bk.err d h
          · exact HI.out.good d h
         have HSE : Hid (sameE d c=if sameC d c then 0 else 8):=by
          show _=_
          rw [sameC_enc hde.1 HE0.out hde.2 HV.out hfi.2]
          unfold sameE
          by_cases h : d.enc=c.enc
          · rw [if_pos h,decide_eq_true h];rfl
          · rw [if_neg h,decide_eq_false h];rfl
         have C3:=same_any d c wc hdi ((HCI.out.keep fun k hk=>HW.out.block k hk).more fun k hk=>Nat.lt_of_lt_of_le hk HW.out.size)
         unfold ChD.v at C3 hdv
         simp only [Value.agg.injEq,Array.mk.injEq,List.cons.injEq,Value.int.injEq,Value.slice.injEq,true_and,and_true] at hdv
         obtain ⟨rfl,rfl,rfl,⟨rfl,rfl,rfl⟩,rfl,rfl,rfl⟩:=hdv
         have c0 : wc.cell? ⟨w.heap.size,0,none⟩=some (.int .i64 c.a):=HQ.out.cell 0
         have c1 : wc.cell? ⟨w.heap.size,1,none⟩=some (.int .i64 c.s):=HQ.out.cell 1
         have c2 : wc.cell? ⟨w.heap.size,2,none⟩=some (.int .i64 c.st):=HQ.out.cell 2
         have c3 : wc.cell? ⟨w.heap.size,3,none⟩=some (.slice c.DA c.deps.length c.DC):=HQ.out.cell 3
         have c4 : wc.cell? ⟨w.heap.size,4,none⟩=some (.slice c.OA c.ops.length c.OC):=HQ.out.cell 4
         have x0 : wc.cell? ⟨q7,0,none⟩=some (.int .i64 d.a):=H7.out.cell 0
         have x1 : wc.cell? ⟨q7,1,none⟩=some (.int .i64 d.s):=H7.out.cell 1
         have x2 : wc.cell? ⟨q7,2,none⟩=some (.int .i64 d.st):=H7.out.cell 2
         have x3 : wc.cell? ⟨q7,3,none⟩=some (.slice d.DA d.deps.length d.DC):=H7.out.cell 3
         have x4 : wc.cell? ⟨q7,4,none⟩=some (.slice d.OA d.ops.length d.OC):=H7.out.cell 4
         clear hfi hpb hdi hde HFD HDV
         go_wp2_with fail
         go_at_call 127
         refine C3.mono ?_
         rintro e w5 ⟨rfl,hb⟩
         have HW5 : Hid (Below w.heap.size w w5):=HW.out.trans (hb.mono HW.out.size)
         clear C3 c0 c1 c2 c3 c4 x0 x1 x2 x3 x4 hb H7 HQ HRB
         cases hsm : sameC d c with
         | true =>
           have HT2 : Hid (takeP L W c=((L,W),0)):=by show _=_;rw [HT.out,HSE.out,hsm];rfl
           clear hsm
           go_wp2_with fail
           try simp only [Exit.jump]
           go_ret
           exact ⟨c,X,rfl,by rw [HT2.out];rfl,by rw [HT2.out];exact HB.out.below HW5.out,by rw [HT2.out];exact HLX.out,Chg.of_below HW5.out,fun x hx=>.inl hx,by rw [HT2.out];exact fun y hy=>hy.elim .inl fun h=>.inr (.inl h)⟩
         | false =>
           have HT2 : Hid (takeP L W c=((L,W),8)):=by show _=_;rw [HT.out,HSE.out,hsm];rfl
           clear hsm
           go_wp2_with fail
           try simp only [Exit.jump]
           go_ret
           exact ⟨c,X,rfl,by rw [HT2.out];rfl,by rw [HT2.out];exact HB.out.below HW5.out,by rw [HT2.out];exact HLX.out,Chg.of_below HW5.out,fun x hx=>.inl hx,by rw [HT2.out];exact fun y hy=>hy.elim .inl fun h=>.inr (.inl h)⟩
       | none =>
         have HNN:=Lib.hid (takeP_none HE0.out HFD.out)
         have hpb:=HB.out.below HW.out
         obtain ⟨nl,hnl⟩ : ∃ n,L.length=n:=⟨_,rfl⟩
         obtain ⟨nw,hnw⟩ : ∃ n,W.length=n:=⟨_,rfl⟩
         have HNL:=Lib.hid hnl
         have HNW:=Lib.hid hnw
         have hmost:=HI.out.most
         rw [hnl,hnw] at hmost
         have g0 : wc.cell? ⟨g,0,none⟩=some (.map (some bh)):=hpb.blk.cell 0
         have g1 : wc.cell? ⟨g,1,none⟩=some (.map (some bw)):=hpb.blk.cell 1
         have hl1 : ∀ ty,(Builtin.len_ #[159] ty #[.map (some bh)]).run Tryz.prog wc.drew=.ok (.int .i64 nl) wc.drew:=fun ty=>by
          have:=MapL.len (MapL.keep (w':=wc.drew) hpb.mh rfl) Tryz.underlying159 ty
          rw [List.length_map,HLX.out,hnl] at this
          exact this
         have hl2 : ∀ ty,(Builtin.len_ #[159] ty #[.map (some bw)]).run Tryz.prog wc.drew=.ok (.int .i64 nw) wc.drew:=fun ty=>by
          have:=MapL.len (MapL.keep (w':=wc.drew) hpb.mw rfl) Tryz.underlying159 ty
          rw [List.length_map,hnw] at this
          exact this
         have hwn : IntKind.i64.wrap ((nl : Int)+(nw : Int))=(nl : Int)+(nw : Int):=IntWalk.i64_in _ (by omega)
         have hwn2 : wrap64 ((nl : Int)+(nw : Int))=(nl : Int)+(nw : Int):=by simp only [wrap64];omega
         clear hnl hnw hpb HFD HDV H7
         go_upto_region 12 with fail
         refine wp_region_still_tail 12 (by kernel_rfl) (by kernel_rfl) ?_
         simp only [List.take_succ_cons,List.take_zero,List.drop_succ_cons,List.drop_zero]
         repeat (first | (refine wpStill_want rfl (fun K hK=>?_);go_simp;refine hK _ ?_;clear hK K) | (refine wpStill_skip rfl ?_;go_frame))
         refine wpStill_nil ?_
         change wpList _ _ _ _ _ wc.drew
         by_cases h120 : (120 : Int)≤(nl : Int)+(nw : Int)
         · have HT : Hid (takeP L W c=((L,W),4)):=takeP_full HE0.out HNN.out.1 HNN.out.2 (by rw [HNL.out,HNW.out];omega)
           have HW9 : Hid (Below w.heap.size w wc.drew):=HW.out.drew
           go_wp2_with fail
           try simp only [Exit.jump]
           go_ret
           exact ⟨c,X,rfl,by rw [HT.out];rfl,by rw [HT.out];exact HB.out.below HW9.out,by rw [HT.out];exact HLX.out,Chg.of_below HW9.out,fun x hx=>.inl hx,by rw [HT.out];exact fun y hy=>hy.elim .inl fun h=>.inr (.inl h)⟩
         · have HLE : Hid (¬ 120≤L.length+W.length):=by show ¬ _≤_;rw [HNL.out,HNW.out];omega
           rw [decide_eq_false h120]
           clear h120 hmost
           have HQd : Hid (Blk wc.drew w.heap.size 82 #[.int .i64 c.a,.int .i64 c.s,.int .i64 c.st,.slice c.DA c.deps.length c.DC,.slice c.OA c.ops.length c.OC]):=HQ
           have HRBd : Hid (Blk wc.drew qr 77 #[.int .i64 c.a,.int .i64 c.s]):=HRB
           have HWd : Hid (Below w.heap.size w wc.drew):=HW.out.drew
           clear g0 g1 hl1 hl2 hwn hwn2 HQ HRB HW
           generalize wc.drew=w6 at HQd HRBd HWd ⊢
           have c0 : w6.cell? ⟨w.heap.size,0,none⟩=some (.int .i64 c.a):=HQd.out.cell 0
           have c1 : w6.cell? ⟨w.heap.size,1,none⟩=some (.int .i64 c.s):=HQd.out.cell 1
           have c2 : w6.cell? ⟨w.heap.size,2,none⟩=some (.int .i64 c.st):=HQd.out.cell 2
           have c3 : w6.cell? ⟨w.heap.size,3,none⟩=some (.slice c.DA c.deps.length c.DC):=HQd.out.cell 3
           have c4 : w6.cell? ⟨w.heap.size,4,none⟩=some (.slice c.OA c.ops.length c.OC):=HQd.out.cell 4
           have hco:=err_ok HE0.out
           have C4:=clone_any c w6 ((HCI.out.keep fun k hk=>HWd.out.block k hk).more fun k hk=>Nat.lt_of_lt_of_le hk HWd.out.size) (by have:=hco.2.2.2;omega) (by have:=hco.2.2.1;omega) (fun o ho=>by have:=err_ll HE0.out o ho;omega)
           unfold ChD.v at C4
           clear hco
           go_wp2_with fail
           go_at_call 92
           refine C4.mono ?_
           rintro e w7 ⟨c',rfl,hcb,hci,hb⟩
           have HCB:=Lib.hid hcb
           have HCN : Hid (ChIn (fun k=>w6.heap.size≤k∧k < w7.heap.size) w7 c'):=hci
           have HQ7:=Lib.hid (HQd.out.keep (hb.block _ HQd.out.lt))
           have HRB7:=Lib.hid (HRBd.out.keep (hb.block _ HRBd.out.lt))
           have HW7 : Hid (Below w.heap.size w w7):=HWd.out.trans (hb.mono HWd.out.size)
           have HS6 : Hid (w.heap.size < w6.heap.size∧qr < w6.heap.size):=⟨HQd.out.lt,HRBd.out.lt⟩
           have HQN : Hid (qr≠w.heap.size):=fun e=>by have:=HQRN.out;omega
           clear C4 hcb hci hb c0 c1 c2 c3 c4 HQd HRBd HWd
           have c0 : w7.cell? ⟨w.heap.size,0,none⟩=some (.int .i64 c.a):=HQ7.out.cell 0
           have c1 : w7.cell? ⟨w.heap.size,1,none⟩=some (.int .i64 c.s):=HQ7.out.cell 1
           have c2 : w7.cell? ⟨w.heap.size,2,none⟩=some (.int .i64 c.st):=HQ7.out.cell 2
           have c3 : w7.cell? ⟨w.heap.size,3,none⟩=some (.slice c.DA c.deps.length c.DC):=HQ7.out.cell 3
           have c4 : w7.cell? ⟨w.heap.size,4,none⟩=some (.slice c.OA c.ops.length c.OC):=HQ7.out.cell 4
           have f0:=HQ7.out.frozen 0
           have f1:=HQ7.out.frozen 1
           have f2:=HQ7.out.frozen 2
           have f3:=HQ7.out.frozen 3
           have f4:=HQ7.out.frozen 4
           go_upto_region 15 with (refine wpList_store_mid rfl 82 (.tmp 3) (.tmp 64) rfl w.heap.size 0 #[.int .i64 c'.a,.int .i64 c'.s,.int .i64 c'.st,.slice c'.DA c'.deps.length c'.DC,.slice c'.OA c'.ops.length c'.OC] rfl rfl (Blk.there HQ7.out rfl) info_ch (ch_one _ _ _ _ _ _ _ _ _) ?_)
           try simp only [Act.put,List.setIfInBounds_toArray,List.set_cons_zero,List.set_cons_succ]
           change Code.wp _ _ _ _ (w7.setCells w.heap.size 0 [.int .i64 c'.a,.int .i64 c'.s,.int .i64 c'.st,.slice c'.DA c'.deps.length c'.DC,.slice c'.OA c'.ops.length c'.OC])
           have hch8 : Chg (fun k=>k=w.heap.size) w7 (w7.setCells w.heap.size 0 [.int .i64 c'.a,.int .i64 c'.s,.int .i64 c'.st,.slice c'.DA c'.deps.length c'.DC,.slice c'.OA c'.ops.length c'.OC]):=chg_setCells _ _ (Chg.refl w7)
           have HQ8 : Hid (Blk (w7.setCells w.heap.size 0 [.int .i64 c'.a,.int .i64 c'.s,.int .i64 c'.st,.slice c'.DA c'.deps.length c'.DC,.slice c'.OA c'.ops.length c'.OC]) w.heap.size 82 #[.int .i64 c'.a,.int .i64 c'.s,.int .i64 c'.st,.slice c'.DA c'.deps.length c'.DC,.slice c'.OA c'.ops.length c'.OC]):=HQ7.out.set5 (.int .i64 c'.a) (.int .i64 c'.s) (.int .i64 c'.st) (.slice c'.DA c'.deps.length c'.DC) (.slice c'.OA c'.ops.length c'.OC)
           have HW8 : Hid (Below w.heap.size w (w7.setCells w.heap.size 0 [.int .i64 c'.a,.int .i64 c'.s,.int .i64 c'.st,.slice c'.DA c'.deps.length c'.DC,.slice c'.OA c'.ops.length c'.OC])):=Below.set5 (g:=w.heap.size) HW7.out (Nat.le_refl _) (.int .i64 c'.a) (.int .i64 c'.s) (.int .i64 c'.st) (.slice c'.DA c'.deps.length c'.DC) (.slice c'.OA c'.ops.length c'.OC)
           have HRB8:=Lib.hid (HRB7.out.keep (hch8.block _ HRB7.out.lt HQN.out))
           have HCN8 : Hid (ChIn (fun k=>w6.heap.size≤k∧k < (w7.setCells w.heap.size 0 [.int .i64 c'.a,.int .i64 c'.s,.int .i64 c'.st,.slice c'.DA c'.deps.length c'.DC,.slice c'.OA c'.ops.length c'.OC]).heap.size) (w7.setCells w.heap.size 0 [.int .i64 c'.a,.int .i64 c'.s,.int .i64 c'.st,.slice c'.DA c'.deps.length c'.DC,.slice c'.OA c'.ops.length c'.OC]) c'):=(HCN.out.keep fun k hk=>hch8.block _ hk.2 (fun e=>by have:=HS6.out;have e : k=w.heap.size:=e;have:=hk.1;omega)).more fun k hk=>⟨hk.1,Nat.lt_of_lt_of_le hk.2 hch8.size⟩
           clear hch8 HQ7 HW7 HRB7 HCN c0 c1 c2 c3 c4 f0 f1 f2 f3 f4
           generalize (w7.setCells w.heap.size 0 [.int .i64 c'.a,.int .i64 c'.s,.int .i64 c'.st,.slice c'.DA c'.deps.length c'.DC,.slice c'.OA c'.ops.length c'.OC])=w8 at HQ8 HW8 HRB8 HCN8 ⊢
           obtain ⟨ec1,ec2,ec3⟩:=base_same HCB.out
           have HE2 : Hid (c'.err=0):=ec1.trans HE0.out
           have HR2 : Hid (c'.rf=c.rf):=ec2
           have HV2 : Hid (∀ o∈c'.ops,(Lit.int .i64 o.vn).wf=true):=ec3 HV.out
           have HN1 : Hid (findC L c'.rf=none):=by show _=_;rw [HR2.out];exact HNN.out.1
           have HN2 : Hid (findC W c'.rf=none):=by show _=_;rw [HR2.out];exact HNN.out.2
           clear ec1 ec2 ec3
           have HP8:=Lib.hid (HB.out.below HW8.out)
           have c0 : w8.cell? ⟨w.heap.size,0,none⟩=some (.int .i64 c'.a):=HQ8.out.cell 0
           have c1 : w8.cell? ⟨w.heap.size,1,none⟩=some (.int .i64 c'.s):=HQ8.out.cell 1
           have c2 : w8.cell? ⟨w.heap.size,2,none⟩=some (.int .i64 c'.st):=HQ8.out.cell 2
           have c3 : w8.cell? ⟨w.heap.size,3,none⟩=some (.slice c'.DA c'.deps.length c'.DC):=HQ8.out.cell 3
           have c4 : w8.cell? ⟨w.heap.size,4,none⟩=some (.slice c'.OA c'.ops.length c'.OC):=HQ8.out.cell 4
           have C5:=ready_any L c' (err_deps HE2.out) g bh (.map (some bw)) (.map (some bb)) w8 (HLX.out▸HP8.out.hb) (HCN8.out.more fun k hk=>hk.2)
           unfold ChD.v at C5
           go_wp2_with (refine wpList_load_mid rfl 82 (.tmp 3) rfl w.heap.size 0 rfl [.int .i64 c'.a,.int .i64 c'.s,.int .i64 c'.st,.slice c'.DA c'.deps.length c'.DC,.slice c'.OA c'.ops.length c'.OC] _ (Blk.range HQ8.out) Tryz.underlying82 rfl info_ch ?_)
           go_at_call 128
           refine C5.mono ?_
           rintro e w9 ⟨rfl,hb⟩
           have HQ9:=Lib.hid (HQ8.out.keep (hb.block _ HQ8.out.lt))
           have HRB9:=Lib.hid (HRB8.out.keep (hb.block _ HRB8.out.lt))
           have HW9 : Hid (Below w.heap.size w w9):=HW8.out.trans (hb.mono HW8.out.size)
           have HP9:=Lib.hid (HP8.out.below hb)
           have HCN9 : Hid (ChIn (fun k=>w6.heap.size≤k∧k < w9.heap.size) w9 c'):=(HCN8.out.keep fun k hk=>hb.block k hk.2).more fun k hk=>⟨hk.1,Nat.lt_of_lt_of_le hk.2 hb.size⟩
           have HNF : Hid (∀ k,w6.heap.size≤k→k≠bh∧k≠bw∧k≠bb):=fun k hk=>by
            have h1:=MapL.lt HB.out.mh
            have h2:=MapL.lt HB.out.mw
            have h3:=MapL.lt HB.out.mb
            have:=HS6.out
            omega
           clear C5 hb c0 c1 c2 c3 c4 HQ8 HW8 HRB8 HCN8 HP8
           cases hrd : readyP L c' with
           | false =>
             have HT : Hid (takeP L W c'=((L,W++[c']),0)):=takeP_wait HE2.out HN1.out HN2.out HLE.out hrd
             clear hrd
             have c0 : w9.cell? ⟨w.heap.size,0,none⟩=some (.int .i64 c'.a):=HQ9.out.cell 0
             have c1 : w9.cell? ⟨w.heap.size,1,none⟩=some (.int .i64 c'.s):=HQ9.out.cell 1
             have c2 : w9.cell? ⟨w.heap.size,2,none⟩=some (.int .i64 c'.st):=HQ9.out.cell 2
             have c3 : w9.cell? ⟨w.heap.size,3,none⟩=some (.slice c'.DA c'.deps.length c'.DC):=HQ9.out.cell 3
             have c4 : w9.cell? ⟨w.heap.size,4,none⟩=some (.slice c'.OA c'.ops.length c'.OC):=HQ9.out.cell 4
             have g1 : w9.cell? ⟨g,1,none⟩=some (.map (some bw)):=HP9.out.blk.cell 1
             have q0 : w9.cell? ⟨qr,0,none⟩=some (.int .i64 c.a):=HRB9.out.cell 0
             have q1 : w9.cell? ⟨qr,1,none⟩=some (.int .i64 c.s):=HRB9.out.cell 1
             go_upto_region 16 with fail
             refine wp_region_still_tail 6 (by kernel_rfl) (by kernel_rfl) ?_
             simp only [List.take_succ_cons,List.take_zero,List.drop_succ_cons,List.drop_zero]
             repeat (first | (refine wpStill_want rfl (fun K hK=>?_);go_simp;refine hK _ ?_;clear hK K) | (refine wpStill_skip rfl ?_;go_frame))
             refine wpStill_nil ?_
             change wpList _ _ _ _ _ w9.drew
             have HPd:=Lib.hid (HP9.out.below (Below.refl _ w9).drew)
             have HWd : Hid (Below w.heap.size w w9.drew):=HW9.out.drew
             have HCd : Hid (ChIn (fun k=>w6.heap.size≤k∧k < w9.heap.size) w9.drew c'):=HCN9.out.keep fun k hk=>rfl
             have HSd : Hid (w9.heap.size=w9.drew.heap.size):=rfl
             clear c0 c1 c2 c3 c4 g1 q0 q1 HQ9 HRB9 HW9 HP9 HCN9
             rw [HSd.out] at HCd
             generalize w9.drew=w10 at HPd HWd HCd ⊢
             clear HSd
             have hst:=HasL.add (c:=c') HPd.out.mw (rf_i64 HE2.out) (findC_none.1 HN2.out) (by have:=HI.out.most;omega)
             rw [HR2.out] at hst
             unfold ChD.v at hst
             go_wp2_with (refine wpL_store _ rfl (.tmp 72) (.tmp 73) (.tmp 74) 159 (.inl rfl) bw (.agg #[.int .i64 c.a,.int .i64 c.s]) (.agg #[.int .i64 c'.a,.int .i64 c'.s,.int .i64 c'.st,.slice c'.DA c'.deps.length c'.DC,.slice c'.OA c'.ops.length c'.OC]) rfl rfl rfl _ hst ?_;rintro w11 ⟨hm11,ht11⟩)
             have hg11:=ht11.grown
             have hch : Chg (fun k=>k=bw) w10 w11:=(Chg.refl w10).grown hg11 (fun q hq=>by cases hq;exact .inl rfl)
             have HP11:=Lib.hid (HPd.out.waits hch hm11 (fun y hy=>by
              rcases List.mem_append.1 hy with h | h
              · exact .inl h
              · rw [List.mem_singleton.1 h];exact .inr (HCd.out.more fun k hk=>⟨hk.2,HNF.out k hk.1⟩)))
             have HC11 : Hid (Chg (fun k=>k=bh∨k=bw∨k=bb) w w11):=(Chg.of_below HWd.out).trans hch fun _ _ h=>.inr (.inl h)
             have HF11 : Hid (ChIn (fun k=>w.heap.size≤k) w11 c'):=(HCd.out.keep fun k hk=>hch.block k hk.2 (HNF.out k hk.1).2.1).more fun k hk=>by have:=HS6.out;have:=hk.1;omega
             clear hst hm11 ht11 hg11 hch
             try simp only [Act.put,List.setIfInBounds_toArray,List.set_cons_zero,List.set_cons_succ]
             go_wp2_with fail
             try simp only [Exit.jump]
             go_ret
             exact ⟨c',X,HCB.out,by rw [HT.out];rfl,by rw [HT.out];exact HP11.out,by rw [HT.out];exact HLX.out,HC11.out,fun x hx=>.inl hx,by
              rw [HT.out]
              intro y hy
              rcases hy with h | h
              · exact .inl h
              · rcases List.mem_append.1 h with h | h
                · exact .inr (.inl h)
                · rw [List.mem_singleton.1 h];exact .inr (.inr HF11.out)⟩
           | true =>
             have HRD:=Lib.hid hrd
             clear hrd
             have c0 : w9.cell? ⟨w.heap.size,0,none⟩=some (.int .i64 c'.a):=HQ9.out.cell 0
             have c1 : w9.cell? ⟨w.heap.size,1,none⟩=some (.int .i64 c'.s):=HQ9.out.cell 1
             have c2 : w9.cell? ⟨w.heap.size,2,none⟩=some (.int .i64 c'.st):=HQ9.out.cell 2
             have c3 : w9.cell? ⟨w.heap.size,3,none⟩=some (.slice c'.DA c'.deps.length c'.DC):=HQ9.out.cell 3
             have c4 : w9.cell? ⟨w.heap.size,4,none⟩=some (.slice c'.OA c'.ops.length c'.OC):=HQ9.out.cell 4
             have hlen : X.length≤1000:=by have h1:=HI.out.most;have h2:=congrArg List.length HLX.out;simp only [List.length_map] at h2;omega
             have C6:=fits_any X W c' g bh bw bb w9 HP9.out (HLX.out▸HI.out.bk) hlen (HCN9.out.more fun k hk=>hk.2) HE2.out (HLX.out▸HRD.out)
             rw [HLX.out] at C6
             unfold ChD.v at C6
             go_wp2_with (refine wpList_load_mid rfl 82 (.tmp 3) rfl w.heap.size 0 rfl [.int .i64 c'.a,.int .i64 c'.s,.int .i64 c'.st,.slice c'.DA c'.deps.length c'.DC,.slice c'.OA c'.ops.length c'.OC] _ (Blk.range HQ9.out) Tryz.underlying82 rfl info_ch ?_)
             go_at_call 129
             refine C6.mono ?_
             rintro e w10 ⟨rfl,hb⟩
             have HQ10:=Lib.hid (HQ9.out.keep (hb.block _ HQ9.out.lt))
             have HW10 : Hid (Below w.heap.size w w10):=HW9.out.trans (hb.mono HW9.out.size)
             have HP10:=Lib.hid (HP9.out.below hb)
             have HCN10 : Hid (ChIn (fun k=>w6.heap.size≤k∧k < w10.heap.size) w10 c'):=(HCN9.out.keep fun k hk=>hb.block k hk.2).more fun k hk=>⟨hk.1,Nat.lt_of_lt_of_le hk.2 hb.size⟩
             clear C6 hb c0 c1 c2 c3 c4 HQ9 HW9 HP9 HCN9 HRB9
             cases hft : fitsP L c' with
             | false =>
               have HT : Hid (takeP L W c'=((L,W),7)):=takeP_bad HE2.out HN1.out HN2.out HLE.out HRD.out hft
               clear hft
               go_wp2_with fail
               try simp only [Exit.jump]
               go_ret
               exact ⟨c',X,HCB.out,by rw [HT.out];rfl,by rw [HT.out];exact HB.out.below HW10.out,by rw [HT.out];exact HLX.out,Chg.of_below HW10.out,fun x hx=>.inl hx,by rw [HT.out];exact fun y hy=>hy.elim .inl fun h=>.inr (.inl h)⟩
             | true =>
               have HFT:=Lib.hid hft
               have HT : Hid (takeP L W c'=(settle W.length (L++[c']) W,0)):=takeP_go HE2.out HN1.out HN2.out HLE.out HRD.out hft
               clear hft
               have c0 : w10.cell? ⟨w.heap.size,0,none⟩=some (.int .i64 c'.a):=HQ10.out.cell 0
               have c1 : w10.cell? ⟨w.heap.size,1,none⟩=some (.int .i64 c'.s):=HQ10.out.cell 1
               have c2 : w10.cell? ⟨w.heap.size,2,none⟩=some (.int .i64 c'.st):=HQ10.out.cell 2
               have c3 : w10.cell? ⟨w.heap.size,3,none⟩=some (.slice c'.DA c'.deps.length c'.DC):=HQ10.out.cell 3
               have c4 : w10.cell? ⟨w.heap.size,4,none⟩=some (.slice c'.OA c'.ops.length c'.OC):=HQ10.out.cell 4
               have C7:=put_any X W c' g bh bw bb w10 HP10.out (HLX.out▸HI.out.bk) hlen (HCN10.out.more fun k hk=>⟨hk.2,HNF.out k hk.1⟩) HE2.out (HLX.out▸HRD.out) (HLX.out▸findC_none.1 HN1.out)
               unfold ChD.v at C7
               go_wp2_with (refine wpList_load_mid rfl 82 (.tmp 3) rfl w.heap.size 0 rfl [.int .i64 c'.a,.int .i64 c'.s,.int .i64 c'.st,.slice c'.DA c'.deps.length c'.DC,.slice c'.OA c'.ops.length c'.OC] _ (Blk.range HQ10.out) Tryz.underlying82 rfl info_ch ?_)
               go_at_call 130
               refine C7.mono ?_
               rintro e w11 ⟨rfl,⟨mk,Sk,hp11,hmk⟩,hch⟩
               have HP11:=Lib.hid hp11
               have HTP : Hid (takeP L W c'=(settle W.length ((X++[(c',mk,Sk)]).map Prod.fst) W,0)):=by show _=_;rw [HT.out,List.map_append,HLX.out];rfl
               have HIN : Hid (Inv ((X++[(c',mk,Sk)]).map Prod.fst) W):=by
                show Inv _ _
                rw [List.map_append,HLX.out]
                exact HI.out.start HE2.out HV2.out HN1.out HN2.out HRD.out HFT.out (Nat.lt_of_not_le HLE.out)
               have HC11 : Hid (Chg (fun k=>k=bh∨k=bw∨k=bb) w w11):=(Chg.of_below HW10.out).trans hch fun i hi h=>h.elim .inl fun h=>.inr (.inr h)
               have HFX : Hid (∀ z∈X++[(c',mk,Sk)],z∈X∨w.heap.size≤z.2.1):=fun z hz=>by
                rcases List.mem_append.1 hz with h | h
                · exact .inl h
                · rw [List.mem_singleton.1 h];exact .inr (Nat.le_trans HW10.out.size hmk)
               have HFY : Hid (∀ y,y∈(X++[(c',mk,Sk)]).map Prod.fst∨y∈W→y∈L∨y∈W∨y=c'):=fun y hy=>by
                rw [List.map_append,HLX.out] at hy
                rcases hy with h | h
                · rcases List.mem_append.1 h with h | h
                  · exact .inl h
                  · exact .inr (.inr (List.mem_singleton.1 h))
                · exact .inr (.inl h)
               have HFC : Hid (∃ V,ChIn (fun k=>w.heap.size≤k) V c'):=⟨w10,HCN10.out.more fun k hk=>by have:=HS6.out;have:=hk.1;omega⟩
               clear C7 hp11 hmk hch c0 c1 c2 c3 c4
               go_wp2_with fail
               go_step3
               go_step
               go_step
               first
                | (refine AGN.out _ _ ?_;exact ⟨rfl,rfl,rfl,c',X++[(c',mk,Sk)],W,HCB,HTP,HP11,HIN,HC11,HFX,HFY,HFC⟩)
                | (go_step;refine AGN.out _ _ ?_;exact ⟨rfl,rfl,rfl,c',X++[(c',mk,Sk)],W,HCB,HTP,HP11,HIN,HC11,HFX,HFY,HFC⟩)
end Go.Proofs.YtmpkejflgpodkaaGreatDoor
