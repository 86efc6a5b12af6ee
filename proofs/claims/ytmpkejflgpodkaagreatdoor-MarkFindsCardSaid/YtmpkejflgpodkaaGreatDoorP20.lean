/- Contracts of package state: Do. -/
import Derived.Test.YtmpkejflgpodkaaGreatDoorP19
import Derived.Test.YtmpkejflgpodkaaGreatDoorP1
import Derived.Deep.DeepCutAuto
import Derived.Deep.CutBlock
set_option maxHeartbeats 16000000
set_option maxRecDepth 20000
set_option linter.unusedVariables false
set_option linter.unusedSimpArgs false
namespace Go.Proofs.YtmpkejflgpodkaaGreatDoor
open Go.ChangeShapes Go.WideShapes Go.ChangeAt Go.RowKit Go.Proofs.YtmpkejflgpodkaaGreatDoor.Loc
theorem build_where3(a b:Int)(k:ByteArray)(c d:Int)(w:World):(Instr.build 126 #[(0,.agg #[.int .i64 a,.int .i64 b]),(1,.string k),(2,.agg #[.int .i64 c,.int .i64 d])]).run Tryz.prog w=.ok (.agg #[.int .i64 a,.int .i64 b,.string k,.int .i64 c,.int .i64 d]) w:=by kernel_rfl
theorem map_isnil(b:Option Nat)(w:World):(binOp .eql 132 (.map b) (.map none)).run Tryz.prog w=.ok (.bool b.isNone) w:=by cases b<;>kernel_rfl
theorem step_store{P:Program}{w:World}{ops:Array Oper}{o:Oper}{a:Act}{K:Act→World→Prop}{Q:Exit→Act→World→Prop}{E:Prop}(hgd:o.guard=none)(m x v:Operand)(t:TypeId)(ho:o.op=.mapUpdate t m x v)(mv key vv:Value)(hm:a.eval m=mv)(hx:a.eval x=key)(hv:a.eval v=vv)(R:World→Prop)
 (hr:∃w',(Instr.mapUpdate t mv key vv).run P w=.ok () w'∧R w') (h:∀w',R w'→K (a.put o.dst undef) w') :
 if Region.wanted o (yielded ops a.tmps)=true then Oper.wp P o a w K Q else E:=by
 have hw:Region.wanted o (yielded ops a.tmps)=true:=by simp[Region.wanted,hgd]
 rw[if_pos hw];obtain⟨w',hrun,hR⟩:=hr
 unfold Oper.wp execOp;simp only[ho,xG,Sem.run_pure,xT,hm,hx,hv,hrun];exact h w' hR
structure DoOk(B:Nat)(w:World)(K:List OpI)(x:OpI):Prop where
 pr:aC (fun k=>k<B) w 2 x.1.A x.1.l.length (aE x.1.l)
 pl:x.1.l.length≤100000
 new:x.2∉K.map Prod.snd
 nz:x.2≠(0,0)
 id:I64R x.2
 ob:I64R (eG x)
 el:I64R (elP x)
 ps:∀p∈x.1.l,I64R p
 key:x.1.key.size≤maxLen
 len:K.length≤100000
theorem stDo_any(x:OpI){K:List OpI}{B g kb vb cb lb:Nat}{V:dM}{C:dE}(w:World)(hm:SMem B w g kb vb cb lb K V C)(hk:DoOk B w K x):
 Calls Tryz.prog 86 #[.pointer (some ⟨g,0,none⟩),opV x.1,.agg #[.int .i64 x.2.1,.int .i64 x.2.2]] w fun e w'=>e=.returned (.tuple #[])∧∃V' C',SMem B w' g kb vb cb lb (K++[x]) V' C'∧Below B w w'∧Chg (fun k=>k∈dL g kb vb cb lb V C) w w':=by
 have HOK:=Hi hk;have HIV:=Hi hm.isV;have HIC:=Hi hm.isC;have hBw:B≤w.heap.size:=by have h1:=hm.low g (by simp[dL]);have h2:=hm.blk.lt;omega
 obtain⟨q,hq⟩:∃q,w.heap.size=q:=⟨_,rfl⟩
 have hq0:w.heap.size≤q:=Nat.le_of_eq hq;have HQ0:=Hi hq0;obtain⟨M,hM⟩:∃M,dL g kb vb cb lb V C=M:=⟨_,rfl⟩
 have HM:=Hi hM;have HCM:Hid (∀U,Chg (fun k=>k∈M) w U→Chg (fun k=>k∈dL g kb vb cb lb V C) w U):=fun U h=>by rw[hM];exact h
 clear hM hq0;have hba:=(sB B w).alloc hBw (.cells #[.int .i64 x.1.k,.int .i64 x.1.on,.int .i64 x.1.oa,.string x.1.key,.int .i64 x.1.en,.int .i64 x.1.ea,.bool x.1.ins,.int .i64 x.1.vk,.int .i64 x.1.vn,.string x.1.vt,.int .i64 x.1.va,.int .i64 x.1.vb,.slice x.1.A x.1.l.length x.1.c] 88);have hbb:=hba.alloc (by simp;omega) (.cells #[.int .i64 x.2.1,.int .i64 x.2.2] 24);have hf:Below w.heap.size w ((w.alloc (.cells #[.int .i64 x.1.k,.int .i64 x.1.on,.int .i64 x.1.oa,.string x.1.key,.int .i64 x.1.en,.int .i64 x.1.ea,.bool x.1.ins,.int .i64 x.1.vk,.int .i64 x.1.vn,.string x.1.vt,.int .i64 x.1.va,.int .i64 x.1.vb,.slice x.1.A x.1.l.length x.1.c] 88)).alloc (.cells #[.int .i64 x.2.1,.int .i64 x.2.2] 24)):=((sB _ w).alloc (sC _) _).alloc (by simp) _;have hS:=hm.sg.below hf;have hO:=Blk.new w 88 #[.int .i64 x.1.k,.int .i64 x.1.on,.int .i64 x.1.oa,.string x.1.key,.int .i64 x.1.en,.int .i64 x.1.ea,.bool x.1.ins,.int .i64 x.1.vk,.int .i64 x.1.vn,.string x.1.vt,.int .i64 x.1.va,.int .i64 x.1.vb,.slice x.1.A x.1.l.length x.1.c];have hI:=Blk.new (w.alloc (.cells #[.int .i64 x.1.k,.int .i64 x.1.on,.int .i64 x.1.oa,.string x.1.key,.int .i64 x.1.en,.int .i64 x.1.ea,.bool x.1.ins,.int .i64 x.1.vk,.int .i64 x.1.vn,.string x.1.vt,.int .i64 x.1.va,.int .i64 x.1.vb,.slice x.1.A x.1.l.length x.1.c] 88)) 24 #[.int .i64 x.2.1,.int .i64 x.2.2];have hO2:=hO.keep (w':=(w.alloc (.cells #[.int .i64 x.1.k,.int .i64 x.1.on,.int .i64 x.1.oa,.string x.1.key,.int .i64 x.1.en,.int .i64 x.1.ea,.bool x.1.ins,.int .i64 x.1.vk,.int .i64 x.1.vn,.string x.1.vt,.int .i64 x.1.va,.int .i64 x.1.vb,.slice x.1.A x.1.l.length x.1.c] 88)).alloc (.cells #[.int .i64 x.2.1,.int .i64 x.2.2] 24)) (((sB _ _).alloc (sC _) _).block _ hO.lt);have hlt:=hm.sg.lt;rw[World.size_alloc,hq]at hI;rw[hq]at hO2 hBw hlt;have HLT:=Hi hlt;have HBQ:=Hi hBw;have HS:=Hi hS;have HO:=Hi hO2;have HI:=Hi hI;have HB:=Hi hbb;have HCH:Hid (Chg (fun k=>k∈M) w ((w.alloc (.cells #[.int .i64 x.1.k,.int .i64 x.1.on,.int .i64 x.1.oa,.string x.1.key,.int .i64 x.1.en,.int .i64 x.1.ea,.bool x.1.ins,.int .i64 x.1.vk,.int .i64 x.1.vn,.string x.1.vt,.int .i64 x.1.va,.int .i64 x.1.vb,.slice x.1.A x.1.l.length x.1.c] 88)).alloc (.cells #[.int .i64 x.2.1,.int .i64 x.2.2] 24))):=((Chg.refl w).alloc _).alloc _;have HSZ:Hid (((w.alloc (.cells #[.int .i64 x.1.k,.int .i64 x.1.on,.int .i64 x.1.oa,.string x.1.key,.int .i64 x.1.en,.int .i64 x.1.ea,.bool x.1.ins,.int .i64 x.1.vk,.int .i64 x.1.vn,.string x.1.vt,.int .i64 x.1.va,.int .i64 x.1.vb,.slice x.1.A x.1.l.length x.1.c] 88)).alloc (.cells #[.int .i64 x.2.1,.int .i64 x.2.2] 24)).heap.size=q+2):=by show _=_;rw[World.size_alloc,World.size_alloc,hq]
 unfold opV;clear hm hk hba hbb hf hS hO hI hO2 hlt hBw;go_enter Tryz.func86,Tryz.ntmps86;go_upto_region 1 with fail
 clear hq;generalize (w.alloc (.cells #[.int .i64 x.1.k,.int .i64 x.1.on,.int .i64 x.1.oa,.string x.1.key,.int .i64 x.1.en,.int .i64 x.1.ea,.bool x.1.ins,.int .i64 x.1.vk,.int .i64 x.1.vn,.string x.1.vt,.int .i64 x.1.va,.int .i64 x.1.vb,.slice x.1.A x.1.l.length x.1.c] 88)).alloc (.cells #[.int .i64 x.2.1,.int .i64 x.2.2] 24)=w1 at HO HI HB HSZ HS HCH ⊢;have hbw:=fun w=>build_where3 x.1.on x.1.oa x.1.key x.1.en x.1.ea w
 have c1:=cZ HO.o 1 rfl;have c2:=cZ HO.o 2 rfl;have c3:=cZ HO.o 3 rfl;have c4:=cZ HO.o 4 rfl;have c5:=cZ HO.o 5 rfl;have c6:=cZ HO.o 6 rfl;go_upto_region 2 with fail
 rw[HSZ.o];have HD:Hid (DoM B q M w (w1.alloc (.cells #[.int .i64 x.1.on,.int .i64 x.1.oa,.string x.1.key,.int .i64 x.1.en,.int .i64 x.1.ea] 126)) x (elP x) g kb vb cb lb (fN K) V C (iB K)):=by
  have hb2:Below w1.heap.size w1 (w1.alloc (.cells #[.int .i64 x.1.on,.int .i64 x.1.oa,.string x.1.key,.int .i64 x.1.en,.int .i64 x.1.ea] 126)):=(sB _ w1).alloc (sC _) _;have h3:=Blk.new w1 126 #[.int .i64 x.1.on,.int .i64 x.1.oa,.string x.1.key,.int .i64 x.1.en,.int .i64 x.1.ea];rw[HSZ.o]at h3;have hB2:B≤w1.heap.size:=by rw[HSZ.o];have:=HBQ.o;omega
  exact⟨HS.o.below hb2,HO.o.keep (hb2.block _ HO.o.lt),HI.o.keep (hb2.block _ HI.o.lt),h3,fun k hk=>.inl (HLT.o k hk),HB.o.alloc hB2 _,(by rw[World.size_alloc];omega),(fun k hk _=>HM.o▸hk),HCH.o.alloc _,HQ0.o⟩
 clear c1 c2 c3 c4 c5 c6 hbw HO HI HB HS HSZ HLT;generalize w1.alloc (.cells #[.int .i64 x.1.on,.int .i64 x.1.oa,.string x.1.key,.int .i64 x.1.en,.int .i64 x.1.ea] 126)=w2 at HD ⊢;obtain⟨ib,hib⟩:∃b,x.1.ins=b:=⟨_,rfl⟩
 have HIB:=Hi hib;have c6:w2.cell? ⟨q,6,none⟩=some (.bool ib):=(by rw[←hib];exact HD.o.bo.cell 6);clear hib;go_upto_if 20 with fail
 go_cut [] (fun wc=>∃C',Hid (C'.map (fun y=>(y.1,y.2.2))=lZ (K++[x]))∧Hid (DoM B q M w wc x (dI x) g kb vb cb lb (fN K) V C' (iB (K++[x]))))
 case first =>
  cases ib with
  |false =>
   have HCN:Hid (C.map (fun y=>(y.1,y.2.2))=lZ (K++[x])):=by show _=_;rw[newC_do,HIB.o,HIC.o];rfl
   have HDN:Hid (DoM B q M w w2 x (dI x) g kb vb cb lb (fN K) V C (iB (K++[x]))):=by
    have h1:dI x=elP x:=by unfold dI;rw[HIB.o];rfl
    show DoM B q M w w2 x (dI x) g kb vb cb lb (fN K) V C (iB (K++[x]));rw[h1,insL_do,HIB.o];exact HD.o
   go_wp2_with fail
   go_meet
   case rel=>exact⟨C,HCN,HDN⟩
  |true =>
   go_upto_region 3 with fail
   go_cut [] (fun wc=>∃C',Hid (C'.map (fun y=>(y.1,y.2.2))=lS (C.map fun y=>(y.1,y.2.2)) (wh0 x) x.2)∧Hid (DoM B q M w wc x (elP x) g kb vb cb lb (fN K) V C' (iB K)))
   case first =>
    obtain⟨SS,hSS⟩:∃SS:World→Prop,SS=fun V=>V.cell? ⟨g,2,none⟩=some (.map (some cb))∧V.cell? ⟨q+2,0,none⟩=some (.int .i64 x.1.on)∧V.cell? ⟨q+2,1,none⟩=some (.int .i64 x.1.oa)∧V.cell? ⟨q+2,2,none⟩=some (.string x.1.key)∧V.cell? ⟨q+2,3,none⟩=some (.int .i64 x.1.en)∧V.cell? ⟨q+2,4,none⟩=some (.int .i64 x.1.ea)∧V.cell? ⟨q+1,0,none⟩=some (.int .i64 x.2.1)∧V.cell? ⟨q+1,1,none⟩=some (.int .i64 x.2.2):=⟨_,rfl⟩
    have HSI:∀V,(V.cell? ⟨g,2,none⟩=some (.map (some cb))∧V.cell? ⟨q+2,0,none⟩=some (.int .i64 x.1.on)∧V.cell? ⟨q+2,1,none⟩=some (.int .i64 x.1.oa)∧V.cell? ⟨q+2,2,none⟩=some (.string x.1.key)∧V.cell? ⟨q+2,3,none⟩=some (.int .i64 x.1.en)∧V.cell? ⟨q+2,4,none⟩=some (.int .i64 x.1.ea)∧V.cell? ⟨q+1,0,none⟩=some (.int .i64 x.2.1)∧V.cell? ⟨q+1,1,none⟩=some (.int .i64 x.2.2))→SS V:=fun V h=>by rw[hSS];exact h
    have HSO:∀V,SS V→(V.cell? ⟨g,2,none⟩=some (.map (some cb))∧V.cell? ⟨q+2,0,none⟩=some (.int .i64 x.1.on)∧V.cell? ⟨q+2,1,none⟩=some (.int .i64 x.1.oa)∧V.cell? ⟨q+2,2,none⟩=some (.string x.1.key)∧V.cell? ⟨q+2,3,none⟩=some (.int .i64 x.1.en)∧V.cell? ⟨q+2,4,none⟩=some (.int .i64 x.1.ea)∧V.cell? ⟨q+1,0,none⟩=some (.int .i64 x.2.1)∧V.cell? ⟨q+1,1,none⟩=some (.int .i64 x.2.2)):=fun V h=>by rw[hSS]at h;exact h
    have HSI:=Hi HSI;have HSO:=Hi HSO;clear hSS;refine wp_region_held_drew (S:=SS) (by kernel_rfl) (HSI.o _ ⟨HD.o.drew.sg.blk.cell 2,HD.o.drew.bw.cell 0,HD.o.drew.bw.cell 1,HD.o.drew.bw.cell 2,HD.o.drew.bw.cell 3,HD.o.drew.bw.cell 4,HD.o.drew.bi.cell 0,HD.o.drew.bi.cell 1⟩) (fun hHeld=>?_);refine bA (i:=0) (v:=?_) rfl (by kernel_rfl) (by kernel_rfl) (by kernel_rfl) (fun _ _ _ h=>h) (Or.inl ⟨by rfl,?_⟩) hHeld ?_
    rotate_left
    ·(intro w _;go_simp;try with_reducible rfl)
    try simp only[Act.put,zA,zB,zC]
    refine bA (i:=1) (v:=?_) rfl (by kernel_rfl) (by kernel_rfl) (by kernel_rfl) (fun _ _ _ h=>h) (Or.inl ⟨by rfl,?_⟩) hHeld ?_
    rotate_left
    ·(intro w _;go_simp;try with_reducible rfl)
    try simp only[Act.put,zA,zB,zC]
    refine bA (i:=2) (v:=?_) rfl (by kernel_rfl) (by kernel_rfl) (by kernel_rfl) (fun _ _ _ h=>h) (Or.inl ⟨by rfl,?_⟩) hHeld ?_
    rotate_left
    ·(intro w _;go_simp;try with_reducible rfl)
    try simp only[Act.put,zA,zB,zC]
    refine bA (i:=3) (v:=?_) rfl (by kernel_rfl) (by kernel_rfl) (by kernel_rfl) (fun _ _ _ h=>h) (Or.inl ⟨by rfl,?_⟩) hHeld ?_
    rotate_left
    ·(intro w hSw;obtain⟨g2,-,-,-,-,-,-,-⟩:=HSO.o _ hSw;go_simp;try with_reducible rfl)
    try simp only[Act.put,zA,zB,zC]
    refine bA (i:=4) (v:=?_) rfl (by kernel_rfl) (by kernel_rfl) (by kernel_rfl) (fun _ _ _ h=>h) (Or.inl ⟨by rfl,?_⟩) hHeld ?_
    rotate_left
    ·(intro w hSw;obtain⟨-,w0,w1,w2,w3,w4,-,-⟩:=HSO.o _ hSw;go_simp;try with_reducible rfl)
    try simp only[Act.put,zA,zB,zC]
    refine bA (i:=5) (v:=?_) rfl (by kernel_rfl) (by kernel_rfl) (by kernel_rfl) (fun _ _ _ h=>h) (Or.inl ⟨by rfl,?_⟩) hHeld ?_
    rotate_left
    ·(intro w hSw;obtain⟨-,-,-,-,-,-,i0,i1⟩:=HSO.o _ hSw;go_simp;try with_reducible rfl)
    try simp only[Act.put,zA,zB,zC]
    refine wpAnyH_ready (rs:=[6]) (by kernel_rfl) (by simp) ?_;refine gN (i:=6) rfl (fun Kc hK=>?_) uX;go_simp;have HDa:Hid (DoM B q M w (w2.alloc (.cells #[.int .i64 x.2.1,.int .i64 x.2.2] 24)).drew x (elP x) g kb vb cb lb (fN K) V C (iB K)):=(HD.o.alloc _).drew;have HXa:Hid (Blk (w2.alloc (.cells #[.int .i64 x.2.1,.int .i64 x.2.2] 24)).drew w2.heap.size 24 #[.int .i64 x.2.1,.int .i64 x.2.2]):=Blk.new w2 _ _;refine hK.out _ _ (HSI.o _ ⟨HDa.o.sg.blk.cell 2,HDa.o.bw.cell 0,HDa.o.bw.cell 1,HDa.o.bw.cell 2,HDa.o.bw.cell 3,HDa.o.bw.cell 4,HDa.o.bi.cell 0,HDa.o.bi.cell 1⟩) (fun hHeld=>?_);clear hK Kc;try simp only[Act.put,zA,zB,zC]
    generalize (w2.alloc (.cells #[.int .i64 x.2.1,.int .i64 x.2.2] 24)).drew=wa at HDa HXa ⊢;refine wpAnyH_ready (rs:=[7]) (by kernel_rfl) (by simp) ?_;refine gN (i:=7) rfl (fun Kc hK=>?_) uX;obtain⟨u1,v0,c0,rs,hrun,ht1,hrow1,hrs,hv0,hthen⟩:=HDa.o.sg.kids_entry (p:=wh0 x) HOK.o.ob HOK.o.el HOK.o.key (by have h1:=(newC_len K).1;have h2:=HOK.o.len;rw[←HIC.o,sP]at h1;simp only[maxLen];omega) x.2
    have hrl:rs.length≤100000:=by
     have h2:=HOK.o.len;rcases hrs with rfl|⟨y,hy,rfl⟩
     ·simp
     ·have h1:=(newC_len K).2 (y.1,y.2.2) (by rw[←HIC.o];exact tY hy);simp only at h1;omega
    have hcbm:cb∈dL g kb vb cb lb V C:=aN.2 (by simp);have HD1:=Hi (DoT.of HDa.o hcbm ht1);clear hrs;refine step_entry (by rfl) (.tmp 24) (.tmp 25) 97 (by rfl) (.map (some cb)) (whV (wh0 x)) (by rfl) (by rfl) (fun v V1=>v=.tuple #[v0,.int .i64 (c0:Nat)]∧V1=u1) ⟨_,_,hrun,rfl,rfl⟩ ?_;rintro _ V1x ⟨rfl,hV1x⟩;rw[hV1x];clear hrun hV1x V1x;have HX1:=Hi (HXa.o.keep (bO ht1 HXa.o.lt (fun e=>by have:=HD.o.sg.lt _ hcbm;omega)));have HBL:Hid (Below u1.heap.size u1 u1):=sB _ _;refine hK.out _ _ (HSI.o _ ⟨HD1.o.bg.cell 2,HD1.o.bw.cell 0,HD1.o.bw.cell 1,HD1.o.bw.cell 2,HD1.o.bw.cell 3,HD1.o.bw.cell 4,HD1.o.bi.cell 0,HD1.o.bi.cell 1⟩) (fun hHeld=>?_);clear hK Kc;try simp only[Act.put,zA,zB,zC]
    refine bA (i:=8) (v:=?_) rfl (by kernel_rfl) (by kernel_rfl) (by kernel_rfl) (fun _ _ _ h=>h) (Or.inl ⟨by rfl,?_⟩) hHeld ?_
    rotate_left
    ·(intro w _;go_simp;try with_reducible rfl)
    try simp only[Act.put,zA,zB,zC]
    refine bA (i:=10) (v:=?_) rfl (by kernel_rfl) (by kernel_rfl) (by kernel_rfl) (fun _ _ _ h=>h) (Or.inl ⟨by rfl,?_⟩) hHeld ?_
    rotate_left
    ·(intro w _;go_simp;try with_reducible rfl)
    try simp only[Act.put,zA,zB,zC]
    obtain⟨i0,hi,hz0,hz1,hz2⟩:=info_parts oR
    have hro2:World.ownsRow u1 B 24 2 v0 rs.length (aE rs):=hrow1;refine wpAnyH_ready (rs:=[9]) (by kernel_rfl) (by simp) ?_;refine gN (i:=9) rfl (fun Kc hK=>?_) uX;refine bN _ (by rfl) (.tmp 26) (.tmp 28) 28 (by rfl) B 24 i0 _ 2 16 Tryz.underlying28 hi hz0 hz1 hz2 rfl (by omega) v0 rs.length (aE rs) (by rfl) hro2 _ (some ⟨w2.heap.size,0,none⟩) 1 1 [.int .i64 x.2.1,.int .i64 x.2.2] (by rfl) (cJ HX1.o (n:=2) rfl) (aX [x.2]) (by simp only[maxLen];omega) (by omega) HD1.o.hB ?_;intro v9 u9 ho9 hg9 hat9;have HD9:=Hi (DoT.grown HD1.o hg9 (fun k hk=>hv0 k hk));refine hK.out _ _ (HSI.o _ ⟨HD9.o.bg.cell 2,HD9.o.bw.cell 0,HD9.o.bw.cell 1,HD9.o.bw.cell 2,HD9.o.bw.cell 3,HD9.o.bw.cell 4,HD9.o.bi.cell 0,HD9.o.bi.cell 1⟩) (fun hHeld=>?_);clear hK Kc;try simp only[Act.put,zA,zB,zC]
    obtain⟨u4,hrun4,ht4,C',hC',hS4,hB4⟩:=hthen _ _ v9 HBL.o hg9 ho9 hat9
    refine wpAnyH_ready (rs:=[11]) (by kernel_rfl) (by simp) ?_;refine gN (i:=11) rfl (fun Kc hK=>?_) uX;refine step_entryStore (by rfl) (.tmp 24) (.tmp 31) (.tmp 30) 97 (by rfl) (.map (some cb)) (.int .i64 (c0:Nat)) v9 (by rfl) (by rfl) (by rfl) (fun V4=>V4=u4) ⟨_,hrun4,rfl⟩ ?_;rintro V1x hV1x;rw[hV1x];clear hV1x V1x;have HD4:=Hi (DoT.done HD9.o hcbm ht4 hS4 hB4 (by have h2:=HD1.o.hq;omega));refine hK.out _ _ (HSI.o _ ⟨HD4.o.sg.blk.cell 2,HD4.o.bw.cell 0,HD4.o.bw.cell 1,HD4.o.bw.cell 2,HD4.o.bw.cell 3,HD4.o.bw.cell 4,HD4.o.bi.cell 0,HD4.o.bi.cell 1⟩) (fun hHeld=>?_);clear hK Kc;try simp only[Act.put,zA,zB,zC]
    refine wpAnyH_done (by kernel_rfl) ?_ _;have HC9:=Hi hC';clear hthen hC' hS4 hB4 ht4 hrun4 ho9 hg9 hat9 hro2 hv0 hrow1 ht1;go_wp2_with fail
    go_meet
    case rel=>exact⟨C',HC9,HD4⟩
   case rest =>
    obtain⟨C1,HC1,HD1⟩:=hcut
    clear HD c6;have HCN:Hid (C1.map (fun y=>(y.1,y.2.2))=lZ (K++[x])):=by show _=_;rw[newC_do,HIB.o,HC1.o,HIC.o];rfl
    have g3:=cZ HD1.o.sg.blk 3 rfl;have i0:=cZ HD1.o.bi 0 rfl;have i1:=cZ HD1.o.bi 1 rfl
    have c1:=cZ HD1.o.bo 1 rfl;have c2:=cZ HD1.o.bo 2 rfl;have hst:=HD1.o.drew.sg.list_put (n:=x.2) (o:=eG x) HOK.o.id (insL_new HOK.o.new) (by have h1:=insL_len K;have h2:=HOK.o.len;simp only[maxLen];omega);go_upto_region 4 with fail
    refine wp_region_still_tail 7 (by kernel_rfl) (by kernel_rfl) ?_;simp only[sV,tG,sY,tH];repeat (first|(refine aK rfl (fun K hK=>?_);go_simp;refine hK _ ?_;clear hK K)|(refine aO rfl ?_;go_frame))
    refine wpStill_nil ?_;change wpList _ _ _ _ _ wc.drew;refine dB wc.drew rfl (.tmp 35) (.tmp 36) (.tmp 38) 98 (Or.inl rfl) lb (bB x.2) (bB (eG x)) rfl rfl rfl _ hst ?_;rintro w6 ⟨ht,hsg⟩;have HD6:=Hi (HD1.o.drew.turn (aN.2 (.inr (.inr (.inr (.inr (.inl rfl)))))) ht hsg (fun k hk=>.inl hk));clear g3 i0 i1 c1 c2 hst ht hsg HD1 HC1;have w3:=cZ HD6.o.bw 3 rfl;have w4:=cZ HD6.o.bw 4 rfl;have i0:=cZ HD6.o.bi 0 rfl;have i1:=cZ HD6.o.bi 1 rfl
    have f3:=HD6.o.bw.frozen 3;have f4:=HD6.o.bw.frozen 4;go_wp2_with fail
    go_meet
    case rel =>
     refine⟨C1,HCN,?_⟩
     show DoM B q M w _ x (dI x) g kb vb cb lb (fN K) V C1 (iB (K++[x]));have h1:dI x=x.2:=by unfold dI;rw[HIB.o];rfl
     rw[h1,insL_do,HIB.o];exact HD6.o.elem (by have:=HBQ.o;omega) x.2
 case rest =>
  obtain⟨C1,HC1,HD1⟩:=hcut
  clear HD c6 HIB HIC;obtain⟨vm,hrun,hvm⟩:∃vm:Option Nat,(∀U,SG B U g kb vb cb lb (fN K) V C1 (iB (K++[x]))→(Instr.lookup 96 (.map (some vb)) (whV (wh1 x)) false).run Tryz.prog U=.ok (.map vm) U) ∧
   (vm=none∧(∀y∈V,y.1≠wh1 x)∨∃V1 b E V2,vm=some b∧V=V1++(wh1 x,b,E)::V2):=by
   rcases HD1.o.sg.vals_look (p:=wh1 x) HOK.o.ob (elem64 HOK.o.id HOK.o.el) HOK.o.key with⟨V1,b,E,V2,h1,h2⟩|⟨h1,h2⟩
   ·exact⟨some b,h2,.inr ⟨V1,b,E,V2,rfl,h1⟩⟩
   ·exact⟨none,h2,.inl ⟨rfl,h1⟩⟩
  obtain⟨⟨e1,e2⟩,hpe⟩:∃r:Rf,dI x=r:=⟨_,rfl⟩
  have HE64:Hid (I64R (e1,e2)):=by show I64R _;rw[←hpe];exact elem64 HOK.o.id HOK.o.el
  have hp0:wh1 x=((x.1.on,x.1.oa),x.1.key,(e1,e2)):=by unfold wh1;rw[hpe];rfl
  have HP0:=Hi hp0;rw[hpe]at HD1;rw[hp0]at hvm;have HVM:=Hi hvm;have hlk:(Instr.lookup 96 (.map (some vb)) (.agg #[.int .i64 x.1.on,.int .i64 x.1.oa,.string x.1.key,.int .i64 e1,.int .i64 e2]) false).run Tryz.prog wc.drew=.ok (.map vm) wc.drew:=by
   have:=hrun _ HD1.o.drew.sg
   unfold whV wh1 at this;rw[hpe]at this;exact this
  have hnil:=fun w=>map_isnil vm w
  have g1:=cZ HD1.o.sg.blk 1 rfl;have w0:=cZ HD1.o.bw 0 rfl;have w1:=cZ HD1.o.bw 1 rfl;have w2:=cZ HD1.o.bw 2 rfl;have w3:=cZ HD1.o.bw 3 rfl;have w4:=cZ HD1.o.bw 4 rfl
  clear hrun hvm hpe hp0;go_upto_region 6 with fail
  refine wp_region_still_lit (by kernel_rfl) (by kernel_rfl) ?_;repeat (first|(refine aK rfl (fun K hK=>?_);go_simp;refine hK _ ?_;clear hK K)|(refine aO rfl ?_;go_frame))
  refine wpStill_nil ?_;change Exit.then _ _ _ _ wc.drew;have HD2:=Hi HD1.o.drew;clear g1 w0 w1 w2 w3 w4 hlk HD1 hnil;generalize wc.drew=w5 at HD2 ⊢;go_upto_if 47 with fail
  go_cut [] (fun wd=>∃V1 b E V2,Hid ((V1++(((x.1.on,x.1.oa),x.1.key,(e1,e2)),b,E)::V2).map (fun y=>(y.1,y.2.2))=eS (lA K) ((x.1.on,x.1.oa),x.1.key,(e1,e2)))∧Hid (DoM B q M w wd x (e1,e2) g kb vb cb lb (fN K) (V1++(((x.1.on,x.1.oa),x.1.key,(e1,e2)),b,E)::V2) C1 (iB (K++[x]))))
  case first =>
   rcases HVM.o with⟨rfl,hno⟩|⟨V1,b,E,V2,rfl,hV⟩
   ·skip
    go_upto_region 7 with fail
    have htouch:=HD2.o.drew.sg.touch (p:=((x.1.on,x.1.oa),x.1.key,(e1,e2))) HOK.o.ob HE64.o HOK.o.key hno (by have h1:=(newV_b K).len;have h2:=HOK.o.len;rw[←HIV.o,sP]at h1;simp only[maxLen];omega) HD2.o.hB;obtain⟨SS,hSS⟩:∃SS:World→Prop,SS=fun V=>V.cell? ⟨g,1,none⟩=some (.map (some vb))∧V.cell? ⟨q+2,0,none⟩=some (.int .i64 x.1.on)∧V.cell? ⟨q+2,1,none⟩=some (.int .i64 x.1.oa)∧V.cell? ⟨q+2,2,none⟩=some (.string x.1.key)∧V.cell? ⟨q+2,3,none⟩=some (.int .i64 e1)∧V.cell? ⟨q+2,4,none⟩=some (.int .i64 e2):=⟨_,rfl⟩
    have HSI:∀V,(V.cell? ⟨g,1,none⟩=some (.map (some vb))∧V.cell? ⟨q+2,0,none⟩=some (.int .i64 x.1.on)∧V.cell? ⟨q+2,1,none⟩=some (.int .i64 x.1.oa)∧V.cell? ⟨q+2,2,none⟩=some (.string x.1.key)∧V.cell? ⟨q+2,3,none⟩=some (.int .i64 e1)∧V.cell? ⟨q+2,4,none⟩=some (.int .i64 e2))→SS V:=fun V h=>by rw[hSS];exact h
    have HSO:∀V,SS V→(V.cell? ⟨g,1,none⟩=some (.map (some vb))∧V.cell? ⟨q+2,0,none⟩=some (.int .i64 x.1.on)∧V.cell? ⟨q+2,1,none⟩=some (.int .i64 x.1.oa)∧V.cell? ⟨q+2,2,none⟩=some (.string x.1.key)∧V.cell? ⟨q+2,3,none⟩=some (.int .i64 e1)∧V.cell? ⟨q+2,4,none⟩=some (.int .i64 e2)):=fun V h=>by rw[hSS]at h;exact h
    have HSI:=Hi HSI;have HSO:=Hi HSO;clear hSS;refine wp_region_held_drew (S:=SS) (by kernel_rfl) (HSI.o _ ⟨HD2.o.drew.sg.blk.cell 1,HD2.o.drew.bw.cell 0,HD2.o.drew.bw.cell 1,HD2.o.drew.bw.cell 2,HD2.o.drew.bw.cell 3,HD2.o.drew.bw.cell 4⟩) (fun hHeld=>?_);refine bA (i:=0) (v:=?_) rfl (by kernel_rfl) (by kernel_rfl) (by kernel_rfl) (fun _ _ _ h=>h) (Or.inl ⟨by rfl,?_⟩) hHeld ?_
    rotate_left
    ·(intro w _;go_simp;try with_reducible rfl)
    try simp only[Act.put,zA,zB,zC]
    refine bA (i:=1) (v:=?_) rfl (by kernel_rfl) (by kernel_rfl) (by kernel_rfl) (fun _ _ _ h=>h) (Or.inl ⟨by rfl,?_⟩) hHeld ?_
    rotate_left
    ·(intro w _;go_simp;try with_reducible rfl)
    try simp only[Act.put,zA,zB,zC]
    refine bA (i:=2) (v:=?_) rfl (by kernel_rfl) (by kernel_rfl) (by kernel_rfl) (fun _ _ _ h=>h) (Or.inl ⟨by rfl,?_⟩) hHeld ?_
    rotate_left
    ·(intro w _;go_simp;try with_reducible rfl)
    try simp only[Act.put,zA,zB,zC]
    refine bA (i:=3) (v:=?_) rfl (by kernel_rfl) (by kernel_rfl) (by kernel_rfl) (fun _ _ _ h=>h) (Or.inl ⟨by rfl,?_⟩) hHeld ?_
    rotate_left
    ·(intro w hSw;obtain⟨g1,-,-,-,-,-⟩:=HSO.o _ hSw;go_simp;try with_reducible rfl)
    try simp only[Act.put,zA,zB,zC]
    refine bA (i:=4) (v:=?_) rfl (by kernel_rfl) (by kernel_rfl) (by kernel_rfl) (fun _ _ _ h=>h) (Or.inl ⟨by rfl,?_⟩) hHeld ?_
    rotate_left
    ·(intro w hSw;obtain⟨-,w0,w1,w2,w3,w4⟩:=HSO.o _ hSw;go_simp;try with_reducible rfl)
    try simp only[Act.put,zA,zB,zC]
    refine wpAnyH_ready (rs:=[5]) (by kernel_rfl) (by simp) ?_;refine gN (i:=5) rfl (fun Kc hK=>?_) uX;go_simp;have HDa:Hid (DoM B q M w (w5.drew.alloc (.map #[] 0)) x (e1,e2) g kb vb cb lb (fN K) V C1 (iB (K++[x]))):=HD2.o.drew.alloc _;refine hK.out _ _ (HSI.o _ ⟨HDa.o.sg.blk.cell 1,HDa.o.bw.cell 0,HDa.o.bw.cell 1,HDa.o.bw.cell 2,HDa.o.bw.cell 3,HDa.o.bw.cell 4⟩) (fun hHeld=>?_);clear hK Kc;try simp only[Act.put,zA,zB,zC]
    refine wpAnyH_ready (rs:=[6]) (by kernel_rfl) (by simp) ?_;refine gN (i:=6) rfl (fun Kc hK=>?_) uX;refine step_store (by rfl) (.tmp 51) (.tmp 52) (.tmp 53) 96 (by rfl) (.map (some vb)) (.agg #[.int .i64 x.1.on,.int .i64 x.1.oa,.string x.1.key,.int .i64 e1,.int .i64 e2]) (.map (some w5.heap.size)) (by rfl) (by rfl) (by rfl) _ htouch ?_;rintro u7 ⟨ht7,hs7⟩;have HD7:=Hi (HDa.o.turn (b:=vb) (aN.2 (.inr (.inr (.inl rfl)))) ht7 hs7 (fun k hk=>allB_snoc hk (by have:=HD2.o.bw.lt;show q+3≤w5.heap.size;omega)));refine hK.out _ _ (HSI.o _ ⟨HD7.o.sg.blk.cell 1,HD7.o.bw.cell 0,HD7.o.bw.cell 1,HD7.o.bw.cell 2,HD7.o.bw.cell 3,HD7.o.bw.cell 4⟩) (fun hHeld=>?_);clear hK Kc;try simp only[Act.put,zA,zB,zC]
    refine wpAnyH_done (by kernel_rfl) ?_ _;have HTV:Hid ((V++[(((x.1.on,x.1.oa),x.1.key,(e1,e2)),w5.heap.size,[])]).map (fun y:Wh×Nat×List (Rf×VD)=>(y.1,y.2.2))=eS (lA K) ((x.1.on,x.1.oa),x.1.key,(e1,e2))):=by
     show _=_;unfold eS;rw[if_neg,sQ,HIV.o]
     ·rfl
     ·rintro⟨e,he,h1⟩
      rw[←HIV.o]at he;obtain⟨y,hy,rfl⟩:=sH.1 he
      exact hno y hy h1
    clear htouch ht7 hs7 hno HDa;go_wp2_with fail
    go_meet
    case rel=>exact⟨V,w5.heap.size,[],[],HTV,HD7⟩
   ·have HTV:Hid (V.map (fun y=>(y.1,y.2.2))=eS (lA K) ((x.1.on,x.1.oa),x.1.key,(e1,e2))):=by
     show _=_;unfold eS;rw[if_pos,HIV.o];refine⟨(((x.1.on,x.1.oa),x.1.key,(e1,e2)),E),?_,rfl⟩
     rw[←HIV.o,hV];simp
    subst hV;go_wp2_with fail
    go_meet
    case rel=>exact⟨V1,b,E,V2,HTV,HD2⟩
  case rest =>
   obtain⟨V1,b,E0,V2,HTV,HD3⟩:=hcut
   clear HD2 HVM;obtain⟨n,hn⟩:∃n,x.1.l.length=n:=⟨_,rfl⟩
   obtain⟨A,hA⟩:∃A,x.1.A=A:=⟨_,rfl⟩
   have HN:=Hi hn;have hnl:n≤100000:=by rw[←hn];exact HOK.o.pl
   have HPR:Hid (aC (fun k=>k<B) w 2 A n (aE x.1.l)):=by have:=HOK.o.pr;rw[hn,hA]at this;exact this
   have HE0:Hid (E0.length≤100000∧∀e∈E0,e.1≠x.2):=by have h1:=start_E HTV.o HOK.o.new;have h2:=HOK.o.len;exact⟨by omega,h1.2⟩
   have c12:wc.cell? ⟨q,12,none⟩=some (.slice A n x.1.c):=(by rw[←hA,←hn];exact HD3.o.bo.cell 12);clear hn hA;go_upto_region 9 with fail
   go_loopw [8,9,10,57] (fun _ _ _ s57 wr=>∃(j:Nat) (E:List (Rf×VD)),s57=.int .i64 j∧j≤n∧Hid (E=(x.1.l.take j).foldl (fH x) E0)∧Hid (DoM B q M w wr x (e1,e2) g kb vb cb lb (fN K) (V1++(((x.1.on,x.1.oa),x.1.key,(e1,e2)),b,E)::V2) C1 (iB (K++[x])))) (fun _ _ _ s57 _=>n-(intOf s57).toNat)
   case atStart=>exact⟨0,E0,rfl,by omega,rfl,HD3⟩
   case round =>
    clear HD3 c12;obtain⟨j,E,rfl,hj,HE,HDr⟩:=hrel
    by_cases hlt:j<n
    ·obtain⟨⟨p1,p2⟩,hp⟩:∃p,x.1.l[j]?=some p:=⟨_,sD (by rw[HN.o];exact hlt)⟩
     have HQ64:Hid (I64R (p1,p2)):=HOK.o.ps _ (sJ hp);have hrr:aC (fun k=>k<B) wr 2 A n (aE x.1.l):=HPR.o.keep fun k hk=>HDr.o.bel.block k hk
     obtain⟨pb,po,rfl,hpb,hc⟩:=hrr.at_ (by omega) (by omega)
     have z0:wr.cell? ⟨pb,po+j*2,none⟩=some (.int .i64 p1):=hc _ _ ((aL hp).1);have z1:wr.cell? ⟨pb,po+j*2+1,none⟩=some (.int .i64 p2):=by have:=hc _ _ ((aL hp).2);rw[←tL]at this;exact this
     have HEJ:Hid (fH x E (p1,p2)=(x.1.l.take (j+1)).foldl (fH x) E0):=by show _=_;rw[sS,hp,xV,←HE.o];rfl
     clear hrr hp hpb hc HE;go_upto_block 1 with fail
     go_cut [8,9,10] (fun _ _ _ wc=>Hid (DoM B q M w wc x (e1,e2) g kb vb cb lb (fN K) (V1++(((x.1.on,x.1.oa),x.1.key,(e1,e2)),b,fH x E (p1,p2))::V2) C1 (iB (K++[x]))))
     case first =>
      go_upto_region 11 with fail
      have HDa:=Hi (HDr.o.alloc (.cells #[.int .i64 p1,.int .i64 p2] 24));have HR:=Hi (Blk.new wr 24 #[.int .i64 p1,.int .i64 p2]);clear z0 z1 HDr;generalize wr.alloc (.cells #[.int .i64 p1,.int .i64 p2] 24)=wa at HDa HR ⊢;generalize wr.heap.size=r1 at HR ⊢;obtain⟨b4,hb4⟩:∃b4,(x.1.k != 4)=b4:=⟨_,rfl⟩
      have c0:=cZ HDa.o.bo 0 rfl;have HB4':=Hi hb4;go_upto_if 63 with fail
      clear hb4 c0;cases b4 with
      |true =>
       have HB4:Hid (¬x.1.k=4):=by have:=HB4'.o;show ¬_;simpa using this
       have HEN:Hid (fH x E (p1,p2)=E.filter fun e=>decide (e.1≠(p1,p2))):=by show _=_;unfold fH;rw[if_neg HB4.o]
       have hlk:(Instr.lookup 96 (.map (some vb)) (.agg #[.int .i64 x.1.on,.int .i64 x.1.oa,.string x.1.key,.int .i64 e1,.int .i64 e2]) false).run Tryz.prog wa.drew=.ok (.map (some b)) wa.drew:=aI.hit (HDa.o.drew.sg.vals) bY Tryz.underlying96 (eX _) (sH.2 ⟨(((x.1.on,x.1.oa),x.1.key,(e1,e2)),b,E),by simp,rfl⟩) false;have g1:=cZ HDa.o.sg.blk 1 rfl;have w0:=cZ HDa.o.bw 0 rfl;have w1:=cZ HDa.o.bw 1 rfl;have w2:=cZ HDa.o.bw 2 rfl;have w3:=cZ HDa.o.bw 3 rfl;have w4:=cZ HDa.o.bw 4 rfl
       have z0:=cZ HR.o 0 rfl;have z1:=cZ HR.o 1 rfl
       have hst:=fun ty=>HDa.o.drew.sg.del (q:=(p1,p2)) HQ64.o ty
       go_upto_region 12 with fail
       refine wp_region_still_tail 7 (by kernel_rfl) (by kernel_rfl) ?_;simp only[sV,tG,sY,tH];repeat (first|(refine aK rfl (fun K hK=>?_);go_simp;refine hK _ ?_;clear hK K)|(refine aO rfl ?_;go_frame))
       refine wpStill_nil ?_;change wpList _ _ _ _ _ wa.drew;refine wpL_delete wa.drew rfl (.tmp 69) (.tmp 70) 132 24 rfl b (bB (p1,p2)) rfl rfl _ hst ?_;rintro u9 ⟨ht9,hs9⟩;have HD9:=Hi (HDa.o.drew.turn qG ht9 hs9 (fun k hk=>.inl (mY hk)));rw[←HEN.o]at HD9;clear z0 z1 hst ht9 hs9 hlk g1 w0 w1 w2 w3 w4;go_wp2_with fail
       go_meet
       case rel=>exact HD9
      |false =>
       have HB4:Hid (x.1.k=4):=by have:=HB4'.o;show _=_;simpa using this
       rcases HDa.o.sg.val_look (q:=(p1,p2)) HQ64.o with⟨v,hmv,hrun2⟩|⟨hno,hrun2⟩
       ·have HEN:Hid (fH x E (p1,p2)=E.map fun e=>if e.1=(p1,p2) then (e.1,e.2.add x.1.vn) else e):=by show _=_;unfold fH;rw[if_pos HB4.o]
        have HMV:=Hi hmv;clear hmv;obtain⟨va,hva⟩:∃va:VD,v=va:=⟨_,rfl⟩
        have HVA:=Hi hva;have hlk:(Instr.lookup 96 (.map (some vb)) (.agg #[.int .i64 x.1.on,.int .i64 x.1.oa,.string x.1.key,.int .i64 e1,.int .i64 e2]) false).run Tryz.prog wa.drew=.ok (.map (some b)) wa.drew:=aI.hit (HDa.o.drew.sg.vals) bY Tryz.underlying96 (eX _) (sH.2 ⟨(((x.1.on,x.1.oa),x.1.key,(e1,e2)),b,E),by simp,rfl⟩) false;have hl2:(Instr.lookup 132 (.map (some b)) (.agg #[.int .i64 p1,.int .i64 p2]) true).run Tryz.prog wa.drew=.ok (.tuple #[.agg #[.int .i64 va.k,.int .i64 va.n,.string va.t,.int .i64 va.a,.int .i64 va.b],.bool true]) wa.drew:=by have:=hrun2 _ HDa.o.drew.sg;rw[hva]at this;exact this
        have g1:=cZ HDa.o.sg.blk 1 rfl;have w0:=cZ HDa.o.bw 0 rfl;have w1:=cZ HDa.o.bw 1 rfl;have w2:=cZ HDa.o.bw 2 rfl;have w3:=cZ HDa.o.bw 3 rfl;have w4:=cZ HDa.o.bw 4 rfl
        have z0:=cZ HR.o 0 rfl;have z1:=cZ HR.o 1 rfl
        have KS:∀o,(wa.drew.alloc o).cell? ⟨g,1,none⟩=some (.map (some vb))∧(wa.drew.alloc o).cell? ⟨q+2,0,none⟩=some (.int .i64 x.1.on)∧(wa.drew.alloc o).cell? ⟨q+2,1,none⟩=some (.int .i64 x.1.oa)∧(wa.drew.alloc o).cell? ⟨q+2,2,none⟩=some (.string x.1.key)∧(wa.drew.alloc o).cell? ⟨q+2,3,none⟩=some (.int .i64 e1)∧(wa.drew.alloc o).cell? ⟨q+2,4,none⟩=some (.int .i64 e2)∧(wa.drew.alloc o).cell? ⟨r1,0,none⟩=some (.int .i64 p1)∧(wa.drew.alloc o).cell? ⟨r1,1,none⟩=some (.int .i64 p2)∧(Instr.lookup 96 (.map (some vb)) (.agg #[.int .i64 x.1.on,.int .i64 x.1.oa,.string x.1.key,.int .i64 e1,.int .i64 e2]) false).run Tryz.prog (wa.drew.alloc o)=.ok (.map (some b)) (wa.drew.alloc o)∧(Instr.lookup 132 (.map (some b)) (.agg #[.int .i64 p1,.int .i64 p2]) true).run Tryz.prog (wa.drew.alloc o)=.ok (.tuple #[.agg #[.int .i64 va.k,.int .i64 va.n,.string va.t,.int .i64 va.a,.int .i64 va.b],.bool true]) (wa.drew.alloc o):=fun o=>by
         have hd:=HDa.o.drew.alloc o;have hr:=HR.o.keep (w':=wa.drew.alloc o) (sO _ _ _ HR.o.lt);have hlk2:(Instr.lookup 96 (.map (some vb)) (.agg #[.int .i64 x.1.on,.int .i64 x.1.oa,.string x.1.key,.int .i64 e1,.int .i64 e2]) false).run Tryz.prog (wa.drew.alloc o)=.ok (.map (some b)) (wa.drew.alloc o):=aI.hit (hd.sg.vals) bY Tryz.underlying96 (eX _) (sH.2 ⟨(((x.1.on,x.1.oa),x.1.key,(e1,e2)),b,E),by simp,rfl⟩) false;have hl3:(Instr.lookup 132 (.map (some b)) (.agg #[.int .i64 p1,.int .i64 p2]) true).run Tryz.prog (wa.drew.alloc o)=.ok (.tuple #[.agg #[.int .i64 va.k,.int .i64 va.n,.string va.t,.int .i64 va.a,.int .i64 va.b],.bool true]) (wa.drew.alloc o):=by have:=hrun2 _ hd.sg;rw[hva]at this;exact this
         exact⟨hd.sg.blk.cell 1,hd.bw.cell 0,hd.bw.cell 1,hd.bw.cell 2,hd.bw.cell 3,hd.bw.cell 4,hr.cell 0,hr.cell 1,hlk2,hl3⟩
        clear hva;go_upto_region 13 with fail
        go_region_held3 (fun w'=>w'.cell? ⟨g,1,none⟩=some (.map (some vb))∧w'.cell? ⟨q+2,0,none⟩=some (.int .i64 x.1.on)∧w'.cell? ⟨q+2,1,none⟩=some (.int .i64 x.1.oa)∧w'.cell? ⟨q+2,2,none⟩=some (.string x.1.key)∧w'.cell? ⟨q+2,3,none⟩=some (.int .i64 e1)∧w'.cell? ⟨q+2,4,none⟩=some (.int .i64 e2)∧w'.cell? ⟨r1,0,none⟩=some (.int .i64 p1)∧w'.cell? ⟨r1,1,none⟩=some (.int .i64 p2)∧(Instr.lookup 96 (.map (some vb)) (.agg #[.int .i64 x.1.on,.int .i64 x.1.oa,.string x.1.key,.int .i64 e1,.int .i64 e2]) false).run Tryz.prog w'=.ok (.map (some b)) w'∧(Instr.lookup 132 (.map (some b)) (.agg #[.int .i64 p1,.int .i64 p2]) true).run Tryz.prog w'=.ok (.tuple #[.agg #[.int .i64 va.k,.int .i64 va.n,.string va.t,.int .i64 va.a,.int .i64 va.b],.bool true]) w') (first|exact⟨g1,w0,w1,w2,w3,w4,z0,z1,hlk,hl2⟩|exact KS _|go_keep) (fail)
        all_goals
         clear KS g1 w0 w1 w2 w3 w4 z0 z1 hlk hl2 hrun2;have HDb:Hid (DoM B q M w (wa.alloc (.cells #[.int .i64 va.k,.int .i64 va.n,.string va.t,.int .i64 va.a,.int .i64 va.b] 50)).drew x (e1,e2) g kb vb cb lb (fN K) (V1++(((x.1.on,x.1.oa),x.1.key,(e1,e2)),b,E)::V2) C1 (iB (K++[x]))):=(HDa.o.alloc _).drew;have HRb:Hid (Blk (wa.alloc (.cells #[.int .i64 va.k,.int .i64 va.n,.string va.t,.int .i64 va.a,.int .i64 va.b] 50)).drew r1 24 #[.int .i64 p1,.int .i64 p2]):=HR.o.keep (sO _ _ _ HR.o.lt);have HVb:Hid (Blk (wa.alloc (.cells #[.int .i64 va.k,.int .i64 va.n,.string va.t,.int .i64 va.a,.int .i64 va.b] 50)).drew wa.heap.size 50 #[.int .i64 va.k,.int .i64 va.n,.string va.t,.int .i64 va.a,.int .i64 va.b]):=Blk.new wa _ _;have HNV:Hid (wa.heap.size∉dL g kb vb cb lb (V1++(((x.1.on,x.1.oa),x.1.key,(e1,e2)),b,E)::V2) C1∧q+3≤wa.heap.size∧B≤wa.heap.size∧r1<wa.heap.size):=⟨fun h=>by have:=HDa.o.sg.lt _ h;omega,HDa.o.bw.lt,HDa.o.hB,HR.o.lt⟩;generalize (wa.alloc (.cells #[.int .i64 va.k,.int .i64 va.n,.string va.t,.int .i64 va.a,.int .i64 va.b] 50)).drew=wb at HDb HRb HVb ⊢;generalize wa.heap.size=r2 at HNV HVb ⊢;have v1:=cZ HVb.o 1 rfl;have fv:=HVb.o.frozen 1;obtain⟨nv,hnv⟩:∃nv,wrap64 (va.n+x.1.vn)=nv:=⟨_,rfl⟩
         have HNW:Hid (vlV (va.add x.1.vn)=.agg #[.int .i64 va.k,.int .i64 nv,.string va.t,.int .i64 va.a,.int .i64 va.b]):=by show _=_;rw[←hnv,←IntWalk.i64_left];rfl
         have c8:=cZ HDb.o.bo 8 rfl;go_upto_region 16 with fail
         have HDc:=Hi (HDb.o.far (p:=⟨r2,1,none⟩) HNV.o.2.1 HNV.o.1 HNV.o.2.2.1 (.int .i64 nv));have HRc:Hid (Blk (wb.setCell ⟨r2,1,none⟩ (.int .i64 nv)) r1 24 #[.int .i64 p1,.int .i64 p2]):=HRb.o.keep (sZ _ _ _ _ (by have:=HNV.o.2.2.2;show r1≠r2;omega));have HVc:Hid (Blk (wb.setCell ⟨r2,1,none⟩ (.int .i64 nv)) r2 50 #[.int .i64 va.k,.int .i64 nv,.string va.t,.int .i64 va.a,.int .i64 va.b]):=HVb.o.set_ 1 _;clear v1 fv c8 hnv HDb HRb HVb;generalize wb.setCell ⟨r2,1,none⟩ (.int .i64 nv)=wd at HDc HRc HVc ⊢;have hlk:(Instr.lookup 96 (.map (some vb)) (.agg #[.int .i64 x.1.on,.int .i64 x.1.oa,.string x.1.key,.int .i64 e1,.int .i64 e2]) false).run Tryz.prog wd.drew=.ok (.map (some b)) wd.drew:=aI.hit (HDc.o.drew.sg.vals) bY Tryz.underlying96 (eX _) (sH.2 ⟨(((x.1.on,x.1.oa),x.1.key,(e1,e2)),b,E),by simp,rfl⟩) false;have g1:=cZ HDc.o.sg.blk 1 rfl;have w0:=cZ HDc.o.bw 0 rfl;have w1:=cZ HDc.o.bw 1 rfl;have w2:=cZ HDc.o.bw 2 rfl;have w3:=cZ HDc.o.bw 3 rfl;have w4:=cZ HDc.o.bw 4 rfl
         have z0:=cZ HRc.o 0 rfl;have z1:=cZ HRc.o 1 rfl
         have y0:=cZ HVc.o 0 rfl;have y1:=cZ HVc.o 1 rfl;have y2:=cZ HVc.o 2 rfl;have y3:=cZ HVc.o 3 rfl;have y4:=cZ HVc.o 4 rfl
         have hst:=HDc.o.drew.sg.inc (q:=(p1,p2)) (v:=va) (by rw[←HVA.o];exact HMV.o) x.1.vn;rw[HNW.o]at hst;refine wp_region_still_tail 8 (by kernel_rfl) (by kernel_rfl) ?_;simp only[sV,tG,sY,tH];repeat (first|(refine aK rfl (fun K hK=>?_);go_simp;refine hK _ ?_;clear hK K)|(refine aO rfl ?_;go_frame))
         refine wpStill_nil ?_;change wpList _ _ _ _ _ wd.drew;refine dB wd.drew rfl (.tmp 95) (.tmp 96) (.tmp 97) 132 (Or.inl rfl) b (bB (p1,p2)) (.agg #[.int .i64 va.k,.int .i64 nv,.string va.t,.int .i64 va.a,.int .i64 va.b]) rfl rfl rfl _ hst ?_;rintro u9 ⟨ht9,hs9⟩;have HD9:=Hi (HDc.o.drew.turn qG ht9 hs9 (fun k hk=>.inl (mY hk)));rw[←HEN.o]at HD9;clear z0 z1 y0 y1 y2 y3 y4 hst ht9 hs9 hlk g1 w0 w1 w2 w3 w4 HDc;go_wp2_with fail
         go_meet
         case rel=>exact HD9
       ·have HEN:Hid (fH x E (p1,p2)=E):=by show _=_;unfold fH;rw[if_pos HB4.o];exact map_none _ hno
        clear hno;obtain⟨va,hva⟩:∃va:VD,(⟨0,0,⟨#[]⟩,0,0⟩:VD)=va:=⟨_,rfl⟩
        have HVA:=Hi hva;have hlk:(Instr.lookup 96 (.map (some vb)) (.agg #[.int .i64 x.1.on,.int .i64 x.1.oa,.string x.1.key,.int .i64 e1,.int .i64 e2]) false).run Tryz.prog wa.drew=.ok (.map (some b)) wa.drew:=aI.hit (HDa.o.drew.sg.vals) bY Tryz.underlying96 (eX _) (sH.2 ⟨(((x.1.on,x.1.oa),x.1.key,(e1,e2)),b,E),by simp,rfl⟩) false;have hl2:(Instr.lookup 132 (.map (some b)) (.agg #[.int .i64 p1,.int .i64 p2]) true).run Tryz.prog wa.drew=.ok (.tuple #[.agg #[.int .i64 va.k,.int .i64 va.n,.string va.t,.int .i64 va.a,.int .i64 va.b],.bool false]) wa.drew:=by have:=hrun2 _ HDa.o.drew.sg;rw[hva]at this;exact this
        have g1:=cZ HDa.o.sg.blk 1 rfl;have w0:=cZ HDa.o.bw 0 rfl;have w1:=cZ HDa.o.bw 1 rfl;have w2:=cZ HDa.o.bw 2 rfl;have w3:=cZ HDa.o.bw 3 rfl;have w4:=cZ HDa.o.bw 4 rfl
        have z0:=cZ HR.o 0 rfl;have z1:=cZ HR.o 1 rfl
        have KS:∀o,(wa.drew.alloc o).cell? ⟨g,1,none⟩=some (.map (some vb))∧(wa.drew.alloc o).cell? ⟨q+2,0,none⟩=some (.int .i64 x.1.on)∧(wa.drew.alloc o).cell? ⟨q+2,1,none⟩=some (.int .i64 x.1.oa)∧(wa.drew.alloc o).cell? ⟨q+2,2,none⟩=some (.string x.1.key)∧(wa.drew.alloc o).cell? ⟨q+2,3,none⟩=some (.int .i64 e1)∧(wa.drew.alloc o).cell? ⟨q+2,4,none⟩=some (.int .i64 e2)∧(wa.drew.alloc o).cell? ⟨r1,0,none⟩=some (.int .i64 p1)∧(wa.drew.alloc o).cell? ⟨r1,1,none⟩=some (.int .i64 p2)∧(Instr.lookup 96 (.map (some vb)) (.agg #[.int .i64 x.1.on,.int .i64 x.1.oa,.string x.1.key,.int .i64 e1,.int .i64 e2]) false).run Tryz.prog (wa.drew.alloc o)=.ok (.map (some b)) (wa.drew.alloc o)∧(Instr.lookup 132 (.map (some b)) (.agg #[.int .i64 p1,.int .i64 p2]) true).run Tryz.prog (wa.drew.alloc o)=.ok (.tuple #[.agg #[.int .i64 va.k,.int .i64 va.n,.string va.t,.int .i64 va.a,.int .i64 va.b],.bool false]) (wa.drew.alloc o):=fun o=>by
         have hd:=HDa.o.drew.alloc o;have hr:=HR.o.keep (w':=wa.drew.alloc o) (sO _ _ _ HR.o.lt);have hlk2:(Instr.lookup 96 (.map (some vb)) (.agg #[.int .i64 x.1.on,.int .i64 x.1.oa,.string x.1.key,.int .i64 e1,.int .i64 e2]) false).run Tryz.prog (wa.drew.alloc o)=.ok (.map (some b)) (wa.drew.alloc o):=aI.hit (hd.sg.vals) bY Tryz.underlying96 (eX _) (sH.2 ⟨(((x.1.on,x.1.oa),x.1.key,(e1,e2)),b,E),by simp,rfl⟩) false;have hl3:(Instr.lookup 132 (.map (some b)) (.agg #[.int .i64 p1,.int .i64 p2]) true).run Tryz.prog (wa.drew.alloc o)=.ok (.tuple #[.agg #[.int .i64 va.k,.int .i64 va.n,.string va.t,.int .i64 va.a,.int .i64 va.b],.bool false]) (wa.drew.alloc o):=by have:=hrun2 _ hd.sg;rw[hva]at this;exact this
         exact⟨hd.sg.blk.cell 1,hd.bw.cell 0,hd.bw.cell 1,hd.bw.cell 2,hd.bw.cell 3,hd.bw.cell 4,hr.cell 0,hr.cell 1,hlk2,hl3⟩
        clear hva;go_upto_region 13 with fail
        go_region_held3 (fun w'=>w'.cell? ⟨g,1,none⟩=some (.map (some vb))∧w'.cell? ⟨q+2,0,none⟩=some (.int .i64 x.1.on)∧w'.cell? ⟨q+2,1,none⟩=some (.int .i64 x.1.oa)∧w'.cell? ⟨q+2,2,none⟩=some (.string x.1.key)∧w'.cell? ⟨q+2,3,none⟩=some (.int .i64 e1)∧w'.cell? ⟨q+2,4,none⟩=some (.int .i64 e2)∧w'.cell? ⟨r1,0,none⟩=some (.int .i64 p1)∧w'.cell? ⟨r1,1,none⟩=some (.int .i64 p2)∧(Instr.lookup 96 (.map (some vb)) (.agg #[.int .i64 x.1.on,.int .i64 x.1.oa,.string x.1.key,.int .i64 e1,.int .i64 e2]) false).run Tryz.prog w'=.ok (.map (some b)) w'∧(Instr.lookup 132 (.map (some b)) (.agg #[.int .i64 p1,.int .i64 p2]) true).run Tryz.prog w'=.ok (.tuple #[.agg #[.int .i64 va.k,.int .i64 va.n,.string va.t,.int .i64 va.a,.int .i64 va.b],.bool false]) w') (first|exact⟨g1,w0,w1,w2,w3,w4,z0,z1,hlk,hl2⟩|exact KS _|go_keep) (fail)
        all_goals
         clear KS g1 w0 w1 w2 w3 w4 z0 z1 hlk hl2 hrun2;have HDb:Hid (DoM B q M w (wa.alloc (.cells #[.int .i64 va.k,.int .i64 va.n,.string va.t,.int .i64 va.a,.int .i64 va.b] 50)).drew x (e1,e2) g kb vb cb lb (fN K) (V1++(((x.1.on,x.1.oa),x.1.key,(e1,e2)),b,E)::V2) C1 (iB (K++[x]))):=(HDa.o.alloc _).drew;rw[←HEN.o]at HDb;go_wp2_with fail
         go_meet
         case rel=>exact HDb
     case rest =>
      have HD9:=hcut;clear z0 z1 HDr;go_wp2_with fail
      go_roundw
      case rel=>exact⟨j+1,_,by go_num,hlt,HEJ,HD9⟩
      case measure=>simp[intOf];omega
    ·obtain rfl:j=n:=by omega
     have HEF:Hid (E=x.1.l.foldl (fH x) E0):=by show _=_;rw[HE.o,sL (by rw[HN.o];exact sC _)]
     have HEN:Hid (E.length≤100000∧∀e∈E,e.1≠x.2):=by
      rw[HEF.o];refine⟨sR (oI x _ _) HE0.o.1,fun e he e1=>?_⟩
      obtain⟨y,hy,e2⟩:=sH.1 (kX x _ _ e he)
      exact HE0.o.2 y hy (e2.trans e1)
     clear HE HPR HE0;have c7:=cZ HDr.o.bo 7 rfl;have c8:=cZ HDr.o.bo 8 rfl;have c9:=cZ HDr.o.bo 9 rfl;have c10:=cZ HDr.o.bo 10 rfl;have c11:=cZ HDr.o.bo 11 rfl;go_upto_region 19 with fail
     have HDa:=Hi (HDr.o.alloc (.cells #[.int .i64 x.1.vk,.int .i64 x.1.vn,.string x.1.vt,.int .i64 x.1.va,.int .i64 x.1.vb] 50));have HVa:=Hi (Blk.new wr 50 #[.int .i64 x.1.vk,.int .i64 x.1.vn,.string x.1.vt,.int .i64 x.1.va,.int .i64 x.1.vb]);have HNV:Hid (wr.heap.size∉dL g kb vb cb lb (V1++(((x.1.on,x.1.oa),x.1.key,(e1,e2)),b,E)::V2) C1∧q+3≤wr.heap.size∧B≤wr.heap.size):=⟨fun h=>Nat.lt_irrefl _ (HDr.o.sg.lt _ h),HDr.o.bw.lt,HDr.o.hB⟩;clear c7 c8 c9 c10 c11 HDr;generalize wr.alloc (.cells #[.int .i64 x.1.vk,.int .i64 x.1.vn,.string x.1.vt,.int .i64 x.1.va,.int .i64 x.1.vb] 50)=wa at HDa HVa ⊢;generalize wr.heap.size=r at HVa HNV ⊢;have c0:=cZ HDa.o.bo 0 rfl;by_cases h2:x.1.k=2
     ·have HKN:Hid (fN (K++[x])=fN K++[(x.2,x.1.vk)]):=by show _=_;rw[newK_snoc,if_pos h2]
      have HDO:Hid (doE x E0=E++[(x.2,(⟨x.1.vk,x.1.vn,x.1.vt,x.2.1,x.2.2⟩:VD))]):=by
       show _=_;unfold doE rQ fG;rw[if_pos (Or.inr h2),if_pos h2,HEF.o]
      have hk1:(x.1.k == 2)=true:=by simp[h2]
      clear h2 HEF;have i0:=cZ HDa.o.bi 0 rfl;have i1:=cZ HDa.o.bi 1 rfl
      have y3:=cZ HVa.o 3 rfl;have y4:=cZ HVa.o 4 rfl;have f3:=HVa.o.frozen 3;have f4:=HVa.o.frozen 4;go_upto_region 22 with fail
      have HDb:=Hi ((HDa.o.far (p:=⟨r,3,none⟩) HNV.o.2.1 HNV.o.1 HNV.o.2.2 (.int .i64 x.2.1)).far (p:=⟨r,4,none⟩) HNV.o.2.1 HNV.o.1 HNV.o.2.2 (.int .i64 x.2.2));have HVb:Hid (Blk ((wa.setCell ⟨r,3,none⟩ (.int .i64 x.2.1)).setCell ⟨r,4,none⟩ (.int .i64 x.2.2)) r 50 #[.int .i64 x.1.vk,.int .i64 x.1.vn,.string x.1.vt,.int .i64 x.2.1,.int .i64 x.2.2]):=(HVa.o.set_ 3 _).set_ 4 _;clear c0 hk1 i0 i1 y3 y4 f3 f4 HDa HVa;generalize (wa.setCell ⟨r,3,none⟩ (.int .i64 x.2.1)).setCell ⟨r,4,none⟩ (.int .i64 x.2.2)=wb at HDb HVb ⊢;have g0:=cZ HDb.o.sg.blk 0 rfl;have i0:=cZ HDb.o.bi 0 rfl;have i1:=cZ HDb.o.bi 1 rfl
      have y0:=cZ HVb.o 0 rfl;have hst:=HDb.o.drew.sg.kind_put (n:=x.2) HOK.o.id (newK_new HOK.o.new HOK.o.nz) (by have h1:=newK_len K;have h2:=HOK.o.len;simp only[maxLen];omega) x.1.vk;refine wp_region_still_tail 7 (by kernel_rfl) (by kernel_rfl) ?_;simp only[sV,tG,sY,tH];repeat (first|(refine aK rfl (fun K hK=>?_);go_simp;refine hK _ ?_;clear hK K)|(refine aO rfl ?_;go_frame))
      refine wpStill_nil ?_;change wpList _ _ _ _ _ wb.drew;refine dB wb.drew rfl (.tmp 110) (.tmp 111) (.tmp 113) 95 (Or.inl rfl) kb (bB x.2) (.int .i64 x.1.vk) rfl rfl rfl _ hst ?_;rintro u8 ⟨ht8,hs8⟩;have HD8:=Hi (HDb.o.drew.turn (aN.2 (.inr (.inl rfl))) ht8 hs8 (fun k hk=>.inl hk));have HV8:=Hi ((show Blk wb.drew r 50 #[.int .i64 x.1.vk,.int .i64 x.1.vn,.string x.1.vt,.int .i64 x.2.1,.int .i64 x.2.2] from HVb.o).keep (bO ht8 (show r<wb.drew.heap.size from HVb.o.lt) (fun e=>HNV.o.1 (e▸aN.2 (.inr (.inl rfl))))));clear g0 i0 i1 y0 hst ht8 hs8 HDb HVb;have y0:=cZ HV8.o 0 rfl;have y1:=cZ HV8.o 1 rfl;have y2:=cZ HV8.o 2 rfl;have y3:=cZ HV8.o 3 rfl;have y4:=cZ HV8.o 4 rfl
      have hlk:(Instr.lookup 96 (.map (some vb)) (.agg #[.int .i64 x.1.on,.int .i64 x.1.oa,.string x.1.key,.int .i64 e1,.int .i64 e2]) false).run Tryz.prog u8.drew=.ok (.map (some b)) u8.drew:=aI.hit (HD8.o.drew.sg.vals) bY Tryz.underlying96 (eX _) (sH.2 ⟨(((x.1.on,x.1.oa),x.1.key,(e1,e2)),b,E),by simp,rfl⟩) false;have g1:=cZ HD8.o.sg.blk 1 rfl;have w0:=cZ HD8.o.bw 0 rfl;have w1:=cZ HD8.o.bw 1 rfl;have w2:=cZ HD8.o.bw 2 rfl;have w3:=cZ HD8.o.bw 3 rfl;have w4:=cZ HD8.o.bw 4 rfl
      have i0:=cZ HD8.o.bi 0 rfl;have i1:=cZ HD8.o.bi 1 rfl
      have hst:=HD8.o.drew.sg.put (n:=x.2) HOK.o.id (fun e he=>HEN.o.2 e he) (by have:=HEN.o.1;simp only[maxLen];omega) (⟨x.1.vk,x.1.vn,x.1.vt,x.2.1,x.2.2⟩);go_upto_region 23 with fail
      refine wp_region_still_tail 8 (by kernel_rfl) (by kernel_rfl) ?_;simp only[sV,tG,sY,tH];repeat (first|(refine aK rfl (fun K hK=>?_);go_simp;refine hK _ ?_;clear hK K)|(refine aO rfl ?_;go_frame))
      refine wpStill_nil ?_;change wpList _ _ _ _ _ u8.drew;refine dB u8.drew rfl (.tmp 119) (.tmp 120) (.tmp 121) 132 (Or.inl rfl) b (bB x.2) (vlV (⟨x.1.vk,x.1.vn,x.1.vt,x.2.1,x.2.2⟩)) rfl rfl rfl _ hst ?_;rintro u9 ⟨ht9,hs9⟩;have HD9:=Hi (HD8.o.drew.turn qG ht9 hs9 (fun k hk=>.inl (mY hk)));clear y0 y1 y2 y3 y4 g1 w0 w1 w2 w3 w4 i0 i1 hlk;have hf:SMem B u9 g kb vb cb lb (K++[x]) (V1++(wh1 x,b,doE x E0)::V2) C1∧Below B w u9∧Chg (fun k=>k∈M) w u9:=by
       have h9:=HD9.o;have hv:=HTV.o;rw[←HKN.o,←HDO.o,←HP0.o]at h9;rw[←HP0.o]at hv;exact h9.fin hv HC1.o
      have HF:=Hi hf;clear hf hst ht9 hs9;go_wp2_with fail
      refine bodyPost_end (results_none rfl _ _ _) rfl ?_;exact⟨rfl,_,_,HF.o.1,HF.o.2.1,HCM.o _ HF.o.2.2⟩
     ·have HKN:Hid (fN (K++[x])=fN K):=by show _=_;rw[newK_snoc,if_neg h2]
      by_cases h1:x.1.k=1
      ·have HDO:Hid (doE x E0=E++[(x.2,(⟨x.1.vk,x.1.vn,x.1.vt,x.1.va,x.1.vb⟩:VD))]):=by
        show _=_;unfold doE rQ fG;rw[if_pos (Or.inl h1),if_neg h2,HEF.o]
       have hk1:(x.1.k == 2)=false:=by simp[h2]
       have hk2:(x.1.k == 1)=true:=by simp[h1]
       clear h1 h2 HEF;have y0:=cZ HVa.o 0 rfl;have y1:=cZ HVa.o 1 rfl;have y2:=cZ HVa.o 2 rfl;have y3:=cZ HVa.o 3 rfl;have y4:=cZ HVa.o 4 rfl
       have hlk:(Instr.lookup 96 (.map (some vb)) (.agg #[.int .i64 x.1.on,.int .i64 x.1.oa,.string x.1.key,.int .i64 e1,.int .i64 e2]) false).run Tryz.prog wa.drew=.ok (.map (some b)) wa.drew:=aI.hit (HDa.o.drew.sg.vals) bY Tryz.underlying96 (eX _) (sH.2 ⟨(((x.1.on,x.1.oa),x.1.key,(e1,e2)),b,E),by simp,rfl⟩) false;have g1:=cZ HDa.o.sg.blk 1 rfl;have w0:=cZ HDa.o.bw 0 rfl;have w1:=cZ HDa.o.bw 1 rfl;have w2:=cZ HDa.o.bw 2 rfl;have w3:=cZ HDa.o.bw 3 rfl;have w4:=cZ HDa.o.bw 4 rfl
       have i0:=cZ HDa.o.bi 0 rfl;have i1:=cZ HDa.o.bi 1 rfl
       have hst:=HDa.o.drew.sg.put (n:=x.2) HOK.o.id (fun e he=>HEN.o.2 e he) (by have:=HEN.o.1;simp only[maxLen];omega) (⟨x.1.vk,x.1.vn,x.1.vt,x.1.va,x.1.vb⟩);go_upto_region 25 with fail
       refine wp_region_still_tail 8 (by kernel_rfl) (by kernel_rfl) ?_;simp only[sV,tG,sY,tH];repeat (first|(refine aK rfl (fun K hK=>?_);go_simp;refine hK _ ?_;clear hK K)|(refine aO rfl ?_;go_frame))
       refine wpStill_nil ?_;change wpList _ _ _ _ _ wa.drew;refine dB wa.drew rfl (.tmp 129) (.tmp 130) (.tmp 131) 132 (Or.inl rfl) b (bB x.2) (vlV (⟨x.1.vk,x.1.vn,x.1.vt,x.1.va,x.1.vb⟩)) rfl rfl rfl _ hst ?_;rintro u9 ⟨ht9,hs9⟩;have HD9:=Hi (HDa.o.drew.turn qG ht9 hs9 (fun k hk=>.inl (mY hk)));clear y0 y1 y2 y3 y4 g1 w0 w1 w2 w3 w4 i0 i1 hlk c0 hk1 hk2;have hf:SMem B u9 g kb vb cb lb (K++[x]) (V1++(wh1 x,b,doE x E0)::V2) C1∧Below B w u9∧Chg (fun k=>k∈M) w u9:=by
        have h9:=HD9.o;have hv:=HTV.o;rw[←HKN.o,←HDO.o,←HP0.o]at h9;rw[←HP0.o]at hv;exact h9.fin hv HC1.o
       have HF:=Hi hf;clear hf hst ht9 hs9;go_wp2_with fail
       refine bodyPost_end (results_none rfl _ _ _) rfl ?_;exact⟨rfl,_,_,HF.o.1,HF.o.2.1,HCM.o _ HF.o.2.2⟩
      ·have HDO:Hid (doE x E0=E):=by
        show _=_;unfold doE rQ;rw[if_neg (fun h=>h.elim h1 h2),HEF.o]
       have hk1:(x.1.k == 2)=false:=by simp[h2]
       have hk2:(x.1.k == 1)=false:=by simp[h1]
       clear h1 h2 HEF;have hf:SMem B wa g kb vb cb lb (K++[x]) (V1++(wh1 x,b,doE x E0)::V2) C1∧Below B w wa∧Chg (fun k=>k∈M) w wa:=by
        have h9:=HDa.o;have hv:=HTV.o;rw[←HKN.o,←HDO.o,←HP0.o]at h9;rw[←HP0.o]at hv;exact h9.fin hv HC1.o
       have HF:=Hi hf;clear hf;go_wp2_with fail
       refine bodyPost_end (results_none rfl _ _ _) rfl ?_;exact⟨rfl,_,_,HF.o.1,HF.o.2.1,HCM.o _ HF.o.2.2⟩
end Go.Proofs.YtmpkejflgpodkaaGreatDoor
