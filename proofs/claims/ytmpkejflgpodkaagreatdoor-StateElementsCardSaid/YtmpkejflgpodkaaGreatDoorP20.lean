/- Contracts of package state: Do. -/
import Derived.Test.YtmpkejflgpodkaaGreatDoorP19
import Derived.Test.YtmpkejflgpodkaaGreatDoorP1
import Derived.Deep.DeepCutAuto
import Derived.Deep.CutBlock
set_option linter.unusedVariables false
set_option linter.unusedSimpArgs false
namespace Go.Proofs.YtmpkejflgpodkaaGreatDoor
open Go.ChangeShapes Go.WideShapes Go.ChangeAt Go.RowKit Go.Proofs.YtmpkejflgpodkaaGreatDoor.Loc
theorem build_where3 (a b : Int) (k : ByteArray) (c d : Int) (w : World) : (Instr.build 126 #[(0,.agg #[.int .i64 a,.int .i64 b]),(1,.string k),(2,.agg #[.int .i64 c,.int .i64 d])]).run Tryz.prog w=.ok (.agg #[.int .i64 a,.int .i64 b,.string k,.int .i64 c,.int .i64 d]) w:=by kernel_rfl
theorem map_isnil (b : Option Nat) (w : World) : (binOp .eql 132 (.map b) (.map none)).run Tryz.prog w=.ok (.bool b.isNone) w:=by cases b <;> kernel_rfl
theorem step_store {P : Program} {w : World} {ops : Array Oper} {o : Oper} {a : Act} {K : Act→World→Prop} {Q : Exit→Act→World→Prop} {E : Prop} (hgd : o.guard=none) (m x v : Operand) (t : TypeId) (ho : o.op=.mapUpdate t m x v) (mv key vv : Value) (hm : a.eval m=mv) (hx : a.eval x=key) (hv : a.eval v=vv) (R : World→Prop)
 (hr : ∃ w',(Instr.mapUpdate t mv key vv).run P w=.ok () w'∧R w') (h : ∀ w',R w'→K (a.put o.dst undef) w') :
 if Region.wanted o (yielded ops a.tmps)=true then Oper.wp P o a w K Q else E:=by
 have hw : Region.wanted o (yielded ops a.tmps)=true:=by simp [Region.wanted,hgd]
 rw [if_pos hw]
 obtain ⟨w',hrun,hR⟩:=hr
 unfold Oper.wp execOp
 simp only [ho,Sem.run_bind,Sem.run_pure,Result.andThen_ok,hm,hx,hv,hrun]
 exact h w' hR
structure DoOk (B : Nat) (w : World) (K : List OpI) (x : OpI) : Prop where
 pr : Reads (fun k=>k < B) w 2 x.1.A x.1.l.length (refC x.1.l)
 pl : x.1.l.length≤100000
 new : x.2∉K.map Prod.snd
 nz : x.2≠(0,0)
 id : I64R x.2
 ob : I64R (objP x)
 el : I64R (elP x)
 ps : ∀ p∈x.1.l,I64R p
 key : x.1.key.size≤maxLen
 len : K.length≤100000
set_option maxHeartbeats 16000000 in
set_option maxRecDepth 20000 in
theorem stDo_any (x : OpI) {K : List OpI} {B g kb vb cb lb : Nat} {V : ValsL} {C : KidsL} (w : World) (hm : SMem B w g kb vb cb lb K V C) (hk : DoOk B w K x) :
 Calls Tryz.prog 86 #[.pointer (some ⟨g,0,none⟩),opV x.1,.agg #[.int .i64 x.2.1,.int .i64 x.2.2]] w fun e w'=>e=.returned (.tuple #[])∧∃ V' C',SMem B w' g kb vb cb lb (K++[x]) V' C'∧Below B w w'∧Chg (fun k=>k∈allB g kb vb cb lb V C) w w':=by
 have HOK:=Lib.hid hk
 have HIV:=Lib.hid hm.isV
 have HIC:=Lib.hid hm.isC
 have hBw : B≤w.heap.size:=by have h1:=hm.low g (by simp [allB]);have h2:=hm.blk.lt;omega
 obtain ⟨q,hq⟩ : ∃ q,w.heap.size=q:=⟨_,rfl⟩
 have hq0 : w.heap.size≤q:=Nat.le_of_eq hq
 have HQ0:=Lib.hid hq0
 obtain ⟨M,hM⟩ : ∃ M,allB g kb vb cb lb V C=M:=⟨_,rfl⟩
 have HM:=Lib.hid hM
 have HCM : Hid (∀ U,Chg (fun k=>k∈M) w U→Chg (fun k=>k∈allB g kb vb cb lb V C) w U):=fun U h=>by rw [hM];exact h
 clear hM hq0
 have hba:=(Below.refl B w).alloc hBw (.cells #[.int .i64 x.1.k,.int .i64 x.1.on,.int .i64 x.1.oa,.string x.1.key,.int .i64 x.1.en,.int .i64 x.1.ea,.bool x.1.ins,.int .i64 x.1.vk,.int .i64 x.1.vn,.string x.1.vt,.int .i64 x.1.va,.int .i64 x.1.vb,.slice x.1.A x.1.l.length x.1.c] 88)
 have hbb:=hba.alloc (by simp;omega) (.cells #[.int .i64 x.2.1,.int .i64 x.2.2] 24)
 have hf : Below w.heap.size w ((w.alloc (.cells #[.int .i64 x.1.k,.int .i64 x.1.on,.int .i64 x.1.oa,.string x.1.key,.int .i64 x.1.en,.int .i64 x.1.ea,.bool x.1.ins,.int .i64 x.1.vk,.int .i64 x.1.vn,.string x.1.vt,.int .i64 x.1.va,.int .i64 x.1.vb,.slice x.1.A x.1.l.length x.1.c] 88)).alloc (.cells #[.int .i64 x.2.1,.int .i64 x.2.2] 24)):=((Below.refl _ w).alloc (Nat.le_refl _) _).alloc (by simp) _
 have hS:=hm.sg.below hf
 have hO:=Blk.new w 88 #[.int .i64 x.1.k,.int .i64 x.1.on,.int .i64 x.1.oa,.string x.1.key,.int .i64 x.1.en,.int .i64 x.1.ea,.bool x.1.ins,.int .i64 x.1.vk,.int .i64 x.1.vn,.string x.1.vt,.int .i64 x.1.va,.int .i64 x.1.vb,.slice x.1.A x.1.l.length x.1.c]
 have hI:=Blk.new (w.alloc (.cells #[.int .i64 x.1.k,.int .i64 x.1.on,.int .i64 x.1.oa,.string x.1.key,.int .i64 x.1.en,.int .i64 x.1.ea,.bool x.1.ins,.int .i64 x.1.vk,.int .i64 x.1.vn,.string x.1.vt,.int .i64 x.1.va,.int .i64 x.1.vb,.slice x.1.A x.1.l.length x.1.c] 88)) 24 #[.int .i64 x.2.1,.int .i64 x.2.2]
 have hO2:=hO.keep (w':=(w.alloc (.cells #[.int .i64 x.1.k,.int .i64 x.1.on,.int .i64 x.1.oa,.string x.1.key,.int .i64 x.1.en,.int .i64 x.1.ea,.bool x.1.ins,.int .i64 x.1.vk,.int .i64 x.1.vn,.string x.1.vt,.int .i64 x.1.va,.int .i64 x.1.vb,.slice x.1.A x.1.l.length x.1.c] 88)).alloc (.cells #[.int .i64 x.2.1,.int .i64 x.2.2] 24)) (((Below.refl _ _).alloc (Nat.le_refl _) _).block _ hO.lt)
 have hlt:=hm.sg.lt
 rw [World.size_alloc,hq] at hI
 rw [hq] at hO2 hBw hlt
 have HLT:=Lib.hid hlt
 have HBQ:=Lib.hid hBw
 have HS:=Lib.hid hS
 have HO:=Lib.hid hO2
 have HI:=Lib.hid hI
 have HB:=Lib.hid hbb
 have HCH : Hid (Chg (fun k=>k∈M) w ((w.alloc (.cells #[.int .i64 x.1.k,.int .i64 x.1.on,.int .i64 x.1.oa,.string x.1.key,.int .i64 x.1.en,.int .i64 x.1.ea,.bool x.1.ins,.int .i64 x.1.vk,.int .i64 x.1.vn,.string x.1.vt,.int .i64 x.1.va,.int .i64 x.1.vb,.slice x.1.A x.1.l.length x.1.c] 88)).alloc (.cells #[.int .i64 x.2.1,.int .i64 x.2.2] 24))):=((Chg.refl w).alloc _).alloc _
 have HSZ : Hid (((w.alloc (.cells #[.int .i64 x.1.k,.int .i64 x.1.on,.int .i64 x.1.oa,.string x.1.key,.int .i64 x.1.en,.int .i64 x.1.ea,.bool x.1.ins,.int .i64 x.1.vk,.int .i64 x.1.vn,.string x.1.vt,.int .i64 x.1.va,.int .i64 x.1.vb,.slice x.1.A x.1.l.length x.1.c] 88)).alloc (.cells #[.int .i64 x.2.1,.int .i64 x.2.2] 24)).heap.size=q+2):=by show _=_;rw [World.size_alloc,World.size_alloc,hq]
 unfold opV
 clear hm hk hba hbb hf hS hO hI hO2 hlt hBw
 go_enter Tryz.func86,Tryz.ntmps86
 go_upto_region 1 with fail
 clear hq
 generalize (w.alloc (.cells #[.int .i64 x.1.k,.int .i64 x.1.on,.int .i64 x.1.oa,.string x.1.key,.int .i64 x.1.en,.int .i64 x.1.ea,.bool x.1.ins,.int .i64 x.1.vk,.int .i64 x.1.vn,.string x.1.vt,.int .i64 x.1.va,.int .i64 x.1.vb,.slice x.1.A x.1.l.length x.1.c] 88)).alloc (.cells #[.int .i64 x.2.1,.int .i64 x.2.2] 24)=w1 at HO HI HB HSZ HS HCH ⊢
 have hbw:=fun w=>build_where3 x.1.on x.1.oa x.1.key x.1.en x.1.ea w
 have c1 : w1.cell? ⟨q,1,none⟩=some (.int .i64 x.1.on):=HO.out.cell 1
 have c2 : w1.cell? ⟨q,2,none⟩=some (.int .i64 x.1.oa):=HO.out.cell 2
 have c3 : w1.cell? ⟨q,3,none⟩=some (.string x.1.key):=HO.out.cell 3
 have c4 : w1.cell? ⟨q,4,none⟩=some (.int .i64 x.1.en):=HO.out.cell 4
 have c5 : w1.cell? ⟨q,5,none⟩=some (.int .i64 x.1.ea):=HO.out.cell 5
 have c6 : w1.cell? ⟨q,6,none⟩=some (.bool x.1.ins):=HO.out.cell 6
 go_upto_region 2 with fail
 rw [HSZ.out]
 have HD : Hid (DoM B q M w (w1.alloc (.cells #[.int .i64 x.1.on,.int .i64 x.1.oa,.string x.1.key,.int .i64 x.1.en,.int .i64 x.1.ea] 126)) x (elP x) g kb vb cb lb (newK K) V C (insL K)):=by
  have hb2 : Below w1.heap.size w1 (w1.alloc (.cells #[.int .i64 x.1.on,.int .i64 x.1.oa,.string x.1.key,.int .i64 x.1.en,.int .i64 x.1.ea] 126)):=(Below.refl _ w1).alloc (Nat.le_refl _) _
  have h3:=Blk.new w1 126 #[.int .i64 x.1.on,.int .i64 x.1.oa,.string x.1.key,.int .i64 x.1.en,.int .i64 x.1.ea]
  rw [HSZ.out] at h3
  have hB2 : B≤w1.heap.size:=by rw [HSZ.out];have:=HBQ.out;omega
  exact ⟨HS.out.below hb2,HO.out.keep (hb2.block _ HO.out.lt),HI.out.keep (hb2.block _ HI.out.lt),h3,fun k hk=>.inl (HLT.out k hk),HB.out.alloc hB2 _,(by rw [World.size_alloc];omega),(fun k hk _=>HM.out▸hk),HCH.out.alloc _,HQ0.out⟩
 clear c1 c2 c3 c4 c5 c6 hbw HO HI HB HS HSZ HLT
 generalize w1.alloc (.cells #[.int .i64 x.1.on,.int .i64 x.1.oa,.string x.1.key,.int .i64 x.1.en,.int .i64 x.1.ea] 126)=w2 at HD ⊢
 obtain ⟨ib,hib⟩ : ∃ b,x.1.ins=b:=⟨_,rfl⟩
 have HIB:=Lib.hid hib
 have c6 : w2.cell? ⟨q,6,none⟩=some (.bool ib):=by rw [← hib];exact HD.out.bo.cell 6
 clear hib
 go_upto_if 20 with fail
 go_cut [] (fun wc=>∃ C',Hid (C'.map (fun y=>(y.1,y.2.2))=newC (K++[x]))∧Hid (DoM B q M w wc x (elemP x) g kb vb cb lb (newK K) V C' (insL (K++[x]))))
 case first =>
  cases ib with
  | false =>
    have HCN : Hid (C.map (fun y=>(y.1,y.2.2))=newC (K++[x])):=by show _=_;rw [newC_do,HIB.out,HIC.out];rfl
    have HDN : Hid (DoM B q M w w2 x (elemP x) g kb vb cb lb (newK K) V C (insL (K++[x]))):=by
     have h1 : elemP x=elP x:=by unfold elemP;rw [HIB.out];rfl
     show DoM B q M w w2 x (elemP x) g kb vb cb lb (newK K) V C (insL (K++[x]))
     rw [h1,insL_do,HIB.out]
     exact HD.out
    go_wp2_with fail
    go_meet
    case rel=>exact ⟨C,HCN,HDN⟩
  | true =>
    go_upto_region 3 with fail
    go_cut [] (fun wc=>∃ C',Hid (C'.map (fun y=>(y.1,y.2.2))=putKi (C.map fun y=>(y.1,y.2.2)) (wh0 x) x.2)∧Hid (DoM B q M w wc x (elP x) g kb vb cb lb (newK K) V C' (insL K)))
    case first =>
     obtain ⟨SS,hSS⟩ : ∃ SS : World→Prop,SS=fun V=>V.cell? ⟨g,2,none⟩=some (.map (some cb))∧V.cell? ⟨q+2,0,none⟩=some (.int .i64 x.1.on)∧V.cell? ⟨q+2,1,none⟩=some (.int .i64 x.1.oa)∧V.cell? ⟨q+2,2,none⟩=some (.string x.1.key)∧V.cell? ⟨q+2,3,none⟩=some (.int .i64 x.1.en)∧V.cell? ⟨q+2,4,none⟩=some (.int .i64 x.1.ea)∧V.cell? ⟨q+1,0,none⟩=some (.int .i64 x.2.1)∧V.cell? ⟨q+1,1,none⟩=some (.int .i64 x.2.2):=⟨_,rfl⟩
     have HSI : ∀ V,(V.cell? ⟨g,2,none⟩=some (.map (some cb))∧V.cell? ⟨q+2,0,none⟩=some (.int .i64 x.1.on)∧V.cell? ⟨q+2,1,none⟩=some (.int .i64 x.1.oa)∧V.cell? ⟨q+2,2,none⟩=some (.string x.1.key)∧V.cell? ⟨q+2,3,none⟩=some (.int .i64 x.1.en)∧V.cell? ⟨q+2,4,none⟩=some (.int .i64 x.1.ea)∧V.cell? ⟨q+1,0,none⟩=some (.int .i64 x.2.1)∧V.cell? ⟨q+1,1,none⟩=some (.int .i64 x.2.2))→SS V:=fun V h=>by rw [hSS];exact h
     have HSO : ∀ V,SS V→(V.cell? ⟨g,2,none⟩=some (.map (some cb))∧V.cell? ⟨q+2,0,none⟩=some (.int .i64 x.1.on)∧V.cell? ⟨q+2,1,none⟩=some (.int .i64 x.1.oa)∧V.cell? ⟨q+2,2,none⟩=some (.string x.1.key)∧V.cell? ⟨q+2,3,none⟩=some (.int .i64 x.1.en)∧V.cell? ⟨q+2,4,none⟩=some (.int .i64 x.1.ea)∧V.cell? ⟨q+1,0,none⟩=some (.int .i64 x.2.1)∧V.cell? ⟨q+1,1,none⟩=some (.int .i64 x.2.2)):=fun V h=>by rw [hSS] at h;exact h
     have HSI:=Lib.hid HSI
     have HSO:=Lib.hid HSO
     clear hSS
     refine wp_region_held_drew (S:=SS) (by kernel_rfl) (HSI.out _ ⟨HD.out.drew.sg.blk.cell 2,HD.out.drew.bw.cell 0,HD.out.drew.bw.cell 1,HD.out.drew.bw.cell 2,HD.out.drew.bw.cell 3,HD.out.drew.bw.cell 4,HD.out.drew.bi.cell 0,HD.out.drew.bi.cell 1⟩) (fun hHeld=>?_)
     refine takeL (i:=0) (v:=?_) rfl (by kernel_rfl) (by kernel_rfl) (by kernel_rfl) (fun _ _ _ h=>h) (Or.inl ⟨by rfl,?_⟩) hHeld ?_
     rotate_left
     · (intro w _;go_simp;try with_reducible rfl)
     try simp only [Act.put,List.setIfInBounds_toArray,List.set_cons_zero,List.set_cons_succ]
     refine takeL (i:=1) (v:=?_) rfl (by kernel_rfl) (by kernel_rfl) (by kernel_rfl) (fun _ _ _ h=>h) (Or.inl ⟨by rfl,?_⟩) hHeld ?_
     rotate_left
     · (intro w _;go_simp;try with_reducible rfl)
     try simp only [Act.put,List.setIfInBounds_toArray,List.set_cons_zero,List.set_cons_succ]
     refine takeL (i:=2) (v:=?_) rfl (by kernel_rfl) (by kernel_rfl) (by kernel_rfl) (fun _ _ _ h=>h) (Or.inl ⟨by rfl,?_⟩) hHeld ?_
     rotate_left
     · (intro w _;go_simp;try with_reducible rfl)
     try simp only [Act.put,List.setIfInBounds_toArray,List.set_cons_zero,List.set_cons_succ]
     refine takeL (i:=3) (v:=?_) rfl (by kernel_rfl) (by kernel_rfl) (by kernel_rfl) (fun _ _ _ h=>h) (Or.inl ⟨by rfl,?_⟩) hHeld ?_
     rotate_left
     · (intro w hSw;obtain ⟨g2,-,-,-,-,-,-,-⟩:=HSO.out _ hSw;go_simp;try with_reducible rfl)
     try simp only [Act.put,List.setIfInBounds_toArray,List.set_cons_zero,List.set_cons_succ]
     refine takeL (i:=4) (v:=?_) rfl (by kernel_rfl) (by kernel_rfl) (by kernel_rfl) (fun _ _ _ h=>h) (Or.inl ⟨by rfl,?_⟩) hHeld ?_
     rotate_left
     · (intro w hSw;obtain ⟨-,w0,w1,w2,w3,w4,-,-⟩:=HSO.out _ hSw;go_simp;try with_reducible rfl)
     try simp only [Act.put,List.setIfInBounds_toArray,List.set_cons_zero,List.set_cons_succ]
     refine takeL (i:=5) (v:=?_) rfl (by kernel_rfl) (by kernel_rfl) (by kernel_rfl) (fun _ _ _ h=>h) (Or.inl ⟨by rfl,?_⟩) hHeld ?_
     rotate_left
     · (intro w hSw;obtain ⟨-,-,-,-,-,-,i0,i1⟩:=HSO.out _ hSw;go_simp;try with_reducible rfl)
     try simp only [Act.put,List.setIfInBounds_toArray,List.set_cons_zero,List.set_cons_succ]
     refine wpAnyH_ready (rs:=[6]) (by kernel_rfl) (by simp) ?_
     refine consL (i:=6) rfl (fun Kc hK=>?_) AllReadyH.nil
     go_simp
     have HDa : Hid (DoM B q M w (w2.alloc (.cells #[.int .i64 x.2.1,.int .i64 x.2.2] 24)).drew x (elP x) g kb vb cb lb (newK K) V C (insL K)):=(HD.out.alloc _).drew
     have HXa : Hid (Blk (w2.alloc (.cells #[.int .i64 x.2.1,.int .i64 x.2.2] 24)).drew w2.heap.size 24 #[.int .i64 x.2.1,.int .i64 x.2.2]):=Blk.new w2 _ _
     refine hK.out _ _ (HSI.out _ ⟨HDa.out.sg.blk.cell 2,HDa.out.bw.cell 0,HDa.out.bw.cell 1,HDa.out.bw.cell 2,HDa.out.bw.cell 3,HDa.out.bw.cell 4,HDa.out.bi.cell 0,HDa.out.bi.cell 1⟩) (fun hHeld=>?_)
     clear hK Kc
     try simp only [Act.put,List.setIfInBounds_toArray,List.set_cons_zero,List.set_cons_succ]
     generalize (w2.alloc (.cells #[.int .i64 x.2.1,.int .i64 x.2.2] 24)).drew=wa at HDa HXa ⊢
     refine wpAnyH_ready (rs:=[7]) (by kernel_rfl) (by simp) ?_
     refine consL (i:=7) rfl (fun Kc hK=>?_) AllReadyH.nil
     obtain ⟨u1,v0,c0,rs,hrun,ht1,hrow1,hrs,hv0,hthen⟩:=HDa.out.sg.kids_entry (p:=wh0 x) HOK.out.ob HOK.out.el HOK.out.key (by have h1:=(newC_len K).1;have h2:=HOK.out.len;rw [← HIC.out,List.length_map] at h1;simp only [maxLen];omega) x.2
     have hrl : rs.length≤100000:=by
      have h2:=HOK.out.len
      rcases hrs with rfl | ⟨y,hy,rfl⟩
      · simp
      · have h1:=(newC_len K).2 (y.1,y.2.2) (by rw [← HIC.out];exact List.mem_map_of_mem hy)
        simp only at h1
        omega
     have hcbm : cb∈allB g kb vb cb lb V C:=mem_allB.2 (by simp)
     have HD1:=Lib.hid (DoT.of HDa.out hcbm ht1)
     clear hrs
     refine step_entry (by rfl) (.tmp 24) (.tmp 25) 97 (by rfl) (.map (some cb)) (whV (wh0 x)) (by rfl) (by rfl) (fun v V1=>v=.tuple #[v0,.int .i64 (c0 : Nat)]∧V1=u1) ⟨_,_,hrun,rfl,rfl⟩ ?_
     rintro _ V1x ⟨rfl,hV1x⟩
     rw [hV1x]
     clear hrun hV1x V1x
     have HX1:=Lib.hid (HXa.out.keep (turned_keep ht1 HXa.out.lt (fun e=>by have:=HD.out.sg.lt _ hcbm;omega)))
     have HBL : Hid (Below u1.heap.size u1 u1):=Below.refl _ _
     refine hK.out _ _ (HSI.out _ ⟨HD1.out.bg.cell 2,HD1.out.bw.cell 0,HD1.out.bw.cell 1,HD1.out.bw.cell 2,HD1.out.bw.cell 3,HD1.out.bw.cell 4,HD1.out.bi.cell 0,HD1.out.bi.cell 1⟩) (fun hHeld=>?_)
     clear hK Kc
     try simp only [Act.put,List.setIfInBounds_toArray,List.set_cons_zero,List.set_cons_succ]
     refine takeL (i:=8) (v:=?_) rfl (by kernel_rfl) (by kernel_rfl) (by kernel_rfl) (fun _ _ _ h=>h) (Or.inl ⟨by rfl,?_⟩) hHeld ?_
     rotate_left
     · (intro w _;go_simp;try with_reducible rfl)
     try simp only [Act.put,List.setIfInBounds_toArray,List.set_cons_zero,List.set_cons_succ]
     refine takeL (i:=10) (v:=?_) rfl (by kernel_rfl) (by kernel_rfl) (by kernel_rfl) (fun _ _ _ h=>h) (Or.inl ⟨by rfl,?_⟩) hHeld ?_
     rotate_left
     · (intro w _;go_simp;try with_reducible rfl)
     try simp only [Act.put,List.setIfInBounds_toArray,List.set_cons_zero,List.set_cons_succ]
     obtain ⟨i0,hi,hz0,hz1,hz2⟩:=info_parts infoId
     have hro2 : World.ownsRow u1 B 24 2 v0 rs.length (refC rs):=hrow1
     refine wpAnyH_ready (rs:=[9]) (by kernel_rfl) (by simp) ?_
     refine consL (i:=9) rfl (fun Kc hK=>?_) AllReadyH.nil
     refine step_append_any _ (by rfl) (.tmp 26) (.tmp 28) 28 (by rfl) B 24 i0 _ 2 16 Tryz.underlying28 hi hz0 hz1 hz2 rfl (by omega) v0 rs.length (refC rs) (by rfl) hro2 _ (some ⟨w2.heap.size,0,none⟩) 1 1 [.int .i64 x.2.1,.int .i64 x.2.2] (by rfl) (blk_reads HX1.out (n:=2) rfl) (refC_one [x.2]) (by simp only [maxLen];omega) (by omega) HD1.out.hB ?_
     intro v9 u9 ho9 hg9 hat9
     have HD9:=Lib.hid (DoT.grown HD1.out hg9 (fun k hk=>hv0 k hk))
     refine hK.out _ _ (HSI.out _ ⟨HD9.out.bg.cell 2,HD9.out.bw.cell 0,HD9.out.bw.cell 1,HD9.out.bw.cell 2,HD9.out.bw.cell 3,HD9.out.bw.cell 4,HD9.out.bi.cell 0,HD9.out.bi.cell 1⟩) (fun hHeld=>?_)
     clear hK Kc
     try simp only [Act.put,List.setIfInBounds_toArray,List.set_cons_zero,List.set_cons_succ]
     obtain ⟨u4,hrun4,ht4,C',hC',hS4,hB4⟩:=hthen _ _ v9 HBL.out hg9 ho9 hat9
     refine wpAnyH_ready (rs:=[11]) (by kernel_rfl) (by simp) ?_
     refine consL (i:=11) rfl (fun Kc hK=>?_) AllReadyH.nil
     refine step_entryStore (by rfl) (.tmp 24) (.tmp 31) (.tmp 30) 97 (by rfl) (.map (some cb)) (.int .i64 (c0 : Nat)) v9 (by rfl) (by rfl) (by rfl) (fun V4=>V4=u4) ⟨_,hrun4,rfl⟩ ?_
     rintro V1x hV1x
     rw [hV1x]
     clear hV1x V1x
     have HD4:=Lib.hid (DoT.done HD9.out hcbm ht4 hS4 hB4 (by have h2:=HD1.out.hq;omega))
     refine hK.out _ _ (HSI.out _ ⟨HD4.out.sg.blk.cell 2,HD4.out.bw.cell 0,HD4.out.bw.cell 1,HD4.out.bw.cell 2,HD4.out.bw.cell 3,HD4.out.bw.cell 4,HD4.out.bi.cell 0,HD4.out.bi.cell 1⟩) (fun hHeld=>?_)
     clear hK Kc
     try simp only [Act.put,List.setIfInBounds_toArray,List.set_cons_zero,List.set_cons_succ]
     refine wpAnyH_done (by kernel_rfl) ?_ _
     have HC9:=Lib.hid hC'
     clear hthen hC' hS4 hB4 ht4 hrun4 ho9 hg9 hat9 hro2 hv0 hrow1 ht1
     go_wp2_with fail
     go_meet
     case rel=>exact ⟨C',HC9,HD4⟩
    case rest =>
     obtain ⟨C1,HC1,HD1⟩:=hcut
     clear HD c6
     have HCN : Hid (C1.map (fun y=>(y.1,y.2.2))=newC (K++[x])):=by show _=_;rw [newC_do,HIB.out,HC1.out,HIC.out];rfl
     have g3 : wc.cell? ⟨g,3,none⟩=some (.map (some lb)):=HD1.out.sg.blk.cell 3
     have i0 : wc.cell? ⟨q+1,0,none⟩=some (.int .i64 x.2.1):=HD1.out.bi.cell 0
     have i1 : wc.cell? ⟨q+1,1,none⟩=some (.int .i64 x.2.2):=HD1.out.bi.cell 1
     have c1 : wc.cell? ⟨q,1,none⟩=some (.int .i64 x.1.on):=HD1.out.bo.cell 1
     have c2 : wc.cell? ⟨q,2,none⟩=some (.int .i64 x.1.oa):=HD1.out.bo.cell 2
     have hst:=HD1.out.drew.sg.list_put (n:=x.2) (o:=objP x) HOK.out.id (insL_new HOK.out.new) (by have h1:=insL_len K;have h2:=HOK.out.len;simp only [maxLen];omega)
     go_upto_region 4 with fail
     refine wp_region_still_tail 7 (by kernel_rfl) (by kernel_rfl) ?_
     simp only [List.take_succ_cons,List.take_zero,List.drop_succ_cons,List.drop_zero]
     repeat (first | (refine wpStill_want rfl (fun K hK=>?_);go_simp;refine hK _ ?_;clear hK K) | (refine wpStill_skip rfl ?_;go_frame))
     refine wpStill_nil ?_
     change wpList _ _ _ _ _ wc.drew
     refine wpL_store wc.drew rfl (.tmp 35) (.tmp 36) (.tmp 38) 98 (Or.inl rfl) lb (refV x.2) (refV (objP x)) rfl rfl rfl _ hst ?_
     rintro w6 ⟨ht,hsg⟩
     have HD6:=Lib.hid (HD1.out.drew.turn (mem_allB.2 (.inr (.inr (.inr (.inr (.inl rfl)))))) ht hsg (fun k hk=>.inl hk))
     clear g3 i0 i1 c1 c2 hst ht hsg HD1 HC1
     have w3 : w6.cell? ⟨q+2,3,none⟩=some (.int .i64 x.1.en):=HD6.out.bw.cell 3
     have w4 : w6.cell? ⟨q+2,4,none⟩=some (.int .i64 x.1.ea):=HD6.out.bw.cell 4
     have i0 : w6.cell? ⟨q+1,0,none⟩=some (.int .i64 x.2.1):=HD6.out.bi.cell 0
     have i1 : w6.cell? ⟨q+1,1,none⟩=some (.int .i64 x.2.2):=HD6.out.bi.cell 1
     have f3:=HD6.out.bw.frozen 3
     have f4:=HD6.out.bw.frozen 4
     go_wp2_with fail
     go_meet
     case rel =>
      refine ⟨C1,HCN,?_⟩
      show DoM B q M w _ x (elemP x) g kb vb cb lb (newK K) V C1 (insL (K++[x]))
      have h1 : elemP x=x.2:=by unfold elemP;rw [HIB.out];rfl
      rw [h1,insL_do,HIB.out]
      exact HD6.out.elem (by have:=HBQ.out;omega) x.2
 case rest =>
  obtain ⟨C1,HC1,HD1⟩:=hcut
  clear HD c6 HIB HIC
  obtain ⟨vm,hrun,hvm⟩ : ∃ vm : Option Nat,(∀ U,SG B U g kb vb cb lb (newK K) V C1 (insL (K++[x]))→(Instr.lookup 96 (.map (some vb)) (whV (wh1 x)) false).run Tryz.prog U=.ok (.map vm) U) ∧
   (vm=none∧(∀ y∈V,y.1≠wh1 x)∨∃ V1 b E V2,vm=some b∧V=V1++(wh1 x,b,E)::V2):=by
   rcases HD1.out.sg.vals_look (p:=wh1 x) HOK.out.ob (elem64 HOK.out.id HOK.out.el) HOK.out.key with ⟨V1,b,E,V2,h1,h2⟩ | ⟨h1,h2⟩
   · exact ⟨some b,h2,.inr ⟨V1,b,E,V2,rfl,h1⟩⟩
   · exact ⟨none,h2,.inl ⟨rfl,h1⟩⟩
  obtain ⟨⟨e1,e2⟩,hpe⟩ : ∃ r : Rf,elemP x=r:=⟨_,rfl⟩
  have HE64 : Hid (I64R (e1,e2)):=by show I64R _;rw [← hpe];exact elem64 HOK.out.id HOK.out.el
  have hp0 : wh1 x=((x.1.on,x.1.oa),x.1.key,(e1,e2)):=by unfold wh1;rw [hpe];rfl
  have HP0:=Lib.hid hp0
  rw [hpe] at HD1
  rw [hp0] at hvm
  have HVM:=Lib.hid hvm
  have hlk : (Instr.lookup 96 (.map (some vb)) (.agg #[.int .i64 x.1.on,.int .i64 x.1.oa,.string x.1.key,.int .i64 e1,.int .i64 e2]) false).run Tryz.prog wc.drew=.ok (.map vm) wc.drew:=by
   have:=hrun _ HD1.out.drew.sg
   unfold whV wh1 at this
   rw [hpe] at this
   exact this
  have hnil:=fun w=>map_isnil vm w
  have g1 : wc.cell? ⟨g,1,none⟩=some (.map (some vb)):=HD1.out.sg.blk.cell 1
  have w0 : wc.cell? ⟨q+2,0,none⟩=some (.int .i64 x.1.on):=HD1.out.bw.cell 0
  have w1 : wc.cell? ⟨q+2,1,none⟩=some (.int .i64 x.1.oa):=HD1.out.bw.cell 1
  have w2 : wc.cell? ⟨q+2,2,none⟩=some (.string x.1.key):=HD1.out.bw.cell 2
  have w3 : wc.cell? ⟨q+2,3,none⟩=some (.int .i64 e1):=HD1.out.bw.cell 3
  have w4 : wc.cell? ⟨q+2,4,none⟩=some (.int .i64 e2):=HD1.out.bw.cell 4
  clear hrun hvm hpe hp0
  go_upto_region 6 with fail
  refine wp_region_still_lit (by kernel_rfl) (by kernel_rfl) ?_
  repeat (first | (refine wpStill_want rfl (fun K hK=>?_);go_simp;refine hK _ ?_;clear hK K) | (refine wpStill_skip rfl ?_;go_frame))
  refine wpStill_nil ?_
  change Exit.then _ _ _ _ wc.drew
  have HD2:=Lib.hid HD1.out.drew
  clear g1 w0 w1 w2 w3 w4 hlk HD1 hnil
  generalize wc.drew=w5 at HD2 ⊢
  go_upto_if 47 with fail
  go_cut [] (fun wd=>∃ V1 b E V2,Hid ((V1++(((x.1.on,x.1.oa),x.1.key,(e1,e2)),b,E)::V2).map (fun y=>(y.1,y.2.2))=touchV (newV K) ((x.1.on,x.1.oa),x.1.key,(e1,e2)))∧Hid (DoM B q M w wd x (e1,e2) g kb vb cb lb (newK K) (V1++(((x.1.on,x.1.oa),x.1.key,(e1,e2)),b,E)::V2) C1 (insL (K++[x]))))
  case first =>
   rcases HVM.out with ⟨rfl,hno⟩ | ⟨V1,b,E,V2,rfl,hV⟩
   · skip
     go_upto_region 7 with fail
     have htouch:=HD2.out.drew.sg.touch (p:=((x.1.on,x.1.oa),x.1.key,(e1,e2))) HOK.out.ob HE64.out HOK.out.key hno (by have h1:=(newV_b K).len;have h2:=HOK.out.len;rw [← HIV.out,List.length_map] at h1;simp only [maxLen];omega) HD2.out.hB
     obtain ⟨SS,hSS⟩ : ∃ SS : World→Prop,SS=fun V=>V.cell? ⟨g,1,none⟩=some (.map (some vb))∧V.cell? ⟨q+2,0,none⟩=some (.int .i64 x.1.on)∧V.cell? ⟨q+2,1,none⟩=some (.int .i64 x.1.oa)∧V.cell? ⟨q+2,2,none⟩=some (.string x.1.key)∧V.cell? ⟨q+2,3,none⟩=some (.int .i64 e1)∧V.cell? ⟨q+2,4,none⟩=some (.int .i64 e2):=⟨_,rfl⟩
     have HSI : ∀ V,(V.cell? ⟨g,1,none⟩=some (.map (some vb))∧V.cell? ⟨q+2,0,none⟩=some (.int .i64 x.1.on)∧V.cell? ⟨q+2,1,none⟩=some (.int .i64 x.1.oa)∧V.cell? ⟨q+2,2,none⟩=some (.string x.1.key)∧V.cell? ⟨q+2,3,none⟩=some (.int .i64 e1)∧V.cell? ⟨q+2,4,none⟩=some (.int .i64 e2))→SS V:=fun V h=>by rw [hSS];exact h
     have HSO : ∀ V,SS V→(V.cell? ⟨g,1,none⟩=some (.map (some vb))∧V.cell? ⟨q+2,0,none⟩=some (.int .i64 x.1.on)∧V.cell? ⟨q+2,1,none⟩=some (.int .i64 x.1.oa)∧V.cell? ⟨q+2,2,none⟩=some (.string x.1.key)∧V.cell? ⟨q+2,3,none⟩=some (.int .i64 e1)∧V.cell? ⟨q+2,4,none⟩=some (.int .i64 e2)):=fun V h=>by rw [hSS] at h;exact h
     have HSI:=Lib.hid HSI
     have HSO:=Lib.hid HSO
     clear hSS
     refine wp_region_held_drew (S:=SS) (by kernel_rfl) (HSI.out _ ⟨HD2.out.drew.sg.blk.cell 1,HD2.out.drew.bw.cell 0,HD2.out.drew.bw.cell 1,HD2.out.drew.bw.cell 2,HD2.out.drew.bw.cell 3,HD2.out.drew.bw.cell 4⟩) (fun hHeld=>?_)
     refine takeL (i:=0) (v:=?_) rfl (by kernel_rfl) (by kernel_rfl) (by kernel_rfl) (fun _ _ _ h=>h) (Or.inl ⟨by rfl,?_⟩) hHeld ?_
     rotate_left
     · (intro w _;go_simp;try with_reducible rfl)
     try simp only [Act.put,List.setIfInBounds_toArray,List.set_cons_zero,List.set_cons_succ]
     refine takeL (i:=1) (v:=?_) rfl (by kernel_rfl) (by kernel_rfl) (by kernel_rfl) (fun _ _ _ h=>h) (Or.inl ⟨by rfl,?_⟩) hHeld ?_
     rotate_left
     · (intro w _;go_simp;try with_reducible rfl)
     try simp only [Act.put,List.setIfInBounds_toArray,List.set_cons_zero,List.set_cons_succ]
     refine takeL (i:=2) (v:=?_) rfl (by kernel_rfl) (by kernel_rfl) (by kernel_rfl) (fun _ _ _ h=>h) (Or.inl ⟨by rfl,?_⟩) hHeld ?_
     rotate_left
     · (intro w _;go_simp;try with_reducible rfl)
     try simp only [Act.put,List.setIfInBounds_toArray,List.set_cons_zero,List.set_cons_succ]
     refine takeL (i:=3) (v:=?_) rfl (by kernel_rfl) (by kernel_rfl) (by kernel_rfl) (fun _ _ _ h=>h) (Or.inl ⟨by rfl,?_⟩) hHeld ?_
     rotate_left
     · (intro w hSw;obtain ⟨g1,-,-,-,-,-⟩:=HSO.out _ hSw;go_simp;try with_reducible rfl)
     try simp only [Act.put,List.setIfInBounds_toArray,List.set_cons_zero,List.set_cons_succ]
     refine takeL (i:=4) (v:=?_) rfl (by kernel_rfl) (by kernel_rfl) (by kernel_rfl) (fun _ _ _ h=>h) (Or.inl ⟨by rfl,?_⟩) hHeld ?_
     rotate_left
     · (intro w hSw;obtain ⟨-,w0,w1,w2,w3,w4⟩:=HSO.out _ hSw;go_simp;try with_reducible rfl)
     try simp only [Act.put,List.setIfInBounds_toArray,List.set_cons_zero,List.set_cons_succ]
     refine wpAnyH_ready (rs:=[5]) (by kernel_rfl) (by simp) ?_
     refine consL (i:=5) rfl (fun Kc hK=>?_) AllReadyH.nil
     go_simp
     have HDa : Hid (DoM B q M w (w5.drew.alloc (.map #[] 0)) x (e1,e2) g kb vb cb lb (newK K) V C1 (insL (K++[x]))):=HD2.out.drew.alloc _
     refine hK.out _ _ (HSI.out _ ⟨HDa.out.sg.blk.cell 1,HDa.out.bw.cell 0,HDa.out.bw.cell 1,HDa.out.bw.cell 2,HDa.out.bw.cell 3,HDa.out.bw.cell 4⟩) (fun hHeld=>?_)
     clear hK Kc
     try simp only [Act.put,List.setIfInBounds_toArray,List.set_cons_zero,List.set_cons_succ]
     refine wpAnyH_ready (rs:=[6]) (by kernel_rfl) (by simp) ?_
     refine consL (i:=6) rfl (fun Kc hK=>?_) AllReadyH.nil
     refine step_store (by rfl) (.tmp 51) (.tmp 52) (.tmp 53) 96 (by rfl) (.map (some vb)) (.agg #[.int .i64 x.1.on,.int .i64 x.1.oa,.string x.1.key,.int .i64 e1,.int .i64 e2]) (.map (some w5.heap.size)) (by rfl) (by rfl) (by rfl) _ htouch ?_
     rintro u7 ⟨ht7,hs7⟩
     have HD7:=Lib.hid (HDa.out.turn (b:=vb) (mem_allB.2 (.inr (.inr (.inl rfl)))) ht7 hs7 (fun k hk=>allB_snoc hk (by have:=HD2.out.bw.lt;show q+3≤w5.heap.size;omega)))
     refine hK.out _ _ (HSI.out _ ⟨HD7.out.sg.blk.cell 1,HD7.out.bw.cell 0,HD7.out.bw.cell 1,HD7.out.bw.cell 2,HD7.out.bw.cell 3,HD7.out.bw.cell 4⟩) (fun hHeld=>?_)
     clear hK Kc
     try simp only [Act.put,List.setIfInBounds_toArray,List.set_cons_zero,List.set_cons_succ]
     refine wpAnyH_done (by kernel_rfl) ?_ _
     have HTV : Hid ((V++[(((x.1.on,x.1.oa),x.1.key,(e1,e2)),w5.heap.size,[])]).map (fun y : Wh × Nat × List (Rf × VD)=>(y.1,y.2.2))=touchV (newV K) ((x.1.on,x.1.oa),x.1.key,(e1,e2))):=by
      show _=_
      unfold touchV
      rw [if_neg,List.map_append,HIV.out]
      · rfl
      · rintro ⟨e,he,h1⟩
        rw [← HIV.out] at he
        obtain ⟨y,hy,rfl⟩:=List.mem_map.1 he
        exact hno y hy h1
     clear htouch ht7 hs7 hno HDa
     go_wp2_with fail
     go_meet
     case rel=>exact ⟨V,w5.heap.size,[],[],HTV,HD7⟩
   · have HTV : Hid (V.map (fun y=>(y.1,y.2.2))=touchV (newV K) ((x.1.on,x.1.oa),x.1.key,(e1,e2))):=by
      show _=_
      unfold touchV
      rw [if_pos,HIV.out]
      refine ⟨(((x.1.on,x.1.oa),x.1.key,(e1,e2)),E),?_,rfl⟩
      rw [← HIV.out,hV]
      simp
     subst hV
     go_wp2_with fail
     go_meet
     case rel=>exact ⟨V1,b,E,V2,HTV,HD2⟩
  case rest =>
   obtain ⟨V1,b,E0,V2,HTV,HD3⟩:=hcut
   clear HD2 HVM
   obtain ⟨n,hn⟩ : ∃ n,x.1.l.length=n:=⟨_,rfl⟩
   obtain ⟨A,hA⟩ : ∃ A,x.1.A=A:=⟨_,rfl⟩
   have HN:=Lib.hid hn
   have hnl : n≤100000:=by rw [← hn];exact HOK.out.pl
   have HPR : Hid (Reads (fun k=>k < B) w 2 A n (refC x.1.l)):=by have:=HOK.out.pr;rw [hn,hA] at this;exact this
   have HE0 : Hid (E0.length≤100000∧∀ e∈E0,e.1≠x.2):=by have h1:=start_E HTV.out HOK.out.new;have h2:=HOK.out.len;exact ⟨by omega,h1.2⟩
   have c12 : wc.cell? ⟨q,12,none⟩=some (.slice A n x.1.c):=by rw [← hA,← hn];exact HD3.out.bo.cell 12
   clear hn hA
   go_upto_region 9 with fail
   go_loopw [8,9,10,57] (fun _ _ _ s57 wr=>∃ (j : Nat) (E : List (Rf × VD)),s57=.int .i64 j∧j≤n∧Hid (E=(x.1.l.take j).foldl (predE x) E0)∧Hid (DoM B q M w wr x (e1,e2) g kb vb cb lb (newK K) (V1++(((x.1.on,x.1.oa),x.1.key,(e1,e2)),b,E)::V2) C1 (insL (K++[x])))) (fun _ _ _ s57 _=>n - (intOf s57).toNat)
   case atStart=>exact ⟨0,E0,rfl,by omega,rfl,HD3⟩
   case round =>
    clear HD3 c12
    obtain ⟨j,E,rfl,hj,HE,HDr⟩:=hrel
    by_cases hlt : j < n
    · obtain ⟨⟨p1,p2⟩,hp⟩ : ∃ p,x.1.l[j]?=some p:=⟨_,List.getElem?_eq_getElem (by rw [HN.out];exact hlt)⟩
      have HQ64 : Hid (I64R (p1,p2)):=HOK.out.ps _ (List.mem_of_getElem? hp)
      have hrr : Reads (fun k=>k < B) wr 2 A n (refC x.1.l):=HPR.out.keep fun k hk=>HDr.out.bel.block k hk
      obtain ⟨pb,po,rfl,hpb,hc⟩:=hrr.at_ (by omega) (by omega)
      have z0 : wr.cell? ⟨pb,po+j*2,none⟩=some (.int .i64 p1):=hc _ _ ((refC_at hp).1)
      have z1 : wr.cell? ⟨pb,po+j*2+1,none⟩=some (.int .i64 p2):=by have:=hc _ _ ((refC_at hp).2);rw [← Nat.add_assoc] at this;exact this
      have HEJ : Hid (predE x E (p1,p2)=(x.1.l.take (j+1)).foldl (predE x) E0):=by show _=_;rw [List.take_add_one,hp,List.foldl_append,← HE.out];rfl
      clear hrr hp hpb hc HE
      go_upto_block 1 with fail
      go_cut [8,9,10] (fun _ _ _ wc=>Hid (DoM B q M w wc x (e1,e2) g kb vb cb lb (newK K) (V1++(((x.1.on,x.1.oa),x.1.key,(e1,e2)),b,predE x E (p1,p2))::V2) C1 (insL (K++[x]))))
      case first =>
       go_upto_region 11 with fail
       have HDa:=Lib.hid (HDr.out.alloc (.cells #[.int .i64 p1,.int .i64 p2] 24))
       have HR:=Lib.hid (Blk.new wr 24 #[.int .i64 p1,.int .i64 p2])
       clear z0 z1 HDr
       generalize wr.alloc (.cells #[.int .i64 p1,.int .i64 p2] 24)=wa at HDa HR ⊢
       generalize wr.heap.size=r1 at HR ⊢
       obtain ⟨b4,hb4⟩ : ∃ b4,(x.1.k != 4)=b4:=⟨_,rfl⟩
       have c0 : wa.cell? ⟨q,0,none⟩=some (.int .i64 x.1.k):=HDa.out.bo.cell 0
       have HB4':=Lib.hid hb4
       go_upto_if 63 with fail
       clear hb4 c0
       cases b4 with
       | true =>
         have HB4 : Hid (¬ x.1.k=4):=by have:=HB4'.out;show ¬ _;simpa using this
         have HEN : Hid (predE x E (p1,p2)=E.filter fun e=>decide (e.1≠(p1,p2))):=by show _=_;unfold predE;rw [if_neg HB4.out]
         have hlk : (Instr.lookup 96 (.map (some vb)) (.agg #[.int .i64 x.1.on,.int .i64 x.1.oa,.string x.1.key,.int .i64 e1,.int .i64 e2]) false).run Tryz.prog wa.drew=.ok (.map (some b)) wa.drew:=MapL.hit (HDa.out.drew.sg.vals) keyed_where Tryz.underlying96 (zero_map _) (List.mem_map.2 ⟨(((x.1.on,x.1.oa),x.1.key,(e1,e2)),b,E),by simp,rfl⟩) false
         have g1 : wa.cell? ⟨g,1,none⟩=some (.map (some vb)):=HDa.out.sg.blk.cell 1
         have w0 : wa.cell? ⟨q+2,0,none⟩=some (.int .i64 x.1.on):=HDa.out.bw.cell 0
         have w1 : wa.cell? ⟨q+2,1,none⟩=some (.int .i64 x.1.oa):=HDa.out.bw.cell 1
         have w2 : wa.cell? ⟨q+2,2,none⟩=some (.string x.1.key):=HDa.out.bw.cell 2
         have w3 : wa.cell? ⟨q+2,3,none⟩=some (.int .i64 e1):=HDa.out.bw.cell 3
         have w4 : wa.cell? ⟨q+2,4,none⟩=some (.int .i64 e2):=HDa.out.bw.cell 4
         have z0 : wa.cell? ⟨r1,0,none⟩=some (.int .i64 p1):=HR.out.cell 0
         have z1 : wa.cell? ⟨r1,1,none⟩=some (.int .i64 p2):=HR.out.cell 1
         have hst:=fun ty=>HDa.out.drew.sg.del (q:=(p1,p2)) HQ64.out ty
         go_upto_region 12 with fail
         refine wp_region_still_tail 7 (by kernel_rfl) (by kernel_rfl) ?_
         simp only [List.take_succ_cons,List.take_zero,List.drop_succ_cons,List.drop_zero]
         repeat (first | (refine wpStill_want rfl (fun K hK=>?_);go_simp;refine hK _ ?_;clear hK K) | (refine wpStill_skip rfl ?_;go_frame))
         refine wpStill_nil ?_
         change wpList _ _ _ _ _ wa.drew
         refine wpL_delete wa.drew rfl (.tmp 69) (.tmp 70) 132 24 rfl b (refV (p1,p2)) rfl rfl _ hst ?_
         rintro u9 ⟨ht9,hs9⟩
         have HD9:=Lib.hid (HDa.out.drew.turn allB_mid ht9 hs9 (fun k hk=>.inl (allB_same hk)))
         rw [← HEN.out] at HD9
         clear z0 z1 hst ht9 hs9 hlk g1 w0 w1 w2 w3 w4
         go_wp2_with fail
         go_meet
         case rel=>exact HD9
       | false =>
         have HB4 : Hid (x.1.k=4):=by have:=HB4'.out;show _=_;simpa using this
         rcases HDa.out.sg.val_look (q:=(p1,p2)) HQ64.out with ⟨v,hmv,hrun2⟩ | ⟨hno,hrun2⟩
         · have HEN : Hid (predE x E (p1,p2)=E.map fun e=>if e.1=(p1,p2) then (e.1,e.2.add x.1.vn) else e):=by show _=_;unfold predE;rw [if_pos HB4.out]
           have HMV:=Lib.hid hmv
           clear hmv
           obtain ⟨va,hva⟩ : ∃ va : VD,v=va:=⟨_,rfl⟩
           have HVA:=Lib.hid hva
           have hlk : (Instr.lookup 96 (.map (some vb)) (.agg #[.int .i64 x.1.on,.int .i64 x.1.oa,.string x.1.key,.int .i64 e1,.int .i64 e2]) false).run Tryz.prog wa.drew=.ok (.map (some b)) wa.drew:=MapL.hit (HDa.out.drew.sg.vals) keyed_where Tryz.underlying96 (zero_map _) (List.mem_map.2 ⟨(((x.1.on,x.1.oa),x.1.key,(e1,e2)),b,E),by simp,rfl⟩) false
           have hl2 : (Instr.lookup 132 (.map (some b)) (.agg #[.int .i64 p1,.int .i64 p2]) true).run Tryz.prog wa.drew=.ok (.tuple #[.agg #[.int .i64 va.k,.int .i64 va.n,.string va.t,.int .i64 va.a,.int .i64 va.b],.bool true]) wa.drew:=by have:=hrun2 _ HDa.out.drew.sg;rw [hva] at this;exact this
           have g1 : wa.cell? ⟨g,1,none⟩=some (.map (some vb)):=HDa.out.sg.blk.cell 1
           have w0 : wa.cell? ⟨q+2,0,none⟩=some (.int .i64 x.1.on):=HDa.out.bw.cell 0
           have w1 : wa.cell? ⟨q+2,1,none⟩=some (.int .i64 x.1.oa):=HDa.out.bw.cell 1
           have w2 : wa.cell? ⟨q+2,2,none⟩=some (.string x.1.key):=HDa.out.bw.cell 2
           have w3 : wa.cell? ⟨q+2,3,none⟩=some (.int .i64 e1):=HDa.out.bw.cell 3
           have w4 : wa.cell? ⟨q+2,4,none⟩=some (.int .i64 e2):=HDa.out.bw.cell 4
           have z0 : wa.cell? ⟨r1,0,none⟩=some (.int .i64 p1):=HR.out.cell 0
           have z1 : wa.cell? ⟨r1,1,none⟩=some (.int .i64 p2):=HR.out.cell 1
           have KS : ∀ o,(wa.drew.alloc o).cell? ⟨g,1,none⟩=some (.map (some vb))∧(wa.drew.alloc o).cell? ⟨q+2,0,none⟩=some (.int .i64 x.1.on)∧(wa.drew.alloc o).cell? ⟨q+2,1,none⟩=some (.int .i64 x.1.oa)∧(wa.drew.alloc o).cell? ⟨q+2,2,none⟩=some (.string x.1.key)∧(wa.drew.alloc o).cell? ⟨q+2,3,none⟩=some (.int .i64 e1)∧(wa.drew.alloc o).cell? ⟨q+2,4,none⟩=some (.int .i64 e2)∧(wa.drew.alloc o).cell? ⟨r1,0,none⟩=some (.int .i64 p1)∧(wa.drew.alloc o).cell? ⟨r1,1,none⟩=some (.int .i64 p2)∧(Instr.lookup 96 (.map (some vb)) (.agg #[.int .i64 x.1.on,.int .i64 x.1.oa,.string x.1.key,.int .i64 e1,.int .i64 e2]) false).run Tryz.prog (wa.drew.alloc o)=.ok (.map (some b)) (wa.drew.alloc o)∧(Instr.lookup 132 (.map (some b)) (.agg #[.int .i64 p1,.int .i64 p2]) true).run Tryz.prog (wa.drew.alloc o)=.ok (.tuple #[.agg #[.int .i64 va.k,.int .i64 va.n,.string va.t,.int .i64 va.a,.int .i64 va.b],.bool true]) (wa.drew.alloc o):=fun o=>by
            have hd:=HDa.out.drew.alloc o
            have hr:=HR.out.keep (w':=wa.drew.alloc o) (Below.heap_alloc _ _ _ HR.out.lt)
            have hlk2 : (Instr.lookup 96 (.map (some vb)) (.agg #[.int .i64 x.1.on,.int .i64 x.1.oa,.string x.1.key,.int .i64 e1,.int .i64 e2]) false).run Tryz.prog (wa.drew.alloc o)=.ok (.map (some b)) (wa.drew.alloc o):=MapL.hit (hd.sg.vals) keyed_where Tryz.underlying96 (zero_map _) (List.mem_map.2 ⟨(((x.1.on,x.1.oa),x.1.key,(e1,e2)),b,E),by simp,rfl⟩) false
            have hl3 : (Instr.lookup 132 (.map (some b)) (.agg #[.int .i64 p1,.int .i64 p2]) true).run Tryz.prog (wa.drew.alloc o)=.ok (.tuple #[.agg #[.int .i64 va.k,.int .i64 va.n,.string va.t,.int .i64 va.a,.int .i64 va.b],.bool true]) (wa.drew.alloc o):=by have:=hrun2 _ hd.sg;rw [hva] at this;exact this
            exact ⟨hd.sg.blk.cell 1,hd.bw.cell 0,hd.bw.cell 1,hd.bw.cell 2,hd.bw.cell 3,hd.bw.cell 4,hr.cell 0,hr.cell 1,hlk2,hl3⟩
           clear hva
           go_upto_region 13 with fail
           go_region_held3 (fun w'=>w'.cell? ⟨g,1,none⟩=some (.map (some vb))∧w'.cell? ⟨q+2,0,none⟩=some (.int .i64 x.1.on)∧w'.cell? ⟨q+2,1,none⟩=some (.int .i64 x.1.oa)∧w'.cell? ⟨q+2,2,none⟩=some (.string x.1.key)∧w'.cell? ⟨q+2,3,none⟩=some (.int .i64 e1)∧w'.cell? ⟨q+2,4,none⟩=some (.int .i64 e2)∧w'.cell? ⟨r1,0,none⟩=some (.int .i64 p1)∧w'.cell? ⟨r1,1,none⟩=some (.int .i64 p2)∧(Instr.lookup 96 (.map (some vb)) (.agg #[.int .i64 x.1.on,.int .i64 x.1.oa,.string x.1.key,.int .i64 e1,.int .i64 e2]) false).run Tryz.prog w'=.ok (.map (some b)) w'∧(Instr.lookup 132 (.map (some b)) (.agg #[.int .i64 p1,.int .i64 p2]) true).run Tryz.prog w'=.ok (.tuple #[.agg #[.int .i64 va.k,.int .i64 va.n,.string va.t,.int .i64 va.a,.int .i64 va.b],.bool true]) w') (first | exact ⟨g1,w0,w1,w2,w3,w4,z0,z1,hlk,hl2⟩ | exact KS _ | go_keep) (fail)
           all_goals
            clear KS g1 w0 w1 w2 w3 w4 z0 z1 hlk hl2 hrun2
            have HDb : Hid (DoM B q M w (wa.alloc (.cells #[.int .i64 va.k,.int .i64 va.n,.string va.t,.int .i64 va.a,.int .i64 va.b] 50)).drew x (e1,e2) g kb vb cb lb (newK K) (V1++(((x.1.on,x.1.oa),x.1.key,(e1,e2)),b,E)::V2) C1 (insL (K++[x]))):=(HDa.out.alloc _).drew
            have HRb : Hid (Blk (wa.alloc (.cells #[.int .i64 va.k,.int .i64 va.n,.string va.t,.int .i64 va.a,.int .i64 va.b] 50)).drew r1 24 #[.int .i64 p1,.int .i64 p2]):=HR.out.keep (Below.heap_alloc _ _ _ HR.out.lt)
            have HVb : Hid (Blk (wa.alloc (.cells #[.int .i64 va.k,.int .i64 va.n,.string va.t,.int .i64 va.a,.int .i64 va.b] 50)).drew wa.heap.size 50 #[.int .i64 va.k,.int .i64 va.n,.string va.t,.int .i64 va.a,.int .i64 va.b]):=Blk.new wa _ _
            have HNV : Hid (wa.heap.size∉allB g kb vb cb lb (V1++(((x.1.on,x.1.oa),x.1.key,(e1,e2)),b,E)::V2) C1∧q+3≤wa.heap.size∧B≤wa.heap.size∧r1 < wa.heap.size):=⟨fun h=>by have:=HDa.out.sg.lt _ h;omega,HDa.out.bw.lt,HDa.out.hB,HR.out.lt⟩
            generalize (wa.alloc (.cells #[.int .i64 va.k,.int .i64 va.n,.string va.t,.int .i64 va.a,.int .i64 va.b] 50)).drew=wb at HDb HRb HVb ⊢
            generalize wa.heap.size=r2 at HNV HVb ⊢
            have v1 : wb.cell? ⟨r2,1,none⟩=some (.int .i64 va.n):=HVb.out.cell 1
            have fv:=HVb.out.frozen 1
            obtain ⟨nv,hnv⟩ : ∃ nv,wrap64 (va.n+x.1.vn)=nv:=⟨_,rfl⟩
            have HNW : Hid (vlV (va.add x.1.vn)=.agg #[.int .i64 va.k,.int .i64 nv,.string va.t,.int .i64 va.a,.int .i64 va.b]):=by show _=_;rw [← hnv,← IntWalk.i64_left];rfl
            have c8 : wb.cell? ⟨q,8,none⟩=some (.int .i64 x.1.vn):=HDb.out.bo.cell 8
            go_upto_region 16 with fail
            have HDc:=Lib.hid (HDb.out.far (p:=⟨r2,1,none⟩) HNV.out.2.1 HNV.out.1 HNV.out.2.2.1 (.int .i64 nv))
            have HRc : Hid (Blk (wb.setCell ⟨r2,1,none⟩ (.int .i64 nv)) r1 24 #[.int .i64 p1,.int .i64 p2]):=HRb.out.keep (Below.heap_setCell _ _ _ _ (by have:=HNV.out.2.2.2;show r1≠r2;omega))
            have HVc : Hid (Blk (wb.setCell ⟨r2,1,none⟩ (.int .i64 nv)) r2 50 #[.int .i64 va.k,.int .i64 nv,.string va.t,.int .i64 va.a,.int .i64 va.b]):=HVb.out.set_ 1 _
            clear v1 fv c8 hnv HDb HRb HVb
            generalize wb.setCell ⟨r2,1,none⟩ (.int .i64 nv)=wd at HDc HRc HVc ⊢
            have hlk : (Instr.lookup 96 (.map (some vb)) (.agg #[.int .i64 x.1.on,.int .i64 x.1.oa,.string x.1.key,.int .i64 e1,.int .i64 e2]) false).run Tryz.prog wd.drew=.ok (.map (some b)) wd.drew:=MapL.hit (HDc.out.drew.sg.vals) keyed_where Tryz.underlying96 (zero_map _) (List.mem_map.2 ⟨(((x.1.on,x.1.oa),x.1.key,(e1,e2)),b,E),by simp,rfl⟩) false
            have g1 : wd.cell? ⟨g,1,none⟩=some (.map (some vb)):=HDc.out.sg.blk.cell 1
            have w0 : wd.cell? ⟨q+2,0,none⟩=some (.int .i64 x.1.on):=HDc.out.bw.cell 0
            have w1 : wd.cell? ⟨q+2,1,none⟩=some (.int .i64 x.1.oa):=HDc.out.bw.cell 1
            have w2 : wd.cell? ⟨q+2,2,none⟩=some (.string x.1.key):=HDc.out.bw.cell 2
            have w3 : wd.cell? ⟨q+2,3,none⟩=some (.int .i64 e1):=HDc.out.bw.cell 3
            have w4 : wd.cell? ⟨q+2,4,none⟩=some (.int .i64 e2):=HDc.out.bw.cell 4
            have z0 : wd.cell? ⟨r1,0,none⟩=some (.int .i64 p1):=HRc.out.cell 0
            have z1 : wd.cell? ⟨r1,1,none⟩=some (.int .i64 p2):=HRc.out.cell 1
            have y0 : wd.cell? ⟨r2,0,none⟩=some (.int .i64 va.k):=HVc.out.cell 0
            have y1 : wd.cell? ⟨r2,1,none⟩=some (.int .i64 nv):=HVc.out.cell 1
            have y2 : wd.cell? ⟨r2,2,none⟩=some (.string va.t):=HVc.out.cell 2
            have y3 : wd.cell? ⟨r2,3,none⟩=some (.int .i64 va.a):=HVc.out.cell 3
            have y4 : wd.cell? ⟨r2,4,none⟩=some (.int .i64 va.b):=HVc.out.cell 4
            have hst:=HDc.out.drew.sg.inc (q:=(p1,p2)) (v:=va) (by rw [← HVA.out];exact HMV.out) x.1.vn
            rw [HNW.out] at hst
            refine wp_region_still_tail 8 (by kernel_rfl) (by kernel_rfl) ?_
            simp only [List.take_succ_cons,List.take_zero,List.drop_succ_cons,List.drop_zero]
            repeat (first | (refine wpStill_want rfl (fun K hK=>?_);go_simp;refine hK _ ?_;clear hK K) | (refine wpStill_skip rfl ?_;go_frame))
            refine wpStill_nil ?_
            change wpList _ _ _ _ _ wd.drew
            refine wpL_store wd.drew rfl (.tmp 95) (.tmp 96) (.tmp 97) 132 (Or.inl rfl) b (refV (p1,p2)) (.agg #[.int .i64 va.k,.int .i64 nv,.string va.t,.int .i64 va.a,.int .i64 va.b]) rfl rfl rfl _ hst ?_
            rintro u9 ⟨ht9,hs9⟩
            have HD9:=Lib.hid (HDc.out.drew.turn allB_mid ht9 hs9 (fun k hk=>.inl (allB_same hk)))
            rw [← HEN.out] at HD9
            clear z0 z1 y0 y1 y2 y3 y4 hst ht9 hs9 hlk g1 w0 w1 w2 w3 w4 HDc
            go_wp2_with fail
            go_meet
            case rel=>exact HD9
         · have HEN : Hid (predE x E (p1,p2)=E):=by show _=_;unfold predE;rw [if_pos HB4.out];exact map_none _ hno
           clear hno
           obtain ⟨va,hva⟩ : ∃ va : VD,(⟨0,0,⟨#[]⟩,0,0⟩ : VD)=va:=⟨_,rfl⟩
           have HVA:=Lib.hid hva
           have hlk : (Instr.lookup 96 (.map (some vb)) (.agg #[.int .i64 x.1.on,.int .i64 x.1.oa,.string x.1.key,.int .i64 e1,.int .i64 e2]) false).run Tryz.prog wa.drew=.ok (.map (some b)) wa.drew:=MapL.hit (HDa.out.drew.sg.vals) keyed_where Tryz.underlying96 (zero_map _) (List.mem_map.2 ⟨(((x.1.on,x.1.oa),x.1.key,(e1,e2)),b,E),by simp,rfl⟩) false
           have hl2 : (Instr.lookup 132 (.map (some b)) (.agg #[.int .i64 p1,.int .i64 p2]) true).run Tryz.prog wa.drew=.ok (.tuple #[.agg #[.int .i64 va.k,.int .i64 va.n,.string va.t,.int .i64 va.a,.int .i64 va.b],.bool false]) wa.drew:=by have:=hrun2 _ HDa.out.drew.sg;rw [hva] at this;exact this
           have g1 : wa.cell? ⟨g,1,none⟩=some (.map (some vb)):=HDa.out.sg.blk.cell 1
           have w0 : wa.cell? ⟨q+2,0,none⟩=some (.int .i64 x.1.on):=HDa.out.bw.cell 0
           have w1 : wa.cell? ⟨q+2,1,none⟩=some (.int .i64 x.1.oa):=HDa.out.bw.cell 1
           have w2 : wa.cell? ⟨q+2,2,none⟩=some (.string x.1.key):=HDa.out.bw.cell 2
           have w3 : wa.cell? ⟨q+2,3,none⟩=some (.int .i64 e1):=HDa.out.bw.cell 3
           have w4 : wa.cell? ⟨q+2,4,none⟩=some (.int .i64 e2):=HDa.out.bw.cell 4
           have z0 : wa.cell? ⟨r1,0,none⟩=some (.int .i64 p1):=HR.out.cell 0
           have z1 : wa.cell? ⟨r1,1,none⟩=some (.int .i64 p2):=HR.out.cell 1
           have KS : ∀ o,(wa.drew.alloc o).cell? ⟨g,1,none⟩=some (.map (some vb))∧(wa.drew.alloc o).cell? ⟨q+2,0,none⟩=some (.int .i64 x.1.on)∧(wa.drew.alloc o).cell? ⟨q+2,1,none⟩=some (.int .i64 x.1.oa)∧(wa.drew.alloc o).cell? ⟨q+2,2,none⟩=some (.string x.1.key)∧(wa.drew.alloc o).cell? ⟨q+2,3,none⟩=some (.int .i64 e1)∧(wa.drew.alloc o).cell? ⟨q+2,4,none⟩=some (.int .i64 e2)∧(wa.drew.alloc o).cell? ⟨r1,0,none⟩=some (.int .i64 p1)∧(wa.drew.alloc o).cell? ⟨r1,1,none⟩=some (.int .i64 p2)∧(Instr.lookup 96 (.map (some vb)) (.agg #[.int .i64 x.1.on,.int .i64 x.1.oa,.string x.1.key,.int .i64 e1,.int .i64 e2]) false).run Tryz.prog (wa.drew.alloc o)=.ok (.map (some b)) (wa.drew.alloc o)∧(Instr.lookup 132 (.map (some b)) (.agg #[.int .i64 p1,.int .i64 p2]) true).run Tryz.prog (wa.drew.alloc o)=.ok (.tuple #[.agg #[.int .i64 va.k,.int .i64 va.n,.string va.t,.int .i64 va.a,.int .i64 va.b],.bool false]) (wa.drew.alloc o):=fun o=>by
            have hd:=HDa.out.drew.alloc o
            have hr:=HR.out.keep (w':=wa.drew.alloc o) (Below.heap_alloc _ _ _ HR.out.lt)
            have hlk2 : (Instr.lookup 96 (.map (some vb)) (.agg #[.int .i64 x.1.on,.int .i64 x.1.oa,.string x.1.key,.int .i64 e1,.int .i64 e2]) false).run Tryz.prog (wa.drew.alloc o)=.ok (.map (some b)) (wa.drew.alloc o):=MapL.hit (hd.sg.vals) keyed_where Tryz.underlying96 (zero_map _) (List.mem_map.2 ⟨(((x.1.on,x.1.oa),x.1.key,(e1,e2)),b,E),by simp,rfl⟩) false
            have hl3 : (Instr.lookup 132 (.map (some b)) (.agg #[.int .i64 p1,.int .i64 p2]) true).run Tryz.prog (wa.drew.alloc o)=.ok (.tuple #[.agg #[.int .i64 va.k,.int .i64 va.n,.string va.t,.int .i64 va.a,.int .i64 va.b],.bool false]) (wa.drew.alloc o):=by have:=hrun2 _ hd.sg;rw [hva] at this;exact this
            exact ⟨hd.sg.blk.cell 1,hd.bw.cell 0,hd.bw.cell 1,hd.bw.cell 2,hd.bw.cell 3,hd.bw.cell 4,hr.cell 0,hr.cell 1,hlk2,hl3⟩
           clear hva
           go_upto_region 13 with fail
           go_region_held3 (fun w'=>w'.cell? ⟨g,1,none⟩=some (.map (some vb))∧w'.cell? ⟨q+2,0,none⟩=some (.int .i64 x.1.on)∧w'.cell? ⟨q+2,1,none⟩=some (.int .i64 x.1.oa)∧w'.cell? ⟨q+2,2,none⟩=some (.string x.1.key)∧w'.cell? ⟨q+2,3,none⟩=some (.int .i64 e1)∧w'.cell? ⟨q+2,4,none⟩=some (.int .i64 e2)∧w'.cell? ⟨r1,0,none⟩=some (.int .i64 p1)∧w'.cell? ⟨r1,1,none⟩=some (.int .i64 p2)∧(Instr.lookup 96 (.map (some vb)) (.agg #[.int .i64 x.1.on,.int .i64 x.1.oa,.string x.1.key,.int .i64 e1,.int .i64 e2]) false).run Tryz.prog w'=.ok (.map (some b)) w'∧(Instr.lookup 132 (.map (some b)) (.agg #[.int .i64 p1,.int .i64 p2]) true).run Tryz.prog w'=.ok (.tuple #[.agg #[.int .i64 va.k,.int .i64 va.n,.string va.t,.int .i64 va.a,.int .i64 va.b],.bool false]) w') (first | exact ⟨g1,w0,w1,w2,w3,w4,z0,z1,hlk,hl2⟩ | exact KS _ | go_keep) (fail)
           all_goals
            clear KS g1 w0 w1 w2 w3 w4 z0 z1 hlk hl2 hrun2
            have HDb : Hid (DoM B q M w (wa.alloc (.cells #[.int .i64 va.k,.int .i64 va.n,.string va.t,.int .i64 va.a,.int .i64 va.b] 50)).drew x (e1,e2) g kb vb cb lb (newK K) (V1++(((x.1.on,x.1.oa),x.1.key,(e1,e2)),b,E)::V2) C1 (insL (K++[x]))):=(HDa.out.alloc _).drew
            rw [← HEN.out] at HDb
            go_wp2_with fail
            go_meet
            case rel=>exact HDb
      case rest =>
       have HD9:=hcut
       clear z0 z1 HDr
       go_wp2_with fail
       go_roundw
       case rel=>exact ⟨j+1,_,by go_num,hlt,HEJ,HD9⟩
       case measure=>simp [intOf];omega
    · obtain rfl : j=n:=by omega
      have HEF : Hid (E=x.1.l.foldl (predE x) E0):=by show _=_;rw [HE.out,List.take_of_length_le (by rw [HN.out];exact Nat.le_refl _)]
      have HEN : Hid (E.length≤100000∧∀ e∈E,e.1≠x.2):=by
       rw [HEF.out]
       refine ⟨Nat.le_trans (predsE_len x _ _) HE0.out.1,fun e he e1=>?_⟩
       obtain ⟨y,hy,e2⟩:=List.mem_map.1 (predsE_ids x _ _ e he)
       exact HE0.out.2 y hy (e2.trans e1)
      clear HE HPR HE0
      have c7 : wr.cell? ⟨q,7,none⟩=some (.int .i64 x.1.vk):=HDr.out.bo.cell 7
      have c8 : wr.cell? ⟨q,8,none⟩=some (.int .i64 x.1.vn):=HDr.out.bo.cell 8
      have c9 : wr.cell? ⟨q,9,none⟩=some (.string x.1.vt):=HDr.out.bo.cell 9
      have c10 : wr.cell? ⟨q,10,none⟩=some (.int .i64 x.1.va):=HDr.out.bo.cell 10
      have c11 : wr.cell? ⟨q,11,none⟩=some (.int .i64 x.1.vb):=HDr.out.bo.cell 11
      go_upto_region 19 with fail
      have HDa:=Lib.hid (HDr.out.alloc (.cells #[.int .i64 x.1.vk,.int .i64 x.1.vn,.string x.1.vt,.int .i64 x.1.va,.int .i64 x.1.vb] 50))
      have HVa:=Lib.hid (Blk.new wr 50 #[.int .i64 x.1.vk,.int .i64 x.1.vn,.string x.1.vt,.int .i64 x.1.va,.int .i64 x.1.vb])
      have HNV : Hid (wr.heap.size∉allB g kb vb cb lb (V1++(((x.1.on,x.1.oa),x.1.key,(e1,e2)),b,E)::V2) C1∧q+3≤wr.heap.size∧B≤wr.heap.size):=⟨fun h=>Nat.lt_irrefl _ (HDr.out.sg.lt _ h),HDr.out.bw.lt,HDr.out.hB⟩
      clear c7 c8 c9 c10 c11 HDr
      generalize wr.alloc (.cells #[.int .i64 x.1.vk,.int .i64 x.1.vn,.string x.1.vt,.int .i64 x.1.va,.int .i64 x.1.vb] 50)=wa at HDa HVa ⊢
      generalize wr.heap.size=r at HVa HNV ⊢
      have c0 : wa.cell? ⟨q,0,none⟩=some (.int .i64 x.1.k):=HDa.out.bo.cell 0
      by_cases h2 : x.1.k=2
      · have HKN : Hid (newK (K++[x])=newK K++[(x.2,x.1.vk)]):=by show _=_;rw [newK_snoc,if_pos h2]
        have HDO : Hid (doE x E0=E++[(x.2,(⟨x.1.vk,x.1.vn,x.1.vt,x.2.1,x.2.2⟩ : VD))]):=by
         show _=_
         unfold doE lastE valOf0
         rw [if_pos (Or.inr h2),if_pos h2,HEF.out]
        have hk1 : (x.1.k == 2)=true:=by simp [h2]
        clear h2 HEF
        have i0 : wa.cell? ⟨q+1,0,none⟩=some (.int .i64 x.2.1):=HDa.out.bi.cell 0
        have i1 : wa.cell? ⟨q+1,1,none⟩=some (.int .i64 x.2.2):=HDa.out.bi.cell 1
        have y3 : wa.cell? ⟨r,3,none⟩=some (.int .i64 x.1.va):=HVa.out.cell 3
        have y4 : wa.cell? ⟨r,4,none⟩=some (.int .i64 x.1.vb):=HVa.out.cell 4
        have f3:=HVa.out.frozen 3
        have f4:=HVa.out.frozen 4
        go_upto_region 22 with fail
        have HDb:=Lib.hid ((HDa.out.far (p:=⟨r,3,none⟩) HNV.out.2.1 HNV.out.1 HNV.out.2.2 (.int .i64 x.2.1)).far (p:=⟨r,4,none⟩) HNV.out.2.1 HNV.out.1 HNV.out.2.2 (.int .i64 x.2.2))
        have HVb : Hid (Blk ((wa.setCell ⟨r,3,none⟩ (.int .i64 x.2.1)).setCell ⟨r,4,none⟩ (.int .i64 x.2.2)) r 50 #[.int .i64 x.1.vk,.int .i64 x.1.vn,.string x.1.vt,.int .i64 x.2.1,.int .i64 x.2.2]):=(HVa.out.set_ 3 _).set_ 4 _
        clear c0 hk1 i0 i1 y3 y4 f3 f4 HDa HVa
        generalize (wa.setCell ⟨r,3,none⟩ (.int .i64 x.2.1)).setCell ⟨r,4,none⟩ (.int .i64 x.2.2)=wb at HDb HVb ⊢
        have g0 : wb.cell? ⟨g,0,none⟩=some (.map (some kb)):=HDb.out.sg.blk.cell 0
        have i0 : wb.cell? ⟨q+1,0,none⟩=some (.int .i64 x.2.1):=HDb.out.bi.cell 0
        have i1 : wb.cell? ⟨q+1,1,none⟩=some (.int .i64 x.2.2):=HDb.out.bi.cell 1
        have y0 : wb.cell? ⟨r,0,none⟩=some (.int .i64 x.1.vk):=HVb.out.cell 0
        have hst:=HDb.out.drew.sg.kind_put (n:=x.2) HOK.out.id (newK_new HOK.out.new HOK.out.nz) (by have h1:=newK_len K;have h2:=HOK.out.len;simp only [maxLen];omega) x.1.vk
        refine wp_region_still_tail 7 (by kernel_rfl) (by kernel_rfl) ?_
        simp only [List.take_succ_cons,List.take_zero,List.drop_succ_cons,List.drop_zero]
        repeat (first | (refine wpStill_want rfl (fun K hK=>?_);go_simp;refine hK _ ?_;clear hK K) | (refine wpStill_skip rfl ?_;go_frame))
        refine wpStill_nil ?_
        change wpList _ _ _ _ _ wb.drew
        refine wpL_store wb.drew rfl (.tmp 110) (.tmp 111) (.tmp 113) 95 (Or.inl rfl) kb (refV x.2) (.int .i64 x.1.vk) rfl rfl rfl _ hst ?_
        rintro u8 ⟨ht8,hs8⟩
        have HD8:=Lib.hid (HDb.out.drew.turn (mem_allB.2 (.inr (.inl rfl))) ht8 hs8 (fun k hk=>.inl hk))
        have HV8:=Lib.hid ((show Blk wb.drew r 50 #[.int .i64 x.1.vk,.int .i64 x.1.vn,.string x.1.vt,.int .i64 x.2.1,.int .i64 x.2.2] from HVb.out).keep (turned_keep ht8 (show r < wb.drew.heap.size from HVb.out.lt) (fun e=>HNV.out.1 (e▸mem_allB.2 (.inr (.inl rfl))))))
        clear g0 i0 i1 y0 hst ht8 hs8 HDb HVb
        have y0 : u8.cell? ⟨r,0,none⟩=some (.int .i64 x.1.vk):=HV8.out.cell 0
        have y1 : u8.cell? ⟨r,1,none⟩=some (.int .i64 x.1.vn):=HV8.out.cell 1
        have y2 : u8.cell? ⟨r,2,none⟩=some (.string x.1.vt):=HV8.out.cell 2
        have y3 : u8.cell? ⟨r,3,none⟩=some (.int .i64 x.2.1):=HV8.out.cell 3
        have y4 : u8.cell? ⟨r,4,none⟩=some (.int .i64 x.2.2):=HV8.out.cell 4
        have hlk : (Instr.lookup 96 (.map (some vb)) (.agg #[.int .i64 x.1.on,.int .i64 x.1.oa,.string x.1.key,.int .i64 e1,.int .i64 e2]) false).run Tryz.prog u8.drew=.ok (.map (some b)) u8.drew:=MapL.hit (HD8.out.drew.sg.vals) keyed_where Tryz.underlying96 (zero_map _) (List.mem_map.2 ⟨(((x.1.on,x.1.oa),x.1.key,(e1,e2)),b,E),by simp,rfl⟩) false
        have g1 : u8.cell? ⟨g,1,none⟩=some (.map (some vb)):=HD8.out.sg.blk.cell 1
        have w0 : u8.cell? ⟨q+2,0,none⟩=some (.int .i64 x.1.on):=HD8.out.bw.cell 0
        have w1 : u8.cell? ⟨q+2,1,none⟩=some (.int .i64 x.1.oa):=HD8.out.bw.cell 1
        have w2 : u8.cell? ⟨q+2,2,none⟩=some (.string x.1.key):=HD8.out.bw.cell 2
        have w3 : u8.cell? ⟨q+2,3,none⟩=some (.int .i64 e1):=HD8.out.bw.cell 3
        have w4 : u8.cell? ⟨q+2,4,none⟩=some (.int .i64 e2):=HD8.out.bw.cell 4
        have i0 : u8.cell? ⟨q+1,0,none⟩=some (.int .i64 x.2.1):=HD8.out.bi.cell 0
        have i1 : u8.cell? ⟨q+1,1,none⟩=some (.int .i64 x.2.2):=HD8.out.bi.cell 1
        have hst:=HD8.out.drew.sg.put (n:=x.2) HOK.out.id (fun e he=>HEN.out.2 e he) (by have:=HEN.out.1;simp only [maxLen];omega) (⟨x.1.vk,x.1.vn,x.1.vt,x.2.1,x.2.2⟩)
        go_upto_region 23 with fail
        refine wp_region_still_tail 8 (by kernel_rfl) (by kernel_rfl) ?_
        simp only [List.take_succ_cons,List.take_zero,List.drop_succ_cons,List.drop_zero]
        repeat (first | (refine wpStill_want rfl (fun K hK=>?_);go_simp;refine hK _ ?_;clear hK K) | (refine wpStill_skip rfl ?_;go_frame))
        refine wpStill_nil ?_
        change wpList _ _ _ _ _ u8.drew
        refine wpL_store u8.drew rfl (.tmp 119) (.tmp 120) (.tmp 121) 132 (Or.inl rfl) b (refV x.2) (vlV (⟨x.1.vk,x.1.vn,x.1.vt,x.2.1,x.2.2⟩)) rfl rfl rfl _ hst ?_
        rintro u9 ⟨ht9,hs9⟩
        have HD9:=Lib.hid (HD8.out.drew.turn allB_mid ht9 hs9 (fun k hk=>.inl (allB_same hk)))
        clear y0 y1 y2 y3 y4 g1 w0 w1 w2 w3 w4 i0 i1 hlk
        have hf : SMem B u9 g kb vb cb lb (K++[x]) (V1++(wh1 x,b,doE x E0)::V2) C1∧Below B w u9∧Chg (fun k=>k∈M) w u9:=by
         have h9:=HD9.out
         have hv:=HTV.out
         rw [← HKN.out,← HDO.out,← HP0.out] at h9
         rw [← HP0.out] at hv
         exact h9.fin hv HC1.out
        have HF:=Lib.hid hf
        clear hf hst ht9 hs9
        go_wp2_with fail
        refine bodyPost_end (results_none rfl _ _ _) rfl ?_
        exact ⟨rfl,_,_,HF.out.1,HF.out.2.1,HCM.out _ HF.out.2.2⟩
      · have HKN : Hid (newK (K++[x])=newK K):=by show _=_;rw [newK_snoc,if_neg h2]
        by_cases h1 : x.1.k=1
        · have HDO : Hid (doE x E0=E++[(x.2,(⟨x.1.vk,x.1.vn,x.1.vt,x.1.va,x.1.vb⟩ : VD))]):=by
           show _=_
           unfold doE lastE valOf0
           rw [if_pos (Or.inl h1),if_neg h2,HEF.out]
          have hk1 : (x.1.k == 2)=false:=by simp [h2]
          have hk2 : (x.1.k == 1)=true:=by simp [h1]
          clear h1 h2 HEF
          have y0 : wa.cell? ⟨r,0,none⟩=some (.int .i64 x.1.vk):=HVa.out.cell 0
          have y1 : wa.cell? ⟨r,1,none⟩=some (.int .i64 x.1.vn):=HVa.out.cell 1
          have y2 : wa.cell? ⟨r,2,none⟩=some (.string x.1.vt):=HVa.out.cell 2
          have y3 : wa.cell? ⟨r,3,none⟩=some (.int .i64 x.1.va):=HVa.out.cell 3
          have y4 : wa.cell? ⟨r,4,none⟩=some (.int .i64 x.1.vb):=HVa.out.cell 4
          have hlk : (Instr.lookup 96 (.map (some vb)) (.agg #[.int .i64 x.1.on,.int .i64 x.1.oa,.string x.1.key,.int .i64 e1,.int .i64 e2]) false).run Tryz.prog wa.drew=.ok (.map (some b)) wa.drew:=MapL.hit (HDa.out.drew.sg.vals) keyed_where Tryz.underlying96 (zero_map _) (List.mem_map.2 ⟨(((x.1.on,x.1.oa),x.1.key,(e1,e2)),b,E),by simp,rfl⟩) false
          have g1 : wa.cell? ⟨g,1,none⟩=some (.map (some vb)):=HDa.out.sg.blk.cell 1
          have w0 : wa.cell? ⟨q+2,0,none⟩=some (.int .i64 x.1.on):=HDa.out.bw.cell 0
          have w1 : wa.cell? ⟨q+2,1,none⟩=some (.int .i64 x.1.oa):=HDa.out.bw.cell 1
          have w2 : wa.cell? ⟨q+2,2,none⟩=some (.string x.1.key):=HDa.out.bw.cell 2
          have w3 : wa.cell? ⟨q+2,3,none⟩=some (.int .i64 e1):=HDa.out.bw.cell 3
          have w4 : wa.cell? ⟨q+2,4,none⟩=some (.int .i64 e2):=HDa.out.bw.cell 4
          have i0 : wa.cell? ⟨q+1,0,none⟩=some (.int .i64 x.2.1):=HDa.out.bi.cell 0
          have i1 : wa.cell? ⟨q+1,1,none⟩=some (.int .i64 x.2.2):=HDa.out.bi.cell 1
          have hst:=HDa.out.drew.sg.put (n:=x.2) HOK.out.id (fun e he=>HEN.out.2 e he) (by have:=HEN.out.1;simp only [maxLen];omega) (⟨x.1.vk,x.1.vn,x.1.vt,x.1.va,x.1.vb⟩)
          go_upto_region 25 with fail
          refine wp_region_still_tail 8 (by kernel_rfl) (by kernel_rfl) ?_
          simp only [List.take_succ_cons,List.take_zero,List.drop_succ_cons,List.drop_zero]
          repeat (first | (refine wpStill_want rfl (fun K hK=>?_);go_simp;refine hK _ ?_;clear hK K) | (refine wpStill_skip rfl ?_;go_frame))
          refine wpStill_nil ?_
          change wpList _ _ _ _ _ wa.drew
          refine wpL_store wa.drew rfl (.tmp 129) (.tmp 130) (.tmp 131) 132 (Or.inl rfl) b (refV x.2) (vlV (⟨x.1.vk,x.1.vn,x.1.vt,x.1.va,x.1.vb⟩)) rfl rfl rfl _ hst ?_
          rintro u9 ⟨ht9,hs9⟩
          have HD9:=Lib.hid (HDa.out.drew.turn allB_mid ht9 hs9 (fun k hk=>.inl (allB_same hk)))
          clear y0 y1 y2 y3 y4 g1 w0 w1 w2 w3 w4 i0 i1 hlk c0 hk1 hk2
          have hf : SMem B u9 g kb vb cb lb (K++[x]) (V1++(wh1 x,b,doE x E0)::V2) C1∧Below B w u9∧Chg (fun k=>k∈M) w u9:=by
           have h9:=HD9.out
           have hv:=HTV.out
           rw [← HKN.out,← HDO.out,← HP0.out] at h9
           rw [← HP0.out] at hv
           exact h9.fin hv HC1.out
          have HF:=Lib.hid hf
          clear hf hst ht9 hs9
          go_wp2_with fail
          refine bodyPost_end (results_none rfl _ _ _) rfl ?_
          exact ⟨rfl,_,_,HF.out.1,HF.out.2.1,HCM.out _ HF.out.2.2⟩
        · have HDO : Hid (doE x E0=E):=by
           show _=_
           unfold doE lastE
           rw [if_neg (fun h=>h.elim h1 h2),HEF.out]
          have hk1 : (x.1.k == 2)=false:=by simp [h2]
          have hk2 : (x.1.k == 1)=false:=by simp [h1]
          clear h1 h2 HEF
          have hf : SMem B wa g kb vb cb lb (K++[x]) (V1++(wh1 x,b,doE x E0)::V2) C1∧Below B w wa∧Chg (fun k=>k∈M) w wa:=by
           have h9:=HDa.out
           have hv:=HTV.out
           rw [← HKN.out,← HDO.out,← HP0.out] at h9
           rw [← HP0.out] at hv
           exact h9.fin hv HC1.out
          have HF:=Lib.hid hf
          clear hf
          go_wp2_with fail
          refine bodyPost_end (results_none rfl _ _ _) rfl ?_
          exact ⟨rfl,_,_,HF.out.1,HF.out.2.1,HCM.out _ HF.out.2.2⟩
end Go.Proofs.YtmpkejflgpodkaaGreatDoor
