/- Contracts of the program's books: whether a change fits. -/
import Derived.Test.YtmpkejflgpodkaaGreatDoorP22
import Derived.Test.YtmpkejflgpodkaaGreatDoorP15
set_option linter.unusedVariables false
set_option linter.unusedSimpArgs false
namespace Go.Proofs.YtmpkejflgpodkaaGreatDoor
open Go.ChangeShapes Go.WideShapes Go.ChangeAt Go.RowKit
section
variable {ops : Array Oper} {rest : List Oper} {o : Oper} {a : Act} {Q : Exit→Act→World→Prop}
theorem wpL_build2 {w : World} (hg : o.guard=none) (t : TypeId) (x y : Operand) (hop : o.op=Op.build t #[(0,x),(1,y)]) (vx vy v : Value) (hx : a.eval x=vx) (hy : a.eval y=vy)
 (hrun : (Instr.build t #[(0,vx),(1,vy)]).run Tryz.prog w=.ok v w) (hK : wpList Tryz.prog ops Q rest (a.put o.dst v) w) : wpList Tryz.prog ops Q (o::rest) a w:=by
 refine wpList_plain hg fun K' hK'=>?_
 unfold Oper.wp
 simp [execOp,hop,hx,hy,hrun,Result.andThen]
 exact hK' _ _ hK
end
theorem build_op (ox : OpD) (n : Nat) (a b : Int) (w : World) : (Instr.build 250 #[(0,.agg #[.int .i64 ox.k,.int .i64 ox.on,.int .i64 ox.oa,.string ox.key,.int .i64 ox.en,.int .i64 ox.ea,.bool ox.ins,.int .i64 ox.vk,.int .i64 ox.vn,.string ox.vt,.int .i64 ox.va,.int .i64 ox.vb,.slice ox.A n ox.c]),(1,.agg #[.int .i64 a,.int .i64 b])]).run Tryz.prog w=.ok (.agg #[.int .i64 ox.k,.int .i64 ox.on,.int .i64 ox.oa,.string ox.key,.int .i64 ox.en,.int .i64 ox.ea,.bool ox.ins,.int .i64 ox.vk,.int .i64 ox.vn,.string ox.vt,.int .i64 ox.va,.int .i64 ox.vb,.slice ox.A n ox.c,.int .i64 a,.int .i64 b]) w:=by kernel_rfl
theorem OpsM.add {w : World} {b : Nat} {K : List OpI} (h : OpsM w b K) {x : OpI} (hr : I64R x.2) (hn : ∀ y∈K,y.2≠x.2) (hl : K.length < maxLen) :
 ∃ w',(Instr.mapUpdate 248 (.map (some b)) (refV x.2) (opIV x)).run Tryz.prog w=.ok () w'∧OpsM w' b (K++[x])∧w.mapTurned w' b:=by
 obtain ⟨kl,hk⟩:=keyOf_id hr
 obtain ⟨w',h1,h2,h3⟩:=MapL.store (v:=opIV x) h keyed_id Tryz.underlying248 (by rw [List.length_map];exact hl) hk (fun p hp e=>by
  obtain ⟨q,hq,rfl⟩:=List.mem_map.1 hp
  exact hn q hq (refV_inj e))
 exact ⟨w',h1,by unfold OpsM;rw [List.map_append];exact h2,h3⟩
theorem OpsM.keep {w w' : World} {b : Nat} {K : List OpI} (h : OpsM w b K) (hk : w'.heap[b]?=w.heap[b]?) : OpsM w' b K:=MapL.keep h hk
theorem OpsM.made (w : World) : OpsM (w.alloc (.map #[] 0)) w.heap.size []:=MapL.made w _
set_option maxHeartbeats 16000000 in
set_option maxRecDepth 20000 in
theorem fits_any (X : List (ChD × Nat × List Rf)) (W : List ChD) (c : ChD) (g bh bw bb : Nat) (w : World) (hB : PB w g bh bw bb X W) (hk : Bk (X.map Prod.fst)) (hl : X.length≤1000) (hc : ChIn (fun k=>k < w.heap.size) w c) (he : c.err=0)
 (hr : readyP (X.map Prod.fst) c=true) :
 Calls Tryz.prog 129 #[.pointer (some ⟨g,0,none⟩),c.v] w fun e w'=>e=.returned (.bool (fitsP (X.map Prod.fst) c))∧Below w.heap.size w w':=by
 obtain ⟨hst1,hst2,hop,hdp⟩:=err_ok he
 obtain ⟨L,hL⟩ : ∃ L,X.map Prod.fst=L:=⟨_,rfl⟩
 have HLL : Hid (L.length≤1000):=by show _≤_;rw [← hL,List.length_map];exact hl
 obtain ⟨nd,hnd⟩ : ∃ n,c.deps.length=n:=⟨_,rfl⟩
 have HND:=Lib.hid hnd
 have HB:=Lib.hid hB
 have HCI:=Lib.hid hc
 have HE:=Lib.hid he
 have HRY : Hid (∀ d∈c.deps,∃ x,x∈X∧x.1.rf=d):=fun d hd=>setAt_some (ready_mem hr d hd)
 have HLX:=Lib.hid hL
 have HK:=Lib.hid hk
 rw [hL] at hk ⊢
 have HW : Hid (Below w.heap.size w (w.alloc (.cells #[.int .i64 c.a,.int .i64 c.s,.int .i64 c.st,.slice c.DA c.deps.length c.DC,.slice c.OA c.ops.length c.OC] 82))):=(Below.refl _ w).alloc (Nat.le_refl _) _
 have HQ:=Lib.hid (Blk.new w 82 #[.int .i64 c.a,.int .i64 c.s,.int .i64 c.st,.slice c.DA c.deps.length c.DC,.slice c.OA c.ops.length c.OC])
 clear hB hc he hr hk hL
 unfold ChD.v
 rw [hnd] at HW HQ hdp ⊢
 clear hnd
 have hmm : ∀ (t : TypeId) (w : World),(Instr.makeMap t none).run Tryz.prog w=.ok (.map (some w.heap.size)) (w.alloc (.map #[] 0)):=fun _ _=>rfl
 go_enter Tryz.func129,Tryz.ntmps129
 have hVs : (w.alloc (.cells #[.int .i64 c.a,.int .i64 c.s,.int .i64 c.st,.slice c.DA nd c.DC,.slice c.OA c.ops.length c.OC] 82)).heap.size=w.heap.size+1:=by simp
 go_wp2_with fail
 generalize w.alloc (.cells #[.int .i64 c.a,.int .i64 c.s,.int .i64 c.st,.slice c.DA nd c.DC,.slice c.OA c.ops.length c.OC] 82)=V at *
 have hwV : w.heap.size < V.heap.size:=HQ.out.lt
 have HS0:=Lib.hid (SetM.made V)
 have HQ1:=Lib.hid (HQ.out.keep (Below.heap_alloc V (.map #[] 0) _ HQ.out.lt))
 have HW1 : Hid (Below w.heap.size w (V.alloc (.map #[] 0))):=HW.out.alloc HW.out.size _
 have HU:=Lib.hid (UB.of (HB.out.below HW.out) ((Chg.refl V).alloc (.map #[] 0)) (Nat.le_refl _))
 go_upto_region 2 with fail
 clear HQ HW
 rw [hVs] at HS0 HU hwV
 clear hVs
 generalize w.heap.size+1=mk at HS0 HU hwV ⊢
 generalize V.alloc (.map #[] 0)=V0 at HS0 HQ1 HW1 HU ⊢
 have HMW:=Lib.hid hwV
 have HRD : Hid (Reads (fun j=>j < V0.heap.size∧¬ j=mk) V0 2 c.DA c.deps.length (refC c.deps)) :=
  (HCI.out.hd.keep (fun k hk=>HW1.out.block k hk)).more fun k hk=>⟨Nat.lt_of_lt_of_le hk HW1.out.size,fun e=>by omega⟩
 rw [HND.out] at HRD
 have HM0 : Hid (∀ r,r∈([] : List Rf)↔r∈([] : List Rf)∨r∈behindP L (c.deps.take 0)):=fun r=>by
  rw [List.take_zero]
  unfold behindP
  rw [back_nil]
  simp
 have c3 : V0.cell? ⟨w.heap.size,3,none⟩=some (.slice c.DA nd c.DC):=HQ1.out.cell 3
 go_upto_region 3 with fail
 clear c3
 go_loopw [7,8,22] (fun _ _ s wr=>∃ (k : Nat) (S : List Rf),s=.int .i64 k∧k≤nd∧Hid (SetM wr mk S)∧Hid (∀ r,r∈S↔r∈([] : List Rf)∨r∈behindP L (c.deps.take k))∧Hid (Chg (fun j=>j=mk) V0 wr)) (fun _ _ s _=>nd - (intOf s).toNat)
 case atStart=>exact ⟨0,_,rfl,by omega,HS0,HM0,Lib.hid (Chg.refl _)⟩
 case round =>
  clear HS0 HM0
  obtain ⟨k,S,rfl,hk,HS,HM,HC⟩:=hrel
  by_cases hlt : k < nd
  · obtain ⟨d,hd⟩ : ∃ d,c.deps[k]?=some d:=⟨_,List.getElem?_eq_getElem (by rw [HND.out];exact hlt)⟩
    have HDM : Hid (∀ r,r∈behindP L (c.deps.take (k+1))↔r∈behindP L (c.deps.take k)∨r∈behindP L [d]):=fun r=>behind_take hd r
    obtain ⟨x,hx,hxr⟩:=HRY.out d (List.mem_of_getElem? hd)
    have HX:=Lib.hid hx
    have HLT:=Lib.hid hlt
    have HXR:=Lib.hid hxr
    obtain ⟨bd,od,hA,hbl,hcd⟩:=(HRD.out.keep (HC.out.keeps fun j hj=>hj)).at_ (by omega) (by omega)
    have p1 : wr.cell? ⟨bd,od+k*2,none⟩=some (.int .i64 d.1):=hcd _ _ (refC_at hd).1
    have p2 : wr.cell? ⟨bd,od+k*2+1,none⟩=some (.int .i64 d.2):=hcd _ _ (refC_at hd).2
    have hbl2 : bd < wr.heap.size:=Nat.lt_of_lt_of_le hbl.1 HC.out.size
    have HSX:=Lib.hid (HU.out.sets x hx)
    rw [hA]
    clear hcd hd hx hxr hbl
    have HUa:=Lib.hid ((HU.out.chg HC.out).chg ((Chg.refl wr).alloc (.cells #[.int .i64 d.1,.int .i64 d.2] 77)))
    have HQa:=Lib.hid (Blk.new wr 77 #[.int .i64 d.1,.int .i64 d.2])
    have HSa:=Lib.hid (HS.out.keep (w':=wr.alloc (.cells #[.int .i64 d.1,.int .i64 d.2] 77)) (Below.heap_alloc _ _ _ (MapL.lt HS.out)))
    have HCa:=Lib.hid (HC.out.alloc (.cells #[.int .i64 d.1,.int .i64 d.2] 77))
    clear HS HC
    go_upto_region 5 with fail
    generalize wr.alloc (.cells #[.int .i64 d.1,.int .i64 d.2] 77)=wa at HUa HQa HSa HCa ⊢
    generalize wr.heap.size=qa at HQa ⊢
    clear p1 p2
    have g2 : wa.cell? ⟨g,2,none⟩=some (.map (some bb)):=HUa.out.blk.cell 2
    have d1 : wa.cell? ⟨qa,0,none⟩=some (.int .i64 d.1):=HQa.out.cell 0
    have d2 : wa.cell? ⟨qa,1,none⟩=some (.int .i64 d.2):=HQa.out.cell 1
    have hlk:=(HUa.out.chg (Chg.refl wa).drew).look HX.out d.1 d.2 HXR.out
    refine wp_region_still_tail 6 (by kernel_rfl) (by kernel_rfl) ?_
    simp only [List.take_succ_cons,List.take_zero,List.drop_succ_cons,List.drop_zero]
    repeat (first | (refine wpStill_want rfl (fun K hK=>?_);go_simp;refine hK _ ?_;clear hK K) | (refine wpStill_skip rfl ?_;go_frame))
    refine wpStill_nil ?_
    change wpList _ _ _ _ _ wa.drew
    have HSb : Hid (SetM wa.drew mk S):=HSa
    have HCb : Hid (Chg (fun j=>j=mk) V0 wa.drew):=HCa.out.drew
    have HXb : Hid (SetM wa.drew x.2.1 x.2.2):=((HUa.out.sets x HX.out).1.keep rfl)
    clear g2 d1 d2 hlk HUa HQa HSa HCa
    generalize wa.drew=wb at HSb HCb HXb ⊢
    go_wp2_with (refine wpL_range _ rfl (.tmp 31) 157 rfl 77 4 Tryz.underlying157 x.2.1 _ rfl HXb.out ?_;intro w1 hI1 hb1 hs1)
    have HI1 : Hid (IterS w1 x.2.1 wb.heap.size x.2.2 x.2.2):=hI1
    have HS1:=Lib.hid (HSb.out.keep (hb1.block _ (MapL.lt HSb.out)))
    have HC1 : Hid (Chg (fun j=>j=mk) V0 w1):=HCb.out.trans (Chg.of_below hb1) fun _ _ h=>h
    have HIT : Hid (V0.heap.size≤wb.heap.size∧mk < wb.heap.size):=⟨HCb.out.size,MapL.lt HSb.out⟩
    clear hI1 hb1 hs1 HSb HCb HXb
    generalize wb.heap.size=it at HI1 HIT ⊢
    try simp only [Act.put,List.setIfInBounds_toArray,List.set_cons_zero,List.set_cons_succ]
    go_loopw [8] (fun _ wr=>∃ S1 todo : List Rf,Hid (SetM wr mk S1)∧Hid (IterS wr x.2.1 it x.2.2 todo)∧Hid (∀ r,(r∈S1∨r∈todo)↔(r∈S∨r∈x.2.2))∧Hid (Chg (fun j=>j=mk) V0 wr)) (fun _ wr=>itLeft wr x.2.1 it)
    case atStart=>exact ⟨S,x.2.2,HS1,HI1,Lib.hid fun r=>Iff.rfl,HC1⟩
    case round =>
     clear HS1 HI1 HC1
     obtain ⟨S1,todo,HS1,HI,HE,HC⟩:=hrel
     go_wp2_with (refine wpS_next _ rfl (.tmp 32) rfl x.2.1 it x.2.2 todo rfl HI.out ?_ ?_)
     · intro ht
       subst ht
       have HM2 : Hid (∀ r,r∈S1↔r∈([] : List Rf)∨r∈behindP L (c.deps.take (k+1))):=fun r=>by
        have e:=HE.out r
        simp only [List.not_mem_nil,or_false] at e
        rw [e,HM.out r,HDM.out r,HSX.out.2.2 r,HXR.out,or_assoc]
        first | rfl | (rw [HLX.out])
       clear HI HE HM HDM
       go_wp2_with fail
       go_roundw
       case rel=>exact ⟨k+1,S1,by go_num,by have:=HLT.out;omega,HS1,HM2,HC⟩
       case measure=>have:=HLT.out;simp [intOf];omega
     · intro ya yb todo' w2 hp hI2 hg2 hs2 hen
       have HEY : Hid (∀ r,r∈todo↔r=(ya,yb)∨r∈todo'):=fun r=>by rw [hp.mem_iff,List.mem_cons]
       have HYS : Hid ((ya,yb)∈x.2.2):=HI.out.sub (ya,yb) (hp.mem_iff.2 (List.mem_cons_self ..))
       have HLE : Hid (itLeft wr x.2.1 it=todo'.length+1):=by show _=_;rw [IterL.left HI.out,List.length_map,hp.length_eq];rfl
       have HLM:=Lib.hid (MapL.lt HS1.out)
       have HIL:=Lib.hid (IterL.lt HI.out)
       have HIN : Hid (it≠mk):=fun e=>by have:=HIT.out.2;omega
       have HS2:=Lib.hid (HS1.out.keep (hg2.block _ HLM.out (fun e=>HIN.out (Option.some.inj e).symm)))
       have HC2:=Lib.hid (HC.out.grown hg2 (fun q hq=>by cases hq;exact .inr HIT.out.1))
       have HI2:=Lib.hid hI2
       have hmk2 : mk < w2.heap.size:=MapL.lt HS2.out
       have hit2 : it < w2.heap.size:=IterL.lt hI2
       have hxb2 : x.2.1 < w2.heap.size:=MapL.lt (IterL.map hI2)
       clear hp hI2 hg2 hs2 HI HS1 HC
       have HS3:=Lib.hid (HS2.out.keep (w':=w2.alloc (.cells #[.int .i64 ya,.int .i64 yb] 77)) (Below.heap_alloc _ _ _ hmk2))
       have HI3 : Hid (IterS (w2.alloc (.cells #[.int .i64 ya,.int .i64 yb] 77)) x.2.1 it x.2.2 todo'):=IterL.keep HI2.out (Below.heap_alloc _ _ _ hxb2) (Below.heap_alloc _ _ _ hit2)
       have HC3:=Lib.hid (HC2.out.alloc (.cells #[.int .i64 ya,.int .i64 yb] 77))
       have HQy:=Lib.hid (Blk.new w2 77 #[.int .i64 ya,.int .i64 yb])
       have hst:=HS3.out.add (r:=(ya,yb)) (bk_i64 HK.out (behind_sub ((HSX.out.2.2 (ya,yb)).1 HYS.out))) (set_less ([] : List Rf) HS3.out.nodup HLL.out (fun r hr=>by
        rcases (HE.out r).1 (.inl hr) with h | h
        · rcases (HM.out r).1 h with h | h
          · exact .inl h
          · exact .inr (behind_sub h)
        · have:=behind_sub ((HSX.out.2.2 r).1 h);exact .inr (by rw [HLX.out] at this;exact this)) (by simp))
       go_upto_region 8 with fail
       generalize w2.alloc (.cells #[.int .i64 ya,.int .i64 yb] 77)=w3 at HS3 HI3 HC3 HQy hst ⊢
       generalize w2.heap.size=qy at HQy ⊢
       have y1 : w3.cell? ⟨qy,0,none⟩=some (.int .i64 ya):=HQy.out.cell 0
       have y2 : w3.cell? ⟨qy,1,none⟩=some (.int .i64 yb):=HQy.out.cell 1
       clear HQy HS2 HC2 HI2 hen hmk2 hit2 hxb2
       go_wp2_with (refine wpL_store _ rfl (.tmp 37) (.tmp 38) (.const (.bool true)) 157 (.inl rfl) mk (.agg #[.int .i64 ya,.int .i64 yb]) (.bool true) rfl rfl rfl _ hst ?_;rintro w4 ⟨⟨S2,hs4,hm4,-⟩,ht4⟩)
       have hg4:=ht4.grown
       have HS4:=Lib.hid hs4
       have HXM : Hid (x.2.1≠mk):=HSX.out.2.1
       have HI4 : Hid (IterS w4 x.2.1 it x.2.2 todo'):=IterL.keep HI3.out (hg4.block _ (MapL.lt (IterL.map HI3.out)) (fun e=>HXM.out (Option.some.inj e))) (hg4.block _ (IterL.lt HI3.out) (fun e=>HIN.out (Option.some.inj e)))
       have HC4:=Lib.hid (HC3.out.grown hg4 (fun q hq=>by cases hq;exact .inl rfl))
       have HE4 : Hid (∀ r,(r∈S2∨r∈todo')↔(r∈S∨r∈x.2.2)):=fun r=>by
        rw [← HE.out r,HEY.out r,hm4 r,or_assoc]
       have HL4 : Hid (itLeft w4 x.2.1 it=todo'.length):=by show _=_;rw [IterL.left HI4.out,List.length_map]
       clear hs4 hm4 ht4 hg4 hst y1 y2 HS3 HI3 HC3 HE HEY
       try simp only [Act.put,List.setIfInBounds_toArray,List.set_cons_zero,List.set_cons_succ]
       go_wp2_with fail
       go_roundw
       case rel=>exact ⟨S2,todo',HS4,HI4,HE4,HC4⟩
       case measure=>show itLeft w4 x.2.1 it < itLeft _ x.2.1 it;rw [HL4.out,HLE.out];omega
  · have HMD : Hid (∀ r,r∈S↔r∈([] : List Rf)∨r∈behindP L c.deps):=fun r=>by
     rw [HM.out r,List.take_of_length_le (by rw [HND.out];omega)]
    clear HM
    have HMS : Hid (∀ r,r∈S↔r∈behindP L c.deps):=fun r=>by rw [HMD.out r];simp
    have HSN : Hid S.Nodup:=HS.out.nodup
    have HW2 : Hid (Below w.heap.size w wr):=HW1.out.trans (HC.out.below HW1.out.size (fun k hk=>by have:=HMW.out;omega))
    have HQ2:=Lib.hid (HQ1.out.keep (HC.out.block _ HQ1.out.lt (by have:=HMW.out;omega)))
    have HS1:=Lib.hid (HS.out.keep (Below.heap_alloc wr (.map #[] 0) _ (MapL.lt HS.out)))
    have HO1:=Lib.hid (OpsM.made wr)
    have HMR:=Lib.hid (MapL.lt HS.out)
    have HQR:=Lib.hid HQ2.out.lt
    have hs1 : (wr.alloc (.map #[] 0)).heap.size=wr.heap.size+1:=by simp
    clear HS HC HMD HQ1 HW1 HU HRD
    go_wp2_with (refine wpL_range _ rfl (.tmp 41) 157 rfl 77 4 Tryz.underlying157 mk _ rfl HS1.out ?_;intro w2 hI hb hs;rw [hs1] at hI ⊢)
    have HI : Hid (IterS w2 mk (wr.heap.size+1) S S):=hI
    have HO : Hid (OpsM w2 wr.heap.size []):=HO1.out.keep (hb.block _ (by rw [hs1];omega))
    have hb2 : Below wr.heap.size wr w2:=((Below.refl _ wr).alloc (Nat.le_refl _) (.map #[] 0)).trans (hb.mono (by rw [hs1];omega))
    have HW3 : Hid (Below w.heap.size w w2):=HW2.out.trans (hb2.mono HW2.out.size)
    have HQ3:=Lib.hid (HQ2.out.keep (hb2.block _ HQR.out))
    have HN : Hid (w.heap.size < wr.heap.size∧mk < wr.heap.size):=⟨HQR.out,HMR.out⟩
    clear hI hb hs hb2 hs1 HS1 HO1 HW2 HQ2 HMR HQR
    generalize hit : wr.heap.size+1=it at HI ⊢
    generalize wr.heap.size=mo at HO HN hit ⊢
    have HIT:=Lib.hid hit
    clear hit hmm
    try simp only [Act.put,List.setIfInBounds_toArray,List.set_cons_zero,List.set_cons_succ]
    go_loopw [10,11,12,13,14] (fun _ _ _ _ _ wr=>∃ (done todo : List Rf) (K : List OpI),Hid ((done++todo).Perm S)∧Hid (IterS wr mk it S todo)∧Hid (OpsM wr mo K)∧Hid (K=done.flatMap (opsAt L))∧Hid (∀ r∈done,¬ (r.1=c.a∧c.s≤r.2))∧Hid (∀ x∈K,x.2.1 < c.st)∧Hid (Chg (fun j=>j=mo∨j=it) w2 wr)) (fun _ _ _ _ _ wr=>itLeft wr mk it)
    case atStart=>exact ⟨[],S,[],Lib.hid (List.Perm.refl _),HI,HO,Lib.hid rfl,(by intro r hr;cases hr),(by intro r hr;cases hr),Lib.hid (Chg.refl _)⟩
    case round =>
     clear HI HO
     obtain ⟨done,todo,K,HP,HI,HO,HKE,HA,HZ,HC⟩:=hrel
     go_wp2_with (refine wpS_next _ rfl (.tmp 42) rfl mk it S todo rfl HI.out ?_ ?_)
     · intro ht
       subst ht
       as_aux_lemma =>
        have HK : Hid (Bk L):=HLX.out▸HK.out
        have HPS : Hid (done.Perm S):=by have:=HP.out;rw [List.append_nil] at this;exact this
        have HSM : Hid (SetM wr mk S):=IterL.map HI.out
        have HSUB : Hid (∀ r∈S,r∈refsOf L):=fun r hr=>behind_sub ((HMS.out r).1 hr)
        have HKP : Hid (K.Perm (S.flatMap (opsAt L))):=by show List.Perm _ _;rw [HKE.out];exact HPS.out.flatMap_right _
        have HFY : Hid (fitsP L c=(!(decide (1 < c.s) && !decide ((c.a,c.s - 1)∈S)) && fitOps c.opsI K)):=fits_yes HK.out HSN.out HMS.out HKP.out (fun r hr=>HA.out r (HPS.out.mem_iff.2 hr)) HZ.out
        have HWr : Hid (Below w.heap.size w wr):=HW3.out.trans (HC.out.below HW3.out.size (fun k hk=>by have:=HN.out;have:=HIT.out;omega))
        have HQr:=Lib.hid (HQ3.out.keep (HC.out.block _ HQ3.out.lt (by have:=HN.out;have:=HIT.out;omega)))
        have hrf:=isRef_bd (err_rf HE.out).1
        have hca : 1≤c.a∧c.a≤99:=hrf.1
        have hcs : 1≤c.s∧c.s≤1000000:=hrf.2
        clear hrf
        have hws : IntKind.i64.wrap (c.s - 1)=c.s - 1:=IntWalk.i64_in _ (by omega)
        have hlk:=HSM.out.look (r:=(c.a,c.s - 1)) ⟨by show _≤c.a∧c.a≤_;omega,by show _≤c.s - 1∧c.s - 1≤_;omega⟩
        unfold refV at hlk
        have HIDS : Hid (((K++c.opsI).map Prod.snd).Nodup):=ids_nodup HK.out HSN.out HSUB.out HKP.out HZ.out
        have HKN : Hid (K.length≤40000):=by
         have h1:=known_less HK.out HLL.out HSN.out HSUB.out HP.out
         rw [← HKE.out] at h1
         exact h1
        have HKI : Hid (∀ y∈K,1≤y.1.k∧(y.1.k=2→y.1.vk=5∨y.1.vk=6)):=fun y hy=>by
         rw [HKE.out] at hy
         obtain ⟨r,hr,hy⟩:=List.mem_flatMap.1 hy
         exact at_kinds HK.out hy
        obtain ⟨bm,hbm⟩ : ∃ bm,decide ((c.a,c.s - 1)∈S)=bm:=⟨_,rfl⟩
        rw [hbm] at hlk HFY
        clear hbm HPS HSM HKP HA HZ HKE HP
        have c0 : wr.cell? ⟨w.heap.size,0,none⟩=some (.int .i64 c.a):=HQr.out.cell 0
        have c1 : wr.cell? ⟨w.heap.size,1,none⟩=some (.int .i64 c.s):=HQr.out.cell 1
        go_upto_region 25 with fail
        go_cut [104] (fun s104 wc=>s104=.bool (decide (1 < c.s) && !bm)∧wc=wr)
        case first =>
         by_cases h1 : 1 < c.s
         · have HD1 : Hid (decide (1 < c.s)=true):=decide_eq_true h1
           cases bm
           all_goals
            go_wp2_with fail
            go_meet
            case rel=>exact ⟨by rw [HD1.out];rfl,rfl⟩
         · have HD1 : Hid (decide (1 < c.s)=false):=decide_eq_false h1
           go_wp2_with fail
           go_meet
           case rel=>exact ⟨by rw [HD1.out];rfl,rfl⟩
        case rest =>
         obtain ⟨rfl,rfl⟩:=hcut
         clear hlk c0 c1
         cases hno : (decide (1 < c.s) && !bm) with
         | true =>
           have HF : Hid (fitsP L c=false):=by show _=_;rw [HFY.out,hno];rfl
           clear hno
           go_wp2_with fail
           go_ret
           exact ⟨by rw [HF.out];rfl,HWr.out⟩
         | false =>
           have HFO : Hid (fitsP L c=fitOps c.opsI K):=by show _=_;rw [HFY.out,hno];rfl
           clear hno HFY
           obtain ⟨nops,hnp⟩ : ∃ n,c.ops.length=n:=⟨_,rfl⟩
           have HNP:=Lib.hid hnp
           rw [hnp] at hop
           have c4 : wc.cell? ⟨w.heap.size,4,none⟩=some (.slice c.OA nops c.OC):=by rw [← hnp];exact HQr.out.cell 4
           clear hnp
           go_upto_region 28 with fail
           clear c4
           go_loopw [15,16,17,108] (fun _ _ _ s wr=>∃ i : Nat,s=.int .i64 i∧i≤nops∧Hid (OpsM wr mo (K++c.opsI.take i))∧Hid (fitOps c.opsI K=fitOps (c.opsI.drop i) (K++c.opsI.take i))∧Hid (Chg (fun j=>j=mo∨j=it) w2 wr)) (fun _ _ _ s _=>nops - (intOf s).toNat)
           case atStart=>exact ⟨0,rfl,by omega,by show OpsM _ _ _;simpa using HO.out,by show _=_;simp,HC⟩
           case round =>
            clear HO HC HWr HQr HI
            obtain ⟨i,rfl,hi,HO,HFI,HC⟩:=hrel
            have HWr : Hid (Below w.heap.size w wr):=HW3.out.trans (HC.out.below HW3.out.size (fun k hk=>by have:=HN.out;have:=HIT.out;omega))
            by_cases hil : i < nops
            · obtain ⟨ox,hox⟩ : ∃ ox,c.ops[i]?=some ox:=⟨_,List.getElem?_eq_getElem (by rw [HNP.out];exact hil)⟩
              have HQr:=Lib.hid (HQ3.out.keep (HC.out.block _ HQ3.out.lt (by have:=HN.out;have:=HIT.out;omega)))
              have hxi:=HCI.out.keep (fun k hk=>HWr.out.block k hk)
              obtain ⟨b3,o3,hA3,hl3',hc3⟩:=hxi.ho.at_ (by rw [HNP.out];omega) (by omega)
              have hl3 : b3 < wr.heap.size:=Nat.lt_of_lt_of_le hl3' HWr.out.size
              have key : ∀ i' v,i' < 13→(opC ox)[i']?=some v→wr.cell? ⟨b3,o3+i*13+i',none⟩=some v:=fun i' v h1 h2=>by
               have h3:=opsC_at hox i' h1
               rw [h2] at h3
               have:=hc3 _ _ h3
               rw [← Nat.add_assoc] at this
               exact this
              have q0 : wr.cell? ⟨b3,o3+i*13,none⟩=some (.int .i64 ox.k):=key 0 _ (by omega) rfl
              have q1 : wr.cell? ⟨b3,o3+i*13+1,none⟩=some (.int .i64 ox.on):=key 1 _ (by omega) rfl
              have q2 : wr.cell? ⟨b3,o3+i*13+2,none⟩=some (.int .i64 ox.oa):=key 2 _ (by omega) rfl
              have q3 : wr.cell? ⟨b3,o3+i*13+3,none⟩=some (.string ox.key):=key 3 _ (by omega) rfl
              have q4 : wr.cell? ⟨b3,o3+i*13+4,none⟩=some (.int .i64 ox.en):=key 4 _ (by omega) rfl
              have q5 : wr.cell? ⟨b3,o3+i*13+5,none⟩=some (.int .i64 ox.ea):=key 5 _ (by omega) rfl
              have q6 : wr.cell? ⟨b3,o3+i*13+6,none⟩=some (.bool ox.ins):=key 6 _ (by omega) rfl
              have q7 : wr.cell? ⟨b3,o3+i*13+7,none⟩=some (.int .i64 ox.vk):=key 7 _ (by omega) rfl
              have q8 : wr.cell? ⟨b3,o3+i*13+8,none⟩=some (.int .i64 ox.vn):=key 8 _ (by omega) rfl
              have q9 : wr.cell? ⟨b3,o3+i*13+9,none⟩=some (.string ox.vt):=key 9 _ (by omega) rfl
              have q10 : wr.cell? ⟨b3,o3+i*13+10,none⟩=some (.int .i64 ox.va):=key 10 _ (by omega) rfl
              have q11 : wr.cell? ⟨b3,o3+i*13+11,none⟩=some (.int .i64 ox.vb):=key 11 _ (by omega) rfl
              have q12 : wr.cell? ⟨b3,o3+i*13+12,none⟩=some (.slice ox.A ox.l.length ox.c):=key 12 _ (by omega) rfl
              have hws2 : IntKind.i64.wrap (c.st+(i : Int))=c.st+(i : Int):=IntWalk.i64_in _ (by omega)
              have hoi : c.opsI[i]?=some (ox,(c.st+(i : Int),c.a)):=idsFrom_at _ _ _ _ _ hox
              have HTK : Hid (c.opsI.take (i+1)=c.opsI.take i++[(ox,(c.st+(i : Int),c.a))]):=by show _=_;rw [List.take_add_one,hoi];rfl
              have HFA:=Lib.hid (fitOps_at (K:=K) hoi)
              have HOXM:=Lib.hid (List.mem_of_getElem? hox)
              have HI64 : Hid (I64R (c.st+(i : Int),c.a)):=⟨by show _≤c.st+(i : Int)∧c.st+(i : Int)≤_;omega,by show _≤c.a∧c.a≤_;omega⟩
              have HNEW : Hid (∀ y∈K++c.opsI.take i,y.2≠(c.st+(i : Int),c.a)):=next_new (B:=[]) (by rw [List.append_nil];exact HIDS.out) hoi
              have HKM : Hid ((K++c.opsI.take i).length < maxLen):=by
               have h1:=HKN.out
               show _ < _
               rw [List.length_append,List.length_take]
               simp only [maxLen]
               omega
              have HKK : Hid (∀ y∈K++c.opsI.take i,1≤y.1.k∧(y.1.k=2→y.1.vk=5∨y.1.vk=6)):=fun y hy=>by
               rcases List.mem_append.1 hy with h | h
               · exact HKI.out y h
               · exact own_kinds HE.out (List.mem_of_mem_take h)
              have HOX:=Lib.hid hA3
              rw [hA3] at HQr ⊢
              clear hA3 key hc3 hxi hox hoi hl3'
              go_upto_region 30 with fail
              have hb9 : Below wr.heap.size wr (wr.alloc (.cells #[.int .i64 ox.k,.int .i64 ox.on,.int .i64 ox.oa,.string ox.key,.int .i64 ox.en,.int .i64 ox.ea,.bool ox.ins,.int .i64 ox.vk,.int .i64 ox.vn,.string ox.vt,.int .i64 ox.va,.int .i64 ox.vb,.slice ox.A ox.l.length ox.c] 88)):=(Below.refl wr.heap.size wr).alloc (Nat.le_refl _) _
              have HP1:=Lib.hid (Blk.new wr 88 #[.int .i64 ox.k,.int .i64 ox.on,.int .i64 ox.oa,.string ox.key,.int .i64 ox.en,.int .i64 ox.ea,.bool ox.ins,.int .i64 ox.vk,.int .i64 ox.vn,.string ox.vt,.int .i64 ox.va,.int .i64 ox.vb,.slice ox.A ox.l.length ox.c])
              have HQ1:=Lib.hid (HQr.out.keep (hb9.block _ HQr.out.lt))
              have HO1:=Lib.hid (HO.out.keep (hb9.block _ (MapL.lt HO.out)))
              have HC1:=Lib.hid (HC.out.alloc (.cells #[.int .i64 ox.k,.int .i64 ox.on,.int .i64 ox.oa,.string ox.key,.int .i64 ox.en,.int .i64 ox.ea,.bool ox.ins,.int .i64 ox.vk,.int .i64 ox.vn,.string ox.vt,.int .i64 ox.va,.int .i64 ox.vb,.slice ox.A ox.l.length ox.c] 88))
              clear HQr HO HC hb9 HWr hl3
              clear q0 q1 q2 q3 q4 q5 q6 q7 q8 q9 q10 q11 q12
              generalize wr.alloc (.cells #[.int .i64 ox.k,.int .i64 ox.on,.int .i64 ox.oa,.string ox.key,.int .i64 ox.en,.int .i64 ox.ea,.bool ox.ins,.int .i64 ox.vk,.int .i64 ox.vn,.string ox.vt,.int .i64 ox.va,.int .i64 ox.vb,.slice ox.A ox.l.length ox.c] 88)=w6 at HP1 HQ1 HO1 HC1 ⊢
              generalize wr.heap.size=qp at HP1 ⊢
              have q0 : w6.cell? ⟨qp,0,none⟩=some (.int .i64 ox.k):=HP1.out.cell 0
              have q1 : w6.cell? ⟨qp,1,none⟩=some (.int .i64 ox.on):=HP1.out.cell 1
              have q2 : w6.cell? ⟨qp,2,none⟩=some (.int .i64 ox.oa):=HP1.out.cell 2
              have q3 : w6.cell? ⟨qp,3,none⟩=some (.string ox.key):=HP1.out.cell 3
              have q4 : w6.cell? ⟨qp,4,none⟩=some (.int .i64 ox.en):=HP1.out.cell 4
              have q5 : w6.cell? ⟨qp,5,none⟩=some (.int .i64 ox.ea):=HP1.out.cell 5
              have q6 : w6.cell? ⟨qp,6,none⟩=some (.bool ox.ins):=HP1.out.cell 6
              have q7 : w6.cell? ⟨qp,7,none⟩=some (.int .i64 ox.vk):=HP1.out.cell 7
              have q8 : w6.cell? ⟨qp,8,none⟩=some (.int .i64 ox.vn):=HP1.out.cell 8
              have q9 : w6.cell? ⟨qp,9,none⟩=some (.string ox.vt):=HP1.out.cell 9
              have q10 : w6.cell? ⟨qp,10,none⟩=some (.int .i64 ox.va):=HP1.out.cell 10
              have q11 : w6.cell? ⟨qp,11,none⟩=some (.int .i64 ox.vb):=HP1.out.cell 11
              have q12 : w6.cell? ⟨qp,12,none⟩=some (.slice ox.A ox.l.length ox.c):=HP1.out.cell 12
              have c0 : w6.cell? ⟨w.heap.size,0,none⟩=some (.int .i64 c.a):=HQ1.out.cell 0
              have c2 : w6.cell? ⟨w.heap.size,2,none⟩=some (.int .i64 c.st):=HQ1.out.cell 2
              go_upto_region 31 with (refine wpL_build2 rfl 250 (.tmp 113) (.tmp 120) rfl (.agg #[.int .i64 ox.k,.int .i64 ox.on,.int .i64 ox.oa,.string ox.key,.int .i64 ox.en,.int .i64 ox.ea,.bool ox.ins,.int .i64 ox.vk,.int .i64 ox.vn,.string ox.vt,.int .i64 ox.va,.int .i64 ox.vb,.slice ox.A ox.l.length ox.c]) (.agg #[.int .i64 (c.st+(i : Int)),.int .i64 c.a]) (.agg #[.int .i64 ox.k,.int .i64 ox.on,.int .i64 ox.oa,.string ox.key,.int .i64 ox.en,.int .i64 ox.ea,.bool ox.ins,.int .i64 ox.vk,.int .i64 ox.vn,.string ox.vt,.int .i64 ox.va,.int .i64 ox.vb,.slice ox.A ox.l.length ox.c,.int .i64 (c.st+(i : Int)),.int .i64 c.a]) rfl rfl (build_op ox ox.l.length (c.st+(i : Int)) c.a _) ?_)
              clear q0 q1 q2 q3 q4 q5 q6 q7 q8 q9 q10 q11 q12
              clear c0 c2
              have hb9 : Below w6.heap.size w6 (w6.alloc (.cells #[.int .i64 ox.k,.int .i64 ox.on,.int .i64 ox.oa,.string ox.key,.int .i64 ox.en,.int .i64 ox.ea,.bool ox.ins,.int .i64 ox.vk,.int .i64 ox.vn,.string ox.vt,.int .i64 ox.va,.int .i64 ox.vb,.slice ox.A ox.l.length ox.c,.int .i64 (c.st+(i : Int)),.int .i64 c.a] 250)):=(Below.refl w6.heap.size w6).alloc (Nat.le_refl _) _
              have HY:=Lib.hid (Blk.new w6 250 #[.int .i64 ox.k,.int .i64 ox.on,.int .i64 ox.oa,.string ox.key,.int .i64 ox.en,.int .i64 ox.ea,.bool ox.ins,.int .i64 ox.vk,.int .i64 ox.vn,.string ox.vt,.int .i64 ox.va,.int .i64 ox.vb,.slice ox.A ox.l.length ox.c,.int .i64 (c.st+(i : Int)),.int .i64 c.a])
              have HO2:=Lib.hid (HO1.out.keep (hb9.block _ (MapL.lt HO1.out)))
              have HC2:=Lib.hid (HC1.out.alloc (.cells #[.int .i64 ox.k,.int .i64 ox.on,.int .i64 ox.oa,.string ox.key,.int .i64 ox.en,.int .i64 ox.ea,.bool ox.ins,.int .i64 ox.vk,.int .i64 ox.vn,.string ox.vt,.int .i64 ox.va,.int .i64 ox.vb,.slice ox.A ox.l.length ox.c,.int .i64 (c.st+(i : Int)),.int .i64 c.a] 250))
              clear HP1 HQ1 HO1 HC1 hb9
              generalize w6.alloc (.cells #[.int .i64 ox.k,.int .i64 ox.on,.int .i64 ox.oa,.string ox.key,.int .i64 ox.en,.int .i64 ox.ea,.bool ox.ins,.int .i64 ox.vk,.int .i64 ox.vn,.string ox.vt,.int .i64 ox.va,.int .i64 ox.vb,.slice ox.A ox.l.length ox.c,.int .i64 (c.st+(i : Int)),.int .i64 c.a] 250)=w7 at HY HO2 HC2 ⊢
              generalize w6.heap.size=qz at HY ⊢
              have HW7 : Hid (Below w.heap.size w w7):=HW3.out.trans (HC2.out.below HW3.out.size (fun k hk=>by have:=HN.out;have:=HIT.out;omega))
              have z0 : w7.cell? ⟨qz,0,none⟩=some (.int .i64 ox.k):=HY.out.cell 0
              have z1 : w7.cell? ⟨qz,1,none⟩=some (.int .i64 ox.on):=HY.out.cell 1
              have z2 : w7.cell? ⟨qz,2,none⟩=some (.int .i64 ox.oa):=HY.out.cell 2
              have z3 : w7.cell? ⟨qz,3,none⟩=some (.string ox.key):=HY.out.cell 3
              have z4 : w7.cell? ⟨qz,4,none⟩=some (.int .i64 ox.en):=HY.out.cell 4
              have z5 : w7.cell? ⟨qz,5,none⟩=some (.int .i64 ox.ea):=HY.out.cell 5
              have z6 : w7.cell? ⟨qz,6,none⟩=some (.bool ox.ins):=HY.out.cell 6
              have z7 : w7.cell? ⟨qz,7,none⟩=some (.int .i64 ox.vk):=HY.out.cell 7
              have z8 : w7.cell? ⟨qz,8,none⟩=some (.int .i64 ox.vn):=HY.out.cell 8
              have z9 : w7.cell? ⟨qz,9,none⟩=some (.string ox.vt):=HY.out.cell 9
              have z10 : w7.cell? ⟨qz,10,none⟩=some (.int .i64 ox.va):=HY.out.cell 10
              have z11 : w7.cell? ⟨qz,11,none⟩=some (.int .i64 ox.vb):=HY.out.cell 11
              have z12 : w7.cell? ⟨qz,12,none⟩=some (.slice ox.A ox.l.length ox.c):=HY.out.cell 12
              have z13 : w7.cell? ⟨qz,13,none⟩=some (.int .i64 (c.st+(i : Int))):=HY.out.cell 13
              have z14 : w7.cell? ⟨qz,14,none⟩=some (.int .i64 c.a):=HY.out.cell 14
              have hids:=opE_ids (err_ops HE.out ox HOXM.out)
              have C3:=opfits_any (ox,(c.st+(i : Int),c.a)) (K++c.opsI.take i) mo w7 HO2.out (reads_below (HCI.out.hp ox HOXM.out).1 HW7.out) (by have:=err_ll HE.out ox HOXM.out;show ox.l.length≤_;omega) hids.1 hids.2.1 hids.2.2 HKK.out
              unfold opIV at C3
              clear hids
              go_wp2_with fail
              go_at_call 168
              refine C3.mono ?_
              rintro e w8 ⟨rfl,hb⟩
              clear z0 z1 z2 z3 z4 z5 z6 z7 z8 z9 z10 z11 z12 z13 z14
              have HO3:=Lib.hid (HO2.out.keep (hb.block _ (MapL.lt HO2.out)))
              have HY3:=Lib.hid (HY.out.keep (hb.block _ HY.out.lt))
              have HC3:=Lib.hid (HC2.out.trans (Chg.of_below hb) (fun _ _ h=>h))
              have HW8 : Hid (Below w.heap.size w w8):=HW7.out.trans (hb.mono HW7.out.size)
              clear C3 HO2 HY HC2 HW7 hb
              cases hmy : mayP (ox,(c.st+(i : Int),c.a)) (K++c.opsI.take i) with
              | false =>
                have HF : Hid (fitsP L c=false):=by
                 show _=_
                 rw [HFO.out,HFI.out,HFA.out,hmy];rfl
                clear hmy
                go_wp2_with fail
                go_ret
                exact ⟨by rw [HF.out];rfl,HW8.out⟩
              | true =>
                have HFI2:=HFA.out
                rw [hmy,Bool.true_and] at HFI2
                have HFI3 : Hid (fitOps c.opsI K=fitOps (c.opsI.drop (i+1)) (K++c.opsI.take (i+1))):=HFI.out.trans HFI2
                clear hmy HFI2
                have z0 : w8.cell? ⟨qz,0,none⟩=some (.int .i64 ox.k):=HY3.out.cell 0
                have z1 : w8.cell? ⟨qz,1,none⟩=some (.int .i64 ox.on):=HY3.out.cell 1
                have z2 : w8.cell? ⟨qz,2,none⟩=some (.int .i64 ox.oa):=HY3.out.cell 2
                have z3 : w8.cell? ⟨qz,3,none⟩=some (.string ox.key):=HY3.out.cell 3
                have z4 : w8.cell? ⟨qz,4,none⟩=some (.int .i64 ox.en):=HY3.out.cell 4
                have z5 : w8.cell? ⟨qz,5,none⟩=some (.int .i64 ox.ea):=HY3.out.cell 5
                have z6 : w8.cell? ⟨qz,6,none⟩=some (.bool ox.ins):=HY3.out.cell 6
                have z7 : w8.cell? ⟨qz,7,none⟩=some (.int .i64 ox.vk):=HY3.out.cell 7
                have z8 : w8.cell? ⟨qz,8,none⟩=some (.int .i64 ox.vn):=HY3.out.cell 8
                have z9 : w8.cell? ⟨qz,9,none⟩=some (.string ox.vt):=HY3.out.cell 9
                have z10 : w8.cell? ⟨qz,10,none⟩=some (.int .i64 ox.va):=HY3.out.cell 10
                have z11 : w8.cell? ⟨qz,11,none⟩=some (.int .i64 ox.vb):=HY3.out.cell 11
                have z12 : w8.cell? ⟨qz,12,none⟩=some (.slice ox.A ox.l.length ox.c):=HY3.out.cell 12
                have z13 : w8.cell? ⟨qz,13,none⟩=some (.int .i64 (c.st+(i : Int))):=HY3.out.cell 13
                have z14 : w8.cell? ⟨qz,14,none⟩=some (.int .i64 c.a):=HY3.out.cell 14
                have hst:=HO3.out.add (x:=(ox,(c.st+(i : Int),c.a))) HI64.out HNEW.out HKM.out
                go_wp2_with (refine wpL_store _ rfl (.tmp 126) (.tmp 128) (.tmp 129) 248 (.inl rfl) mo (.agg #[.int .i64 (c.st+(i : Int)),.int .i64 c.a]) (.agg #[.int .i64 ox.k,.int .i64 ox.on,.int .i64 ox.oa,.string ox.key,.int .i64 ox.en,.int .i64 ox.ea,.bool ox.ins,.int .i64 ox.vk,.int .i64 ox.vn,.string ox.vt,.int .i64 ox.va,.int .i64 ox.vb,.slice ox.A ox.l.length ox.c,.int .i64 (c.st+(i : Int)),.int .i64 c.a]) rfl rfl rfl _ hst ?_;rintro w9 ⟨hO9,ht9⟩)
                have hg9:=ht9.grown
                have HO9 : Hid (OpsM w9 mo (K++c.opsI.take (i+1))):=by show OpsM _ _ _;rw [HTK.out,← List.append_assoc];exact hO9
                have HC9:=Lib.hid (HC3.out.grown hg9 (fun q hq=>by cases hq;exact .inl (.inl rfl)))
                clear z0 z1 z2 z3 z4 z5 z6 z7 z8 z9 z10 z11 z12 z13 z14
                clear hst hg9 ht9 hO9 HO3 HC3 HY3 HW8
                try simp only [Act.put,List.setIfInBounds_toArray,List.set_cons_zero,List.set_cons_succ]
                go_wp2_with fail
                go_roundw
                case rel=>exact ⟨i+1,by go_num,by omega,HO9,HFI3,HC9⟩
                case measure=>simp [intOf];omega
            · have HF : Hid (fitsP L c=true):=by
               have:=HFI.out
               show _=_
               rw [HFO.out,this,List.drop_of_length_le (by rw [opsI_len,HNP.out];omega)];rfl
              go_wp2_with fail
              go_ret
              exact ⟨by rw [HF.out];rfl,HWr.out⟩
     · intro ya yb todo' w3 hp hI3 hg3 hs3 hen
       have HYS : Hid ((ya,yb)∈S):=HI.out.sub (ya,yb) (hp.mem_iff.2 (List.mem_cons_self ..))
       have HTP:=Lib.hid hp
       have HLE : Hid (itLeft wr mk it=todo'.length+1):=by show _=_;rw [IterL.left HI.out,List.length_map,hp.length_eq];rfl
       have HI3 : Hid (IterS w3 mk it S todo'):=hI3
       have HMI : Hid (mo≠it∧mk≠mo∧mk≠it∧w.heap.size≤mo∧w.heap.size≤it∧w.heap.size < mo∧w.heap.size < it):=by have:=HN.out;have:=HIT.out;show _∧_;omega
       have HO3:=Lib.hid (HO.out.keep (hg3.block _ (MapL.lt HO.out) (fun e=>HMI.out.1 (Option.some.inj e))))
       have HC3:=Lib.hid (HC.out.grown hg3 (fun q hq=>by cases hq;exact .inl (.inr rfl)))
       obtain ⟨x,hx,hxr⟩:=setAt_some (X:=X) (by rw [HLX.out];exact behind_sub ((HMS.out _).1 HYS.out))
       have hfx : findC L (ya,yb)=some x.1:=by rw [← hxr];exact findC_is (HLX.out▸HK.out.nodup) (by rw [← HLX.out];exact List.mem_map.2 ⟨x,hx,rfl⟩)
       have HOA : Hid (opsAt L (ya,yb)=x.1.opsI):=by show _=_;unfold opsAt;rw [hfx]
       have HLV : Hid (lookV L (ya,yb)=x.1.v):=by show _=_;unfold lookV;rw [hfx]
       have HX:=Lib.hid hx
       have HXR:=Lib.hid hxr
       clear hp hI3 hg3 hs3 hx hxr hfx HI HO HC
       go_upto_region 14 with fail
       have HV:=Lib.hid (Blk.new w3 77 #[.int .i64 ya,.int .i64 yb])
       have HC4:=Lib.hid (HC3.out.alloc (.cells #[.int .i64 ya,.int .i64 yb] 77))
       have HO4:=Lib.hid (HO3.out.keep (w':=w3.alloc (.cells #[.int .i64 ya,.int .i64 yb] 77)) (Below.heap_alloc _ _ _ (MapL.lt HO3.out)))
       have HI4 : Hid (IterS (w3.alloc (.cells #[.int .i64 ya,.int .i64 yb] 77)) mk it S todo'):=IterL.keep HI3.out (Below.heap_alloc _ _ _ (MapL.lt (IterL.map HI3.out))) (Below.heap_alloc _ _ _ (IterL.lt HI3.out))
       clear HC3 HO3 HI3 hen
       generalize w3.alloc (.cells #[.int .i64 ya,.int .i64 yb] 77)=w4 at HV HC4 HO4 HI4 ⊢
       generalize w3.heap.size=qy at HV ⊢
       have HW4 : Hid (Below w.heap.size w w4):=HW3.out.trans (HC4.out.below HW3.out.size (fun k hk=>by have:=HMI.out;omega))
       have HP4:=Lib.hid (HB.out.below HW4.out)
       have hry : I64R (ya,yb):=bk_i64 HK.out (by rw [HLX.out];exact behind_sub ((HMS.out _).1 HYS.out))
       have KL : ∀ V : World,Below w4.heap.size w4 V→(Instr.lookup 159 (.map (some bh)) (.agg #[.int .i64 ya,.int .i64 yb]) false).run Tryz.prog V=.ok (.agg #[.int .i64 x.1.a,.int .i64 x.1.s,.int .i64 x.1.st,.slice x.1.DA x.1.deps.length x.1.DC,.slice x.1.OA x.1.ops.length x.1.OC]) V:=fun V hv=>by
        have h1:=HasL.look (show HasL V bh (X.map Prod.fst) from MapL.keep HP4.out.mh (hv.block _ (MapL.lt HP4.out.mh))) hry false
        rw [HLX.out] at h1
        simp only [Bool.false_eq_true,if_false,HLV.out] at h1
        exact h1
       have q0 : w4.cell? ⟨qy,0,none⟩=some (.int .i64 ya):=HV.out.cell 0
       have q1 : w4.cell? ⟨qy,1,none⟩=some (.int .i64 yb):=HV.out.cell 1
       have g0 : w4.cell? ⟨g,0,none⟩=some (.map (some bh)):=HP4.out.blk.cell 0
       have KS : ∀ V : World,Below w4.heap.size w4 V→V.cell? ⟨qy,0,none⟩=some (.int .i64 ya)∧V.cell? ⟨qy,1,none⟩=some (.int .i64 yb)∧V.cell? ⟨g,0,none⟩=some (.map (some bh))∧(Instr.lookup 159 (.map (some bh)) (.agg #[.int .i64 ya,.int .i64 yb]) false).run Tryz.prog V=.ok (.agg #[.int .i64 x.1.a,.int .i64 x.1.s,.int .i64 x.1.st,.slice x.1.DA x.1.deps.length x.1.DC,.slice x.1.OA x.1.ops.length x.1.OC]) V:=fun V hv=>⟨(World.cell?_of_block (hv.block _ HV.out.lt)).trans q0,(World.cell?_of_block (hv.block _ HV.out.lt)).trans q1,(World.cell?_of_block (hv.block _ HP4.out.blk.lt)).trans g0,KL V hv⟩
       have K0:=KS w4.drew (Below.refl _ w4).drew
       have K1:=fun o=>KS (w4.drew.alloc o) ((Below.refl _ w4).drew.alloc (Nat.le_refl _) o)
       clear KL KS q0 q1 g0
       go_cut [11] (fun s11 wc=>s11=.pointer (some ⟨w4.heap.size,0,none⟩)∧wc=(w4.alloc (.cells #[.int .i64 x.1.a,.int .i64 x.1.s,.int .i64 x.1.st,.slice x.1.DA x.1.deps.length x.1.DC,.slice x.1.OA x.1.ops.length x.1.OC] 82)).drew)
       case first =>
        go_region_held3 (fun w'=>w'.cell? ⟨qy,0,none⟩=some (.int .i64 ya)∧w'.cell? ⟨qy,1,none⟩=some (.int .i64 yb)∧w'.cell? ⟨g,0,none⟩=some (.map (some bh))∧(Instr.lookup 159 (.map (some bh)) (.agg #[.int .i64 ya,.int .i64 yb]) false).run Tryz.prog w'=.ok (.agg #[.int .i64 x.1.a,.int .i64 x.1.s,.int .i64 x.1.st,.slice x.1.DA x.1.deps.length x.1.DC,.slice x.1.OA x.1.ops.length x.1.OC]) w') (first | exact K0 | exact K1 _ | go_keep) (fail)
        all_goals
         clear K0 K1
         go_wp2_with fail
         go_meet
         case rel=>exact ⟨rfl,rfl⟩
       case rest =>
        obtain ⟨rfl,rfl⟩:=hcut
        clear K0 K1
        have hb5 : Below w4.heap.size w4 (w4.alloc (.cells #[.int .i64 x.1.a,.int .i64 x.1.s,.int .i64 x.1.st,.slice x.1.DA x.1.deps.length x.1.DC,.slice x.1.OA x.1.ops.length x.1.OC] 82)).drew:=((Below.refl _ w4).alloc (Nat.le_refl _) _).drew
        have HBX : Hid (Blk (w4.alloc (.cells #[.int .i64 x.1.a,.int .i64 x.1.s,.int .i64 x.1.st,.slice x.1.DA x.1.deps.length x.1.DC,.slice x.1.OA x.1.ops.length x.1.OC] 82)).drew w4.heap.size 82 #[.int .i64 x.1.a,.int .i64 x.1.s,.int .i64 x.1.st,.slice x.1.DA x.1.deps.length x.1.DC,.slice x.1.OA x.1.ops.length x.1.OC]):=Blk.new w4 _ _
        have HV5:=Lib.hid (HV.out.keep (hb5.block _ HV.out.lt))
        have HC5 : Hid (Chg (fun j=>j=mo∨j=it) w2 (w4.alloc (.cells #[.int .i64 x.1.a,.int .i64 x.1.s,.int .i64 x.1.st,.slice x.1.DA x.1.deps.length x.1.DC,.slice x.1.OA x.1.ops.length x.1.OC] 82)).drew):=(HC4.out.alloc _).drew
        have HO5:=Lib.hid (HO4.out.keep (hb5.block _ (MapL.lt HO4.out)))
        have HI5 : Hid (IterS (w4.alloc (.cells #[.int .i64 x.1.a,.int .i64 x.1.s,.int .i64 x.1.st,.slice x.1.DA x.1.deps.length x.1.DC,.slice x.1.OA x.1.ops.length x.1.OC] 82)).drew mk it S todo'):=IterL.keep HI4.out (hb5.block _ (MapL.lt (IterL.map HI4.out))) (hb5.block _ (IterL.lt HI4.out))
        have HCI5:=Lib.hid ((HP4.out.inL x HX.out).keep (fun k hk=>hb5.block k hk.1))
        have HLT4 : Hid (w2.heap.size≤w4.heap.size):=HC4.out.size
        clear hb5 HV HC4 HO4 HI4 HW4 HP4
        generalize (w4.alloc (.cells #[.int .i64 x.1.a,.int .i64 x.1.s,.int .i64 x.1.st,.slice x.1.DA x.1.deps.length x.1.DC,.slice x.1.OA x.1.ops.length x.1.OC] 82)).drew=w5 at HBX HV5 HC5 HO5 HI5 HCI5 ⊢
        generalize w4.heap.size=qx at HBX HLT4 HCI5 ⊢
        have HW5 : Hid (Below w.heap.size w w5):=HW3.out.trans (HC5.out.below HW3.out.size (fun k hk=>by have:=HMI.out;omega))
        have HQ5:=Lib.hid (HQ3.out.keep (HC5.out.block _ HQ3.out.lt (by have:=HMI.out;omega)))
        have y1 : w5.cell? ⟨qy,0,none⟩=some (.int .i64 ya):=HV5.out.cell 0
        have y2 : w5.cell? ⟨qy,1,none⟩=some (.int .i64 yb):=HV5.out.cell 1
        have c0 : w5.cell? ⟨w.heap.size,0,none⟩=some (.int .i64 c.a):=HQ5.out.cell 0
        have c1 : w5.cell? ⟨w.heap.size,1,none⟩=some (.int .i64 c.s):=HQ5.out.cell 1
        go_upto_region 15 with fail
        go_cut [64] (fun s64 wc=>s64=.bool ((ya == c.a) && decide (c.s≤yb))∧wc=w5)
        case first =>
         obtain ⟨be,hbe⟩ : ∃ be,(ya == c.a)=be:=⟨_,rfl⟩
         have HBE:=Lib.hid hbe
         cases be
         all_goals
          go_wp2_with fail
          go_meet
          case rel=>exact ⟨by rw [HBE.out];rfl,rfl⟩
        case rest =>
         obtain ⟨rfl,rfl⟩:=hcut
         clear y1 y2 c0 c1
         by_cases hno : ya=c.a∧c.s≤yb
         · have HF : Hid (fitsP L c=false):=fits_no1 HMS.out HYS.out hno.1 hno.2
           have ht : ((ya == c.a) && decide (c.s≤yb))=true:=by simp [hno.1,hno.2]
           rw [ht]
           clear hno ht
           go_wp2_with fail
           go_ret
           exact ⟨by rw [HF.out];rfl,HW5.out⟩
         · have HNO:=Lib.hid hno
           have ht : ((ya == c.a) && decide (c.s≤yb))=false:=by
            by_cases h1 : ya=c.a
            · have h2 : ¬ c.s≤yb:=fun h=>hno ⟨h1,h⟩
              simp [h2]
            · simp [h1]
           rw [ht]
           clear hno ht
           have x4 : wc.cell? ⟨qx,4,none⟩=some (.slice x.1.OA x.1.ops.length x.1.OC):=HBX.out.cell 4
           have hxo : x.1.ops.length≤40:=(err_ok (HK.out.err x.1 (List.mem_map.2 ⟨x,HX.out,rfl⟩)).1).2.2.1
           obtain ⟨nx,hnx⟩ : ∃ n,x.1.ops.length=n:=⟨_,rfl⟩
           have HNX:=Lib.hid hnx
           rw [hnx] at x4 hxo
           clear hnx
           go_upto_region 18 with fail
           clear x4
           go_loopw [12,13,14,68] (fun _ _ _ s wr=>∃ i : Nat,s=.int .i64 i∧i≤nx∧Hid (IterS wr mk it S todo')∧Hid (OpsM wr mo (K++x.1.opsI.take i))∧Hid (∀ z∈x.1.opsI.take i,z.2.1 < c.st)∧Hid (Chg (fun j=>j=mo∨j=it) w2 wr)∧Hid (Blk wr qx 82 #[.int .i64 x.1.a,.int .i64 x.1.s,.int .i64 x.1.st,.slice x.1.DA x.1.deps.length x.1.DC,.slice x.1.OA x.1.ops.length x.1.OC])) (fun _ _ _ s _=>nx - (intOf s).toNat)
           case atStart=>exact ⟨0,rfl,by omega,HI5,by show OpsM _ _ _;simpa using HO5.out,(by intro z hz;simp at hz),HC5,HBX⟩
           case round =>
            clear HI5 HO5 HC5 HBX HW5 HQ5
            obtain ⟨i,rfl,hi,HI,HO,HZ2,HC,HBX⟩:=hrel
            by_cases hil : i < nx
            · as_aux_lemma =>
               have HK : Hid (Bk L):=HLX.out▸HK.out
               obtain ⟨ox,hox⟩ : ∃ ox,x.1.ops[i]?=some ox:=⟨_,List.getElem?_eq_getElem (by rw [HNX.out];exact hil)⟩
               have HWr : Hid (Below w.heap.size w wr):=HW3.out.trans (HC.out.below HW3.out.size (fun k hk=>by have:=HMI.out;omega))
               have HQr:=Lib.hid (HQ3.out.keep (HC.out.block _ HQ3.out.lt (by have:=HMI.out;omega)))
               have hxi:=(HB.out.inL x HX.out).keep (fun k hk=>HWr.out.block k hk.1)
               obtain ⟨b3,o3,hA3,hl3',hc3⟩:=hxi.ho.at_ (by rw [HNX.out];omega) (by omega)
               have hl3 : b3 < wr.heap.size:=Nat.lt_of_lt_of_le hl3'.1 HWr.out.size
               have key : ∀ i' v,i' < 13→(opC ox)[i']?=some v→wr.cell? ⟨b3,o3+i*13+i',none⟩=some v:=fun i' v h1 h2=>by
                have h3:=opsC_at hox i' h1
                rw [h2] at h3
                have:=hc3 _ _ h3
                rw [← Nat.add_assoc] at this
                exact this
               have q0 : wr.cell? ⟨b3,o3+i*13,none⟩=some (.int .i64 ox.k):=key 0 _ (by omega) rfl
               have q1 : wr.cell? ⟨b3,o3+i*13+1,none⟩=some (.int .i64 ox.on):=key 1 _ (by omega) rfl
               have q2 : wr.cell? ⟨b3,o3+i*13+2,none⟩=some (.int .i64 ox.oa):=key 2 _ (by omega) rfl
               have q3 : wr.cell? ⟨b3,o3+i*13+3,none⟩=some (.string ox.key):=key 3 _ (by omega) rfl
               have q4 : wr.cell? ⟨b3,o3+i*13+4,none⟩=some (.int .i64 ox.en):=key 4 _ (by omega) rfl
               have q5 : wr.cell? ⟨b3,o3+i*13+5,none⟩=some (.int .i64 ox.ea):=key 5 _ (by omega) rfl
               have q6 : wr.cell? ⟨b3,o3+i*13+6,none⟩=some (.bool ox.ins):=key 6 _ (by omega) rfl
               have q7 : wr.cell? ⟨b3,o3+i*13+7,none⟩=some (.int .i64 ox.vk):=key 7 _ (by omega) rfl
               have q8 : wr.cell? ⟨b3,o3+i*13+8,none⟩=some (.int .i64 ox.vn):=key 8 _ (by omega) rfl
               have q9 : wr.cell? ⟨b3,o3+i*13+9,none⟩=some (.string ox.vt):=key 9 _ (by omega) rfl
               have q10 : wr.cell? ⟨b3,o3+i*13+10,none⟩=some (.int .i64 ox.va):=key 10 _ (by omega) rfl
               have q11 : wr.cell? ⟨b3,o3+i*13+11,none⟩=some (.int .i64 ox.vb):=key 11 _ (by omega) rfl
               have q12 : wr.cell? ⟨b3,o3+i*13+12,none⟩=some (.slice ox.A ox.l.length ox.c):=key 12 _ (by omega) rfl
               have hxe:=HK.out.err x.1 (by rw [← HLX.out];exact List.mem_map.2 ⟨x,HX.out,rfl⟩)
               have hxb:=(isRef_bd (err_rf hxe.1).1).1
               have hxs:=err_ok hxe.1
               have hx1 : 1≤x.1.st:=hxs.1
               have hx2 : x.1.st≤1000000:=hxs.2.1
               have hws : IntKind.i64.wrap (x.1.st+(i : Int))=x.1.st+(i : Int):=IntWalk.i64_in _ (by omega)
               have hoi : x.1.opsI[i]?=some (ox,(x.1.st+(i : Int),x.1.a)):=idsFrom_at _ _ _ _ _ hox
               have HTK : Hid (x.1.opsI.take (i+1)=x.1.opsI.take i++[(ox,(x.1.st+(i : Int),x.1.a))]):=by show _=_;rw [List.take_add_one,hoi];rfl
               have HIN : Hid ((ox,(x.1.st+(i : Int),x.1.a))∈x.1.opsI):=List.mem_of_getElem? hoi
               have HI64 : Hid (I64R (x.1.st+(i : Int),x.1.a)):=⟨by show _≤x.1.st+(i : Int)∧x.1.st+(i : Int)≤_;omega,by have : 1≤x.1.a∧x.1.a≤99:=hxb;show _≤x.1.a∧x.1.a≤_;omega⟩
               have HNEW : Hid (∀ y∈K++x.1.opsI.take i,y.2≠(x.1.st+(i : Int),x.1.a)):=by
                have hpm : (done++((ya,yb)::todo')).Perm S:=(HTP.out.symm.append_left done).trans HP.out
                have hnd : (((done++((ya,yb)::todo')).flatMap (opsAt L)).map Prod.snd).Nodup:=known_nodup HK.out (hpm.nodup_iff.2 HSN.out) (fun r hr=>behind_sub ((HMS.out r).1 (hpm.mem_iff.1 hr)))
                rw [List.flatMap_append,List.flatMap_cons,HOA.out,← HKE.out] at hnd
                exact next_new hnd hoi
               have HKN : Hid ((K++x.1.opsI.take i).length < maxLen):=by
                have h1:=known_less HK.out HLL.out HSN.out (fun r hr=>behind_sub ((HMS.out r).1 hr)) HP.out
                rw [← HKE.out] at h1
                show _ < _
                rw [List.length_append,List.length_take]
                simp only [maxLen]
                omega
               have HOX:=Lib.hid hA3
               rw [hA3] at HBX ⊢
               clear hA3 key hc3 hxi hox hoi hl3' hxe hxb hxs
               go_upto_region 20 with fail
               have hb9 : Below wr.heap.size wr (wr.alloc (.cells #[.int .i64 ox.k,.int .i64 ox.on,.int .i64 ox.oa,.string ox.key,.int .i64 ox.en,.int .i64 ox.ea,.bool ox.ins,.int .i64 ox.vk,.int .i64 ox.vn,.string ox.vt,.int .i64 ox.va,.int .i64 ox.vb,.slice ox.A ox.l.length ox.c] 88)):=(Below.refl wr.heap.size wr).alloc (Nat.le_refl _) _
               have HP1:=Lib.hid (Blk.new wr 88 #[.int .i64 ox.k,.int .i64 ox.on,.int .i64 ox.oa,.string ox.key,.int .i64 ox.en,.int .i64 ox.ea,.bool ox.ins,.int .i64 ox.vk,.int .i64 ox.vn,.string ox.vt,.int .i64 ox.va,.int .i64 ox.vb,.slice ox.A ox.l.length ox.c])
               have HBX1:=Lib.hid (HBX.out.keep (hb9.block _ HBX.out.lt))
               have HQ1:=Lib.hid (HQr.out.keep (hb9.block _ HQr.out.lt))
               have HO1:=Lib.hid (HO.out.keep (hb9.block _ (MapL.lt HO.out)))
               have HI1 : Hid (IterS (wr.alloc (.cells #[.int .i64 ox.k,.int .i64 ox.on,.int .i64 ox.oa,.string ox.key,.int .i64 ox.en,.int .i64 ox.ea,.bool ox.ins,.int .i64 ox.vk,.int .i64 ox.vn,.string ox.vt,.int .i64 ox.va,.int .i64 ox.vb,.slice ox.A ox.l.length ox.c] 88)) mk it S todo'):=IterL.keep HI.out (hb9.block _ (MapL.lt (IterL.map HI.out))) (hb9.block _ (IterL.lt HI.out))
               have HC1:=Lib.hid (HC.out.alloc (.cells #[.int .i64 ox.k,.int .i64 ox.on,.int .i64 ox.oa,.string ox.key,.int .i64 ox.en,.int .i64 ox.ea,.bool ox.ins,.int .i64 ox.vk,.int .i64 ox.vn,.string ox.vt,.int .i64 ox.va,.int .i64 ox.vb,.slice ox.A ox.l.length ox.c] 88))
               clear HBX HQr HO HI HC hb9 HWr hl3
               clear q0 q1 q2 q3 q4 q5 q6 q7 q8 q9 q10 q11 q12
               generalize wr.alloc (.cells #[.int .i64 ox.k,.int .i64 ox.on,.int .i64 ox.oa,.string ox.key,.int .i64 ox.en,.int .i64 ox.ea,.bool ox.ins,.int .i64 ox.vk,.int .i64 ox.vn,.string ox.vt,.int .i64 ox.va,.int .i64 ox.vb,.slice ox.A ox.l.length ox.c] 88)=w6 at HP1 HBX1 HQ1 HO1 HI1 HC1 ⊢
               generalize wr.heap.size=qp at HP1 ⊢
               have x0 : w6.cell? ⟨qx,0,none⟩=some (.int .i64 x.1.a):=HBX1.out.cell 0
               have x2 : w6.cell? ⟨qx,2,none⟩=some (.int .i64 x.1.st):=HBX1.out.cell 2
               go_upto_region 21 with fail
               have hb9 : Below w6.heap.size w6 (w6.alloc (.cells #[.int .i64 (x.1.st+(i : Int)),.int .i64 x.1.a] 24)):=(Below.refl w6.heap.size w6).alloc (Nat.le_refl _) _
               have HN2:=Lib.hid (Blk.new w6 24 #[.int .i64 (x.1.st+(i : Int)),.int .i64 x.1.a])
               have HP2:=Lib.hid (HP1.out.keep (hb9.block _ HP1.out.lt))
               have HBX2:=Lib.hid (HBX1.out.keep (hb9.block _ HBX1.out.lt))
               have HQ2:=Lib.hid (HQ1.out.keep (hb9.block _ HQ1.out.lt))
               have HO2:=Lib.hid (HO1.out.keep (hb9.block _ (MapL.lt HO1.out)))
               have HI2 : Hid (IterS (w6.alloc (.cells #[.int .i64 (x.1.st+(i : Int)),.int .i64 x.1.a] 24)) mk it S todo'):=IterL.keep HI1.out (hb9.block _ (MapL.lt (IterL.map HI1.out))) (hb9.block _ (IterL.lt HI1.out))
               have HC2:=Lib.hid (HC1.out.alloc (.cells #[.int .i64 (x.1.st+(i : Int)),.int .i64 x.1.a] 24))
               clear HP1 HBX1 HQ1 HO1 HI1 HC1 hb9 x0 x2
               generalize w6.alloc (.cells #[.int .i64 (x.1.st+(i : Int)),.int .i64 x.1.a] 24)=w7 at HN2 HP2 HBX2 HQ2 HO2 HI2 HC2 ⊢
               generalize w6.heap.size=qn at HN2 ⊢
               have n0 : w7.cell? ⟨qn,0,none⟩=some (.int .i64 (x.1.st+(i : Int))):=HN2.out.cell 0
               have n1 : w7.cell? ⟨qn,1,none⟩=some (.int .i64 x.1.a):=HN2.out.cell 1
               have q0 : w7.cell? ⟨qp,0,none⟩=some (.int .i64 ox.k):=HP2.out.cell 0
               have q1 : w7.cell? ⟨qp,1,none⟩=some (.int .i64 ox.on):=HP2.out.cell 1
               have q2 : w7.cell? ⟨qp,2,none⟩=some (.int .i64 ox.oa):=HP2.out.cell 2
               have q3 : w7.cell? ⟨qp,3,none⟩=some (.string ox.key):=HP2.out.cell 3
               have q4 : w7.cell? ⟨qp,4,none⟩=some (.int .i64 ox.en):=HP2.out.cell 4
               have q5 : w7.cell? ⟨qp,5,none⟩=some (.int .i64 ox.ea):=HP2.out.cell 5
               have q6 : w7.cell? ⟨qp,6,none⟩=some (.bool ox.ins):=HP2.out.cell 6
               have q7 : w7.cell? ⟨qp,7,none⟩=some (.int .i64 ox.vk):=HP2.out.cell 7
               have q8 : w7.cell? ⟨qp,8,none⟩=some (.int .i64 ox.vn):=HP2.out.cell 8
               have q9 : w7.cell? ⟨qp,9,none⟩=some (.string ox.vt):=HP2.out.cell 9
               have q10 : w7.cell? ⟨qp,10,none⟩=some (.int .i64 ox.va):=HP2.out.cell 10
               have q11 : w7.cell? ⟨qp,11,none⟩=some (.int .i64 ox.vb):=HP2.out.cell 11
               have q12 : w7.cell? ⟨qp,12,none⟩=some (.slice ox.A ox.l.length ox.c):=HP2.out.cell 12
               have c2 : w7.cell? ⟨w.heap.size,2,none⟩=some (.int .i64 c.st):=HQ2.out.cell 2
               by_cases hge : c.st≤x.1.st+(i : Int)
               · have HF : Hid (fitsP L c=false):=fits_no2 HK.out.nodup HSN.out HMS.out HYS.out (by rw [HOA.out];exact HIN.out) hge
                 have HW7 : Hid (Below w.heap.size w w7):=HW3.out.trans (HC2.out.below HW3.out.size (fun k hk=>by have:=HMI.out;omega))
                 clear q0 q1 q2 q3 q4 q5 q6 q7 q8 q9 q10 q11 q12
                 clear n1
                 go_wp2_with fail
                 go_ret
                 exact ⟨by rw [HF.out];rfl,HW7.out⟩
               · have HGE:=Lib.hid hge
                 have hst:=HO2.out.add (x:=(ox,(x.1.st+(i : Int),x.1.a))) HI64.out HNEW.out HKN.out
                 go_wp2_with (first | (refine wpL_build2 rfl 250 (.tmp 87) (.tmp 88) rfl (.agg #[.int .i64 ox.k,.int .i64 ox.on,.int .i64 ox.oa,.string ox.key,.int .i64 ox.en,.int .i64 ox.ea,.bool ox.ins,.int .i64 ox.vk,.int .i64 ox.vn,.string ox.vt,.int .i64 ox.va,.int .i64 ox.vb,.slice ox.A ox.l.length ox.c]) (.agg #[.int .i64 (x.1.st+(i : Int)),.int .i64 x.1.a]) (.agg #[.int .i64 ox.k,.int .i64 ox.on,.int .i64 ox.oa,.string ox.key,.int .i64 ox.en,.int .i64 ox.ea,.bool ox.ins,.int .i64 ox.vk,.int .i64 ox.vn,.string ox.vt,.int .i64 ox.va,.int .i64 ox.vb,.slice ox.A ox.l.length ox.c,.int .i64 (x.1.st+(i : Int)),.int .i64 x.1.a]) rfl rfl (build_op ox ox.l.length (x.1.st+(i : Int)) x.1.a _) ?_) | (refine wpL_store _ rfl (.tmp 85) (.tmp 86) (.tmp 89) 248 (.inl rfl) mo (.agg #[.int .i64 (x.1.st+(i : Int)),.int .i64 x.1.a]) (.agg #[.int .i64 ox.k,.int .i64 ox.on,.int .i64 ox.oa,.string ox.key,.int .i64 ox.en,.int .i64 ox.ea,.bool ox.ins,.int .i64 ox.vk,.int .i64 ox.vn,.string ox.vt,.int .i64 ox.va,.int .i64 ox.vb,.slice ox.A ox.l.length ox.c,.int .i64 (x.1.st+(i : Int)),.int .i64 x.1.a]) rfl rfl rfl _ hst ?_;rintro w8 ⟨hO8,ht8⟩))
                 have hg8:=ht8.grown
                 have HO8 : Hid (OpsM w8 mo (K++x.1.opsI.take (i+1))):=by show OpsM _ _ _;rw [HTK.out,← List.append_assoc];exact hO8
                 have HI8 : Hid (IterS w8 mk it S todo'):=IterL.keep HI2.out (hg8.block _ (MapL.lt (IterL.map HI2.out)) (fun e=>HMI.out.2.1 (Option.some.inj e))) (hg8.block _ (IterL.lt HI2.out) (fun e=>HMI.out.1 (Option.some.inj e).symm))
                 have HC8:=Lib.hid (HC2.out.grown hg8 (fun q hq=>by cases hq;exact .inl (.inl rfl)))
                 have HBX8:=Lib.hid (HBX2.out.keep (hg8.block _ HBX2.out.lt (fun e=>MapL.no_cells HO2.out _ _ ((Option.some.inj e)▸HBX2.out))))
                 have HZ8 : Hid (∀ z∈x.1.opsI.take (i+1),z.2.1 < c.st):=fun z hz=>by
                  rw [HTK.out] at hz
                  rcases List.mem_append.1 hz with h | h
                  · exact HZ2.out z h
                  · rw [List.mem_singleton.1 h];have:=HGE.out;show x.1.st+(i : Int) < c.st;omega
                 clear q0 q1 q2 q3 q4 q5 q6 q7 q8 q9 q10 q11 q12
                 clear n0 n1 c2 hst hg8 ht8 hO8 HO2 HI2 HC2 HBX2 hge
                 try simp only [Act.put,List.setIfInBounds_toArray,List.set_cons_zero,List.set_cons_succ]
                 go_wp2_with fail
                 go_roundw
                 case rel=>exact ⟨i+1,by go_num,by omega,HI8,HO8,HZ8,HC8,HBX8⟩
                 case measure=>simp [intOf];omega
            · as_aux_lemma =>
               have HTK : Hid (x.1.opsI.take i=opsAt L (ya,yb)):=by show _=_;rw [HOA.out,List.take_of_length_le (by rw [opsI_len,HNX.out];omega)]
               have HO2 : Hid (OpsM wr mo (K++opsAt L (ya,yb))):=by have:=HO.out;rw [HTK.out] at this;exact this
               have HZ3 : Hid (∀ z∈opsAt L (ya,yb),z.2.1 < c.st):=by have:=HZ2.out;rw [HTK.out] at this;exact this
               have HP2 : Hid (((done++[(ya,yb)])++todo').Perm S):=by
                show List.Perm _ _
                rw [List.append_assoc];exact (HTP.out.symm.append_left done).trans HP.out
               have HKE2 : Hid (K++opsAt L (ya,yb)=(done++[(ya,yb)]).flatMap (opsAt L)):=by show _=_;rw [HKE.out];simp
               have HA2 : Hid (∀ r∈done++[(ya,yb)],¬ (r.1=c.a∧c.s≤r.2)):=fun r hr=>by
                rcases List.mem_append.1 hr with h | h
                · exact HA.out r h
                · rw [List.mem_singleton.1 h];exact HNO.out
               have HZ4 : Hid (∀ x∈K++opsAt L (ya,yb),x.2.1 < c.st):=fun z hz=>by
                rcases List.mem_append.1 hz with h | h
                · exact HZ.out z h
                · exact HZ3.out z h
               have HLM : Hid (itLeft wr mk it=todo'.length):=by show _=_;rw [IterL.left HI.out,List.length_map]
               clear HTK HO HZ2 HZ3 HBX
               go_wp2_with fail
               go_roundw
               case rel=>exact ⟨done++[(ya,yb)],todo',K++opsAt L (ya,yb),HP2,HI,HO2,HKE2,HA2,HZ4,HC⟩
               case measure=>show itLeft wr mk it < itLeft _ mk it;rw [HLM.out,HLE.out];omega
end Go.Proofs.YtmpkejflgpodkaaGreatDoor
