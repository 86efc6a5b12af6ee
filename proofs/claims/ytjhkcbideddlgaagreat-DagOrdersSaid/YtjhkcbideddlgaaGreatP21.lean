/- Contracts of the program's books: whether a change fits. -/
import Derived.Test.YtjhkcbideddlgaaGreatP20
import Derived.Test.YtjhkcbideddlgaaGreatP14
set_option maxHeartbeats 16000000
set_option maxRecDepth 20000
set_option linter.unusedVariables false
set_option linter.unusedSimpArgs false
namespace Go.Proofs.YtjhkcbideddlgaaGreat
open Go.ChangeShapes Go.WideShapes Go.ChangeAt Go.RowKit
section
variable{ops:Array Oper}{rest:List Oper}{o:Oper}{a:Act}{Q:Exit→Act→World→Prop}
theorem qI{w:World}(hg:o.guard=none)(t:TypeId)(x y:Operand)(hop:o.op=Op.build t #[(0,x),(1,y)])(vx vy v:Value)(hx:a.eval x=vx)(hy:a.eval y=vy)
 (hrun:(Instr.build t #[(0,vx),(1,vy)]).run Tryz.prog w=.ok v w) (hK:wpList Tryz.prog ops Q rest (a.put o.dst v) w):wpList Tryz.prog ops Q (o::rest) a w:=by
 refine wpList_plain hg fun K' hK'=>?_
 unfold Oper.wp;simp[execOp,hop,hx,hy,hrun,Result.andThen];exact hK' _ _ hK
end
theorem build_op(ox:OpD)(n:Nat)(a b:Int)(w:World):(Instr.build 143 #[(0,.agg #[.int .i64 ox.k,.int .i64 ox.on,.int .i64 ox.oa,.string ox.key,.int .i64 ox.en,.int .i64 ox.ea,.bool ox.ins,.int .i64 ox.vk,.int .i64 ox.vn,.string ox.vt,.int .i64 ox.va,.int .i64 ox.vb,.slice ox.A n ox.c]),(1,.agg #[.int .i64 a,.int .i64 b])]).run Tryz.prog w=.ok (.agg #[.int .i64 ox.k,.int .i64 ox.on,.int .i64 ox.oa,.string ox.key,.int .i64 ox.en,.int .i64 ox.ea,.bool ox.ins,.int .i64 ox.vk,.int .i64 ox.vn,.string ox.vt,.int .i64 ox.va,.int .i64 ox.vb,.slice ox.A n ox.c,.int .i64 a,.int .i64 b]) w:=by kernel_rfl
theorem fU.add{w:World}{b:Nat}{K:List OpI}(h:fU w b K){x:OpI}(hr:eL x.2)(hn:∀y∈K,y.2≠x.2)(hl:K.length<maxLen):
 ∃w',(Instr.mapUpdate 141 (.map (some b)) (dB x.2) (iH x)).run Tryz.prog w=.ok () w'∧fU w' b (K++[x])∧w.mapTurned w' b:=by
 obtain⟨kl,hk⟩:=keyOf_id hr
 obtain⟨w',h1,h2,h3⟩:=aJ.store (v:=iH x) h rR Tryz.underlying141 (by rw[tF];exact hl) hk (fun p hp e=>by
  obtain⟨q,hq,rfl⟩:=sW.1 hp
  exact hn q hq (gP e))
 exact⟨w',h1,by unfold fU;rw[tN];exact h2,h3⟩
theorem fU.keep{w w':World}{b:Nat}{K:List OpI}(h:fU w b K)(hk:w'.heap[b]?=w.heap[b]?):fU w' b K:=aJ.keep h hk
theorem fU.made(w:World):fU (w.alloc (.map #[] 0)) w.heap.size []:=aJ.made w _
theorem fits_any(X:List (ChD×Nat×List Rf))(W:List ChD)(c:ChD)(g bh bw bb:Nat)(w:World)(hB:PB w g bh bw bb X W)(hk:Bk (X.map Prod.fst))(hl:X.length≤1000)(hc:ChIn (fun k=>k<w.heap.size) w c)(he:c.err=0)
 (hr:aU (X.map Prod.fst) c=true) :
 Calls Tryz.prog 42 #[.pointer (some ⟨g,0,none⟩),c.v] w fun e w'=>e=.returned (.bool (bR (X.map Prod.fst) c))∧Below w.heap.size w w':=by
 obtain⟨hst1,hst2,hop,hdp⟩:=eE he
 obtain⟨L,hL⟩:∃L,X.map Prod.fst=L:=⟨_,rfl⟩
 have HLL:Hid (L.length≤1000):=by show _≤_;rw[←hL,tF];exact hl
 obtain⟨nd,hnd⟩:∃n,c.deps.length=n:=⟨_,rfl⟩
 have HND:=Hi hnd;have HB:=Hi hB;have HCI:=Hi hc;have HE:=Hi he;have HRY:Hid (∀d∈c.deps,∃x,x∈X∧x.1.rf=d):=fun d hd=>mB (eZ hr d hd)
 have HLX:=Hi hL;have HK:=Hi hk;rw[hL]at hk ⊢;have HW:Hid (Below w.heap.size w (w.alloc (.cells #[.int .i64 c.a,.int .i64 c.s,.int .i64 c.st,.slice c.DA c.deps.length c.DC,.slice c.OA c.ops.length c.OC] 33))):=(sA _ w).alloc (sB _) _;have HQ:=Hi (Blk.new w 33 #[.int .i64 c.a,.int .i64 c.s,.int .i64 c.st,.slice c.DA c.deps.length c.DC,.slice c.OA c.ops.length c.OC]);clear hB hc he hr hk hL;unfold ChD.v;rw[hnd]at HW HQ hdp ⊢;clear hnd;have hmm:∀(t:TypeId) (w:World),(Instr.makeMap t none).run Tryz.prog w=.ok (.map (some w.heap.size)) (w.alloc (.map #[] 0)):=fun _ _=>rfl
 go_enter Tryz.func42,Tryz.ntmps42;have hVs:(w.alloc (.cells #[.int .i64 c.a,.int .i64 c.s,.int .i64 c.st,.slice c.DA nd c.DC,.slice c.OA c.ops.length c.OC] 33)).heap.size=w.heap.size+1:=by simp
 go_wp2_with fail
 generalize w.alloc (.cells #[.int .i64 c.a,.int .i64 c.s,.int .i64 c.st,.slice c.DA nd c.DC,.slice c.OA c.ops.length c.OC] 33)=V at *;have hwV:w.heap.size<V.heap.size:=HQ.o.lt;have HS0:=Hi (fD.made V);have HQ1:=Hi (HQ.o.keep (sM V (.map #[] 0) _ HQ.o.lt));have HW1:Hid (Below w.heap.size w (V.alloc (.map #[] 0))):=HW.o.alloc HW.o.size _;have HU:=Hi (UB.of (HB.o.below HW.o) ((Chg.refl V).alloc (.map #[] 0)) (sB _));go_upto_region 2 with fail
 clear HQ HW;rw[hVs]at HS0 HU hwV;clear hVs;generalize w.heap.size+1=mk at HS0 HU hwV ⊢;generalize V.alloc (.map #[] 0)=V0 at HS0 HQ1 HW1 HU ⊢;have HMW:=Hi hwV;have HRD:Hid (aC (fun j=>j<V0.heap.size∧¬j=mk) V0 2 c.DA c.deps.length (aF c.deps)) :=
  (HCI.o.hd.keep (fun k hk=>HW1.o.block k hk)).more fun k hk=>⟨sD hk HW1.o.size,fun e=>by omega⟩
 rw[HND.o]at HRD;have HM0:Hid (∀r,r∈([]:List Rf)↔r∈([]:List Rf)∨r∈aP L (c.deps.take 0)):=fun r=>by
  rw[tO];unfold aP;rw[oA];simp
 have c3:=cZ HQ1.o 3 rfl;go_upto_region 3 with fail
 clear c3;go_loopw [7,8,22] (fun _ _ s wr=>∃(k:Nat) (S:List Rf),s=.int .i64 k∧k≤nd∧Hid (fD wr mk S)∧Hid (∀r,r∈S↔r∈([]:List Rf)∨r∈aP L (c.deps.take k))∧Hid (Chg (fun j=>j=mk) V0 wr)) (fun _ _ s _=>nd-(intOf s).toNat)
 case atStart=>exact⟨0,_,rfl,by omega,HS0,HM0,Hi (Chg.refl _)⟩
 case round =>
  clear HS0 HM0;obtain⟨k,S,rfl,hk,HS,HM,HC⟩:=hrel
  by_cases hlt:k<nd
  ·obtain⟨d,hd⟩:∃d,c.deps[k]?=some d:=⟨_,sC (by rw[HND.o];exact hlt)⟩
   have HDM:Hid (∀r,r∈aP L (c.deps.take (k+1))↔r∈aP L (c.deps.take k)∨r∈aP L [d]):=fun r=>pX hd r
   obtain⟨x,hx,hxr⟩:=HRY.o d (sJ hd)
   have HX:=Hi hx;have HLT:=Hi hlt;have HXR:=Hi hxr;obtain⟨bd,od,hA,hbl,hcd⟩:=(HRD.o.keep (HC.o.keeps fun j hj=>hj)).at_ (by omega) (by omega)
   have p1:wr.cell? ⟨bd,od+k*2,none⟩=some (.int .i64 d.1):=hcd _ _ (aN hd).1;have p2:wr.cell? ⟨bd,od+k*2+1,none⟩=some (.int .i64 d.2):=hcd _ _ (aN hd).2;have hbl2:bd<wr.heap.size:=sD hbl.1 HC.o.size;have HSX:=Hi (HU.o.sets x hx);rw[hA];clear hcd hd hx hxr hbl;have HUa:=Hi ((HU.o.chg HC.o).chg ((Chg.refl wr).alloc (.cells #[.int .i64 d.1,.int .i64 d.2] 45)));have HQa:=Hi (Blk.new wr 45 #[.int .i64 d.1,.int .i64 d.2]);have HSa:=Hi (HS.o.keep (w':=wr.alloc (.cells #[.int .i64 d.1,.int .i64 d.2] 45)) (sM _ _ _ (aJ.lt HS.o)));have HCa:=Hi (HC.o.alloc (.cells #[.int .i64 d.1,.int .i64 d.2] 45));clear HS HC;go_upto_region 5 with fail
   generalize wr.alloc (.cells #[.int .i64 d.1,.int .i64 d.2] 45)=wa at HUa HQa HSa HCa ⊢;generalize wr.heap.size=qa at HQa ⊢;clear p1 p2;have g2:=cZ HUa.o.blk 2 rfl;obtain⟨d1,d2⟩:=ce2 HQa.o
   have hlk:=(HUa.o.chg (Chg.refl wa).drew).look HX.o d.1 d.2 HXR.o;refine wp_region_still_tail 6 (by kernel_rfl) (by kernel_rfl) ?_;simp only[tE,tO,tG,tT];repeat (first|(refine aQ rfl (fun K hK=>?_);go_simp;refine hK _ ?_;clear hK K)|(refine wpStill_skip rfl ?_;go_frame))
   refine wpStill_nil ?_;change wpList _ _ _ _ _ wa.drew;have HSb:Hid (fD wa.drew mk S):=HSa;have HCb:Hid (Chg (fun j=>j=mk) V0 wa.drew):=HCa.o.drew;have HXb:Hid (fD wa.drew x.2.1 x.2.2):=((HUa.o.sets x HX.o).1.keep rfl);clear g2 d1 d2 hlk HUa HQa HSa HCa;generalize wa.drew=wb at HSb HCb HXb ⊢;go_wp2_with (refine lE _ rfl (.tmp 31) 102 rfl 45 4 Tryz.underlying102 x.2.1 _ rfl HXb.o ?_;intro w1 hI1 hb1 hs1)
   have HI1:Hid (fK w1 x.2.1 wb.heap.size x.2.2 x.2.2):=hI1;have HS1:=Hi (HSb.o.keep (hb1.block _ (aJ.lt HSb.o)));have HC1:Hid (Chg (fun j=>j=mk) V0 w1):=HCb.o.trans (Chg.of_below hb1) fun _ _ h=>h
   have HIT:Hid (V0.heap.size≤wb.heap.size∧mk<wb.heap.size):=⟨HCb.o.size,aJ.lt HSb.o⟩;clear hI1 hb1 hs1 HSb HCb HXb;generalize wb.heap.size=it at HI1 HIT ⊢;try simp only[Act.put,zA,zB,zC]
   go_loopw [8] (fun _ wr=>∃S1 todo:List Rf,Hid (fD wr mk S1)∧Hid (fK wr x.2.1 it x.2.2 todo)∧Hid (∀r,(r∈S1∨r∈todo)↔(r∈S∨r∈x.2.2))∧Hid (Chg (fun j=>j=mk) V0 wr)) (fun _ wr=>eT wr x.2.1 it)
   case atStart=>exact⟨S,x.2.2,HS1,HI1,Hi fun r=>Iff.rfl,HC1⟩
   case round =>
    clear HS1 HI1 HC1;obtain⟨S1,todo,HS1,HI,HE,HC⟩:=hrel
    go_wp2_with (refine qH _ rfl (.tmp 32) rfl x.2.1 it x.2.2 todo rfl HI.o ?_ ?_)
    ·intro ht;subst ht;have HM2:Hid (∀r,r∈S1↔r∈([]:List Rf)∨r∈aP L (c.deps.take (k+1))):=fun r=>by
      have e:=HE.o r;simp only[uB,or_false]at e;rw[e,HM.o r,HDM.o r,HSX.o.2.2 r,HXR.o,or_assoc];first|rfl|(rw[HLX.o])
     clear HI HE HM HDM;go_wp2_with fail
     go_roundw
     case rel=>exact⟨k+1,S1,by go_num,by have:=HLT.o;omega,HS1,HM2,HC⟩
     case measure=>have:=HLT.o;simp[intOf];omega
    ·intro ya yb todo' w2 hp hI2 hg2 hs2 hen;have HEY:Hid (∀r,r∈todo↔r=(ya,yb)∨r∈todo'):=fun r=>by rw[hp.mem_iff,sO]
     have HYS:Hid ((ya,yb)∈x.2.2):=HI.o.sub (ya,yb) (hp.mem_iff.2 (tM ..));have HLE:Hid (eT wr x.2.1 it=todo'.length+1):=by show _=_;rw[bC.left HI.o,tF,hp.length_eq];rfl
     have HLM:=Hi (aJ.lt HS1.o);have HIL:=Hi (bC.lt HI.o);have HIN:Hid (it≠mk):=fun e=>by have:=HIT.o.2;omega
     have HS2:=Hi (HS1.o.keep (hg2.block _ HLM.o (fun e=>HIN.o (tK e).symm)));have HC2:=Hi (HC.o.grown hg2 (fun q hq=>by cases hq;exact .inr HIT.o.1));have HI2:=Hi hI2;have hmk2:mk<w2.heap.size:=aJ.lt HS2.o;have hit2:it<w2.heap.size:=bC.lt hI2;have hxb2:x.2.1<w2.heap.size:=aJ.lt (bC.map hI2);clear hp hI2 hg2 hs2 HI HS1 HC;have HS3:=Hi (HS2.o.keep (w':=w2.alloc (.cells #[.int .i64 ya,.int .i64 yb] 45)) (sM _ _ _ hmk2));have HI3:Hid (fK (w2.alloc (.cells #[.int .i64 ya,.int .i64 yb] 45)) x.2.1 it x.2.2 todo'):=bC.keep HI2.o (sM _ _ _ hxb2) (sM _ _ _ hit2);have HC3:=Hi (HC2.o.alloc (.cells #[.int .i64 ya,.int .i64 yb] 45));have HQy:=Hi (Blk.new w2 45 #[.int .i64 ya,.int .i64 yb]);have hst:=HS3.o.add (r:=(ya,yb)) (bk_i64 HK.o (bL ((HSX.o.2.2 (ya,yb)).1 HYS.o))) (set_less ([]:List Rf) HS3.o.nodup HLL.o (fun r hr=>by
      rcases(HE.o r).1 (.inl hr) with h|h
      ·rcases(HM.o r).1 h with h|h
       ·exact .inl h
       ·exact .inr (bL h)
      ·have:=bL ((HSX.o.2.2 r).1 h);exact .inr (by rw[HLX.o]at this;exact this)) (by simp))
     go_upto_region 8 with fail
     generalize w2.alloc (.cells #[.int .i64 ya,.int .i64 yb] 45)=w3 at HS3 HI3 HC3 HQy hst ⊢;generalize w2.heap.size=qy at HQy ⊢;obtain⟨y1,y2⟩:=ce2 HQy.o
     clear HQy HS2 HC2 HI2 hen hmk2 hit2 hxb2;go_wp2_with (refine eX _ rfl (.tmp 37) (.tmp 38) (.const (.bool true)) 102 (.inl rfl) mk (.agg #[.int .i64 ya,.int .i64 yb]) (.bool true) rfl rfl rfl _ hst ?_;rintro w4 ⟨⟨S2,hs4,hm4,-⟩,ht4⟩)
     have hg4:=ht4.grown;have HS4:=Hi hs4;have HXM:Hid (x.2.1≠mk):=HSX.o.2.1;have HI4:Hid (fK w4 x.2.1 it x.2.2 todo'):=bC.keep HI3.o (hg4.block _ (aJ.lt (bC.map HI3.o)) (fun e=>HXM.o (tK e))) (hg4.block _ (bC.lt HI3.o) (fun e=>HIN.o (tK e)));have HC4:=Hi (HC3.o.grown hg4 (fun q hq=>by cases hq;exact .inl rfl));have HE4:Hid (∀r,(r∈S2∨r∈todo')↔(r∈S∨r∈x.2.2)):=fun r=>by
      rw[←HE.o r,HEY.o r,hm4 r,or_assoc]
     have HL4:Hid (eT w4 x.2.1 it=todo'.length):=by show _=_;rw[bC.left HI4.o,tF]
     clear hs4 hm4 ht4 hg4 hst y1 y2 HS3 HI3 HC3 HE HEY;try simp only[Act.put,zA,zB,zC]
     go_wp2_with fail
     go_roundw
     case rel=>exact⟨S2,todo',HS4,HI4,HE4,HC4⟩
     case measure=>show eT w4 x.2.1 it<eT _ x.2.1 it;rw[HL4.o,HLE.o];omega
  ·have HMD:Hid (∀r,r∈S↔r∈([]:List Rf)∨r∈aP L c.deps):=fun r=>by
    rw[HM.o r,sL (by rw[HND.o];omega)]
   clear HM;have HMS:Hid (∀r,r∈S↔r∈aP L c.deps):=fun r=>by rw[HMD.o r];simp
   have HSN:Hid S.Nodup:=HS.o.nodup;have HW2:Hid (Below w.heap.size w wr):=HW1.o.trans (HC.o.below HW1.o.size (fun k hk=>by have:=HMW.o;omega));have HQ2:=Hi (HQ1.o.keep (HC.o.block _ HQ1.o.lt (by have:=HMW.o;omega)));have HS1:=Hi (HS.o.keep (sM wr (.map #[] 0) _ (aJ.lt HS.o)));have HO1:=Hi (fU.made wr);have HMR:=Hi (aJ.lt HS.o);have HQR:=Hi HQ2.o.lt;have hs1:(wr.alloc (.map #[] 0)).heap.size=wr.heap.size+1:=by simp
   clear HS HC HMD HQ1 HW1 HU HRD;go_wp2_with (refine lE _ rfl (.tmp 41) 102 rfl 45 4 Tryz.underlying102 mk _ rfl HS1.o ?_;intro w2 hI hb hs;rw[hs1]at hI ⊢)
   have HI:Hid (fK w2 mk (wr.heap.size+1) S S):=hI;have HO:Hid (fU w2 wr.heap.size []):=HO1.o.keep (hb.block _ (by rw[hs1];omega));have hb2:Below wr.heap.size wr w2:=((sA _ wr).alloc (sB _) (.map #[] 0)).trans (hb.mono (by rw[hs1];omega));have HW3:Hid (Below w.heap.size w w2):=HW2.o.trans (hb2.mono HW2.o.size);have HQ3:=Hi (HQ2.o.keep (hb2.block _ HQR.o));have HN:Hid (w.heap.size<wr.heap.size∧mk<wr.heap.size):=⟨HQR.o,HMR.o⟩;clear hI hb hs hb2 hs1 HS1 HO1 HW2 HQ2 HMR HQR;generalize hit:wr.heap.size+1=it at HI ⊢;generalize wr.heap.size=mo at HO HN hit ⊢;have HIT:=Hi hit;clear hit hmm;try simp only[Act.put,zA,zB,zC]
   go_loopw [10,11,12,13,14] (fun _ _ _ _ _ wr=>∃(done todo:List Rf) (K:List OpI),Hid ((done++todo).Perm S)∧Hid (fK wr mk it S todo)∧Hid (fU wr mo K)∧Hid (K=done.flatMap (dO L))∧Hid (∀r∈done,¬(r.1=c.a∧c.s≤r.2))∧Hid (∀x∈K,x.2.1<c.st)∧Hid (Chg (fun j=>j=mo∨j=it) w2 wr)) (fun _ _ _ _ _ wr=>eT wr mk it)
   case atStart=>exact⟨[],S,[],Hi (vF _),HI,HO,Hi rfl,(by intro r hr;cases hr),(by intro r hr;cases hr),Hi (Chg.refl _)⟩
   case round =>
    clear HI HO;obtain⟨done,todo,K,HP,HI,HO,HKE,HA,HZ,HC⟩:=hrel
    go_wp2_with (refine qH _ rfl (.tmp 42) rfl mk it S todo rfl HI.o ?_ ?_)
    ·intro ht;subst ht
     as_aux_lemma =>
      have HK:Hid (Bk L):=HLX.o▸HK.o;have HPS:Hid (done.Perm S):=by have:=HP.o;rw[uW]at this;exact this
      have HSM:Hid (fD wr mk S):=bC.map HI.o;have HSUB:Hid (∀r∈S,r∈aB L):=fun r hr=>bL ((HMS.o r).1 hr)
      have HKP:Hid (K.Perm (S.flatMap (dO L))):=by show List.Perm _ _;rw[HKE.o];exact HPS.o.flatMap_right _
      have HFY:Hid (bR L c=(!(decide (1<c.s)&&!decide ((c.a,c.s-1)∈S))&&dD c.opsI K)):=fits_yes HK.o HSN.o HMS.o HKP.o (fun r hr=>HA.o r (HPS.o.mem_iff.2 hr)) HZ.o;have HWr:Hid (Below w.heap.size w wr):=HW3.o.trans (HC.o.below HW3.o.size (fun k hk=>by have:=HN.o;have:=HIT.o;omega));have HQr:=Hi (HQ3.o.keep (HC.o.block _ HQ3.o.lt (by have:=HN.o;have:=HIT.o;omega)));have hrf:=eU (iX HE.o).1;have hca:1≤c.a∧c.a≤99:=hrf.1;have hcs:1≤c.s∧c.s≤1000000:=hrf.2;clear hrf;have hws:IntKind.i64.wrap (c.s-1)=c.s-1:=tH _ (by omega);have hlk:=HSM.o.look (r:=(c.a,c.s-1)) ⟨by show _≤c.a∧c.a≤_;omega,by show _≤c.s-1∧c.s-1≤_;omega⟩;unfold dB at hlk;have HIDS:Hid (((K++c.opsI).map Prod.snd).Nodup):=ids_nodup HK.o HSN.o HSUB.o HKP.o HZ.o;have HKN:Hid (K.length≤40000):=by
       have h1:=rP HK.o HLL.o HSN.o HSUB.o HP.o;rw[←HKE.o]at h1;exact h1
      have HKI:Hid (∀y∈K,1≤y.1.k∧(y.1.k=2→y.1.vk=5∨y.1.vk=6)):=fun y hy=>by
       rw[HKE.o]at hy;obtain⟨r,hr,hy⟩:=vG.1 hy
       exact at_kinds HK.o hy
      obtain⟨bm,hbm⟩:∃bm,decide ((c.a,c.s-1)∈S)=bm:=⟨_,rfl⟩
      rw[hbm]at hlk HFY;clear hbm HPS HSM HKP HA HZ HKE HP;obtain⟨c0,c1⟩:=ce2 HQr.o
      go_upto_region 25 with fail
      go_cut [104] (fun s104 wc=>s104=.bool (decide (1<c.s)&&!bm)∧wc=wr)
      case first =>
       by_cases h1:1<c.s
       ·have HD1:Hid (decide (1<c.s)=true):=sH h1;cases bm;all_goals
         go_wp2_with fail
         go_meet
         case rel=>exact⟨by rw[HD1.o];rfl,rfl⟩
       ·have HD1:Hid (decide (1<c.s)=false):=sI h1;go_wp2_with fail
        go_meet
        case rel=>exact⟨by rw[HD1.o];rfl,rfl⟩
      case rest =>
       obtain⟨rfl,rfl⟩:=hcut
       clear hlk c0 c1;cases hno:(decide (1<c.s)&&!bm) with
       |true =>
        have HF:Hid (bR L c=false):=by show _=_;rw[HFY.o,hno];rfl
        clear hno;go_wp2_with fail
        go_ret;exact⟨by rw[HF.o];rfl,HWr.o⟩
       |false =>
        have HFO:Hid (bR L c=dD c.opsI K):=by show _=_;rw[HFY.o,hno];rfl
        clear hno HFY;obtain⟨nops,hnp⟩:∃n,c.ops.length=n:=⟨_,rfl⟩
        have HNP:=Hi hnp;rw[hnp]at hop;have c4:wc.cell? ⟨w.heap.size,4,none⟩=some (.slice c.OA nops c.OC):=by rw[←hnp];exact HQr.o.cell 4
        clear hnp;go_upto_region 28 with fail
        clear c4;go_loopw [15,16,17,108] (fun _ _ _ s wr=>∃i:Nat,s=.int .i64 i∧i≤nops∧Hid (fU wr mo (K++c.opsI.take i))∧Hid (dD c.opsI K=dD (c.opsI.drop i) (K++c.opsI.take i))∧Hid (Chg (fun j=>j=mo∨j=it) w2 wr)) (fun _ _ _ s _=>nops-(intOf s).toNat)
        case atStart=>exact⟨0,rfl,by omega,by show fU _ _ _;simpa using HO.o,by show _=_;simp,HC⟩
        case round =>
         clear HO HC HWr HQr HI;obtain⟨i,rfl,hi,HO,HFI,HC⟩:=hrel
         have HWr:Hid (Below w.heap.size w wr):=HW3.o.trans (HC.o.below HW3.o.size (fun k hk=>by have:=HN.o;have:=HIT.o;omega));by_cases hil:i<nops
         ·obtain⟨ox,hox⟩:∃ox,c.ops[i]?=some ox:=⟨_,sC (by rw[HNP.o];exact hil)⟩
          have HQr:=Hi (HQ3.o.keep (HC.o.block _ HQ3.o.lt (by have:=HN.o;have:=HIT.o;omega)));have hxi:=HCI.o.keep (fun k hk=>HWr.o.block k hk);obtain⟨b3,o3,hA3,hl3',hc3⟩:=hxi.ho.at_ (by rw[HNP.o];omega) (by omega)
          have hl3:b3<wr.heap.size:=sD hl3' HWr.o.size;have key:∀i' v,i'<13→(opC ox)[i']?=some v→wr.cell? ⟨b3,o3+i*13+i',none⟩=some v:=fun i' v h1 h2=>by
           have h3:=bM hox i' h1;rw[h2]at h3;have:=hc3 _ _ h3
           rw[←tY]at this;exact this
          have q0:wr.cell? ⟨b3,o3+i*13,none⟩=some (.int .i64 ox.k):=key 0 _ (by omega) rfl;have q1:wr.cell? ⟨b3,o3+i*13+1,none⟩=some (.int .i64 ox.on):=key 1 _ (by omega) rfl;have q2:wr.cell? ⟨b3,o3+i*13+2,none⟩=some (.int .i64 ox.oa):=key 2 _ (by omega) rfl;have q3:wr.cell? ⟨b3,o3+i*13+3,none⟩=some (.string ox.key):=key 3 _ (by omega) rfl;have q4:wr.cell? ⟨b3,o3+i*13+4,none⟩=some (.int .i64 ox.en):=key 4 _ (by omega) rfl;have q5:wr.cell? ⟨b3,o3+i*13+5,none⟩=some (.int .i64 ox.ea):=key 5 _ (by omega) rfl;have q6:wr.cell? ⟨b3,o3+i*13+6,none⟩=some (.bool ox.ins):=key 6 _ (by omega) rfl;have q7:wr.cell? ⟨b3,o3+i*13+7,none⟩=some (.int .i64 ox.vk):=key 7 _ (by omega) rfl;have q8:wr.cell? ⟨b3,o3+i*13+8,none⟩=some (.int .i64 ox.vn):=key 8 _ (by omega) rfl;have q9:wr.cell? ⟨b3,o3+i*13+9,none⟩=some (.string ox.vt):=key 9 _ (by omega) rfl;have q10:wr.cell? ⟨b3,o3+i*13+10,none⟩=some (.int .i64 ox.va):=key 10 _ (by omega) rfl;have q11:wr.cell? ⟨b3,o3+i*13+11,none⟩=some (.int .i64 ox.vb):=key 11 _ (by omega) rfl;have q12:wr.cell? ⟨b3,o3+i*13+12,none⟩=some (.slice ox.A ox.l.length ox.c):=key 12 _ (by omega) rfl;have hws2:IntKind.i64.wrap (c.st+(i:Int))=c.st+(i:Int):=tH _ (by omega);have hoi:c.opsI[i]?=some (ox,(c.st+(i:Int),c.a)):=gL _ _ _ _ _ hox;have HTK:Hid (c.opsI.take (i+1)=c.opsI.take i++[(ox,(c.st+(i:Int),c.a))]):=by show _=_;rw[sQ,hoi];rfl
          have HFA:=Hi (fitOps_at (K:=K) hoi);have HOXM:=Hi (sJ hox);have HI64:Hid (eL (c.st+(i:Int),c.a)):=⟨by show _≤c.st+(i:Int)∧c.st+(i:Int)≤_;omega,by show _≤c.a∧c.a≤_;omega⟩;have HNEW:Hid (∀y∈K++c.opsI.take i,y.2≠(c.st+(i:Int),c.a)):=next_new (B:=[]) (by rw[uW];exact HIDS.o) hoi;have HKM:Hid ((K++c.opsI.take i).length<maxLen):=by
           have h1:=HKN.o;show _<_;rw[sF,tD];simp only[maxLen];omega
          have HKK:Hid (∀y∈K++c.opsI.take i,1≤y.1.k∧(y.1.k=2→y.1.vk=5∨y.1.vk=6)):=fun y hy=>by
           rcases sG.1 hy with h|h
           ·exact HKI.o y h
           ·exact own_kinds HE.o (uY h)
          have HOX:=Hi hA3;rw[hA3]at HQr ⊢;clear hA3 key hc3 hxi hox hoi hl3';go_upto_region 30 with fail
          have hb9:Below wr.heap.size wr (wr.alloc (.cells #[.int .i64 ox.k,.int .i64 ox.on,.int .i64 ox.oa,.string ox.key,.int .i64 ox.en,.int .i64 ox.ea,.bool ox.ins,.int .i64 ox.vk,.int .i64 ox.vn,.string ox.vt,.int .i64 ox.va,.int .i64 ox.vb,.slice ox.A ox.l.length ox.c] 53)):=(sA wr.heap.size wr).alloc (sB _) _;have HP1:=Hi (Blk.new wr 53 #[.int .i64 ox.k,.int .i64 ox.on,.int .i64 ox.oa,.string ox.key,.int .i64 ox.en,.int .i64 ox.ea,.bool ox.ins,.int .i64 ox.vk,.int .i64 ox.vn,.string ox.vt,.int .i64 ox.va,.int .i64 ox.vb,.slice ox.A ox.l.length ox.c]);have HQ1:=Hi (HQr.o.keep (hb9.block _ HQr.o.lt));have HO1:=Hi (HO.o.keep (hb9.block _ (aJ.lt HO.o)));have HC1:=Hi (HC.o.alloc (.cells #[.int .i64 ox.k,.int .i64 ox.on,.int .i64 ox.oa,.string ox.key,.int .i64 ox.en,.int .i64 ox.ea,.bool ox.ins,.int .i64 ox.vk,.int .i64 ox.vn,.string ox.vt,.int .i64 ox.va,.int .i64 ox.vb,.slice ox.A ox.l.length ox.c] 53));clear HQr HO HC hb9 HWr hl3;clear q0 q1 q2 q3 q4 q5 q6 q7 q8 q9 q10 q11 q12;generalize wr.alloc (.cells #[.int .i64 ox.k,.int .i64 ox.on,.int .i64 ox.oa,.string ox.key,.int .i64 ox.en,.int .i64 ox.ea,.bool ox.ins,.int .i64 ox.vk,.int .i64 ox.vn,.string ox.vt,.int .i64 ox.va,.int .i64 ox.vb,.slice ox.A ox.l.length ox.c] 53)=w6 at HP1 HQ1 HO1 HC1 ⊢;generalize wr.heap.size=qp at HP1 ⊢;obtain⟨q0,q1,q2,q3,q4,q5,q6,q7,q8,q9,q10,q11,q12⟩:=ce13 HP1.o
          have c0:=cZ HQ1.o 0 rfl;have c2:=cZ HQ1.o 2 rfl;go_upto_region 31 with(refine qI rfl 143 (.tmp 113) (.tmp 120) rfl (.agg #[.int .i64 ox.k,.int .i64 ox.on,.int .i64 ox.oa,.string ox.key,.int .i64 ox.en,.int .i64 ox.ea,.bool ox.ins,.int .i64 ox.vk,.int .i64 ox.vn,.string ox.vt,.int .i64 ox.va,.int .i64 ox.vb,.slice ox.A ox.l.length ox.c]) (.agg #[.int .i64 (c.st+(i:Int)),.int .i64 c.a]) (.agg #[.int .i64 ox.k,.int .i64 ox.on,.int .i64 ox.oa,.string ox.key,.int .i64 ox.en,.int .i64 ox.ea,.bool ox.ins,.int .i64 ox.vk,.int .i64 ox.vn,.string ox.vt,.int .i64 ox.va,.int .i64 ox.vb,.slice ox.A ox.l.length ox.c,.int .i64 (c.st+(i:Int)),.int .i64 c.a]) rfl rfl (build_op ox ox.l.length (c.st+(i:Int)) c.a _) ?_)
          clear q0 q1 q2 q3 q4 q5 q6 q7 q8 q9 q10 q11 q12;clear c0 c2;have hb9:Below w6.heap.size w6 (w6.alloc (.cells #[.int .i64 ox.k,.int .i64 ox.on,.int .i64 ox.oa,.string ox.key,.int .i64 ox.en,.int .i64 ox.ea,.bool ox.ins,.int .i64 ox.vk,.int .i64 ox.vn,.string ox.vt,.int .i64 ox.va,.int .i64 ox.vb,.slice ox.A ox.l.length ox.c,.int .i64 (c.st+(i:Int)),.int .i64 c.a] 143)):=(sA w6.heap.size w6).alloc (sB _) _;have HY:=Hi (Blk.new w6 143 #[.int .i64 ox.k,.int .i64 ox.on,.int .i64 ox.oa,.string ox.key,.int .i64 ox.en,.int .i64 ox.ea,.bool ox.ins,.int .i64 ox.vk,.int .i64 ox.vn,.string ox.vt,.int .i64 ox.va,.int .i64 ox.vb,.slice ox.A ox.l.length ox.c,.int .i64 (c.st+(i:Int)),.int .i64 c.a]);have HO2:=Hi (HO1.o.keep (hb9.block _ (aJ.lt HO1.o)));have HC2:=Hi (HC1.o.alloc (.cells #[.int .i64 ox.k,.int .i64 ox.on,.int .i64 ox.oa,.string ox.key,.int .i64 ox.en,.int .i64 ox.ea,.bool ox.ins,.int .i64 ox.vk,.int .i64 ox.vn,.string ox.vt,.int .i64 ox.va,.int .i64 ox.vb,.slice ox.A ox.l.length ox.c,.int .i64 (c.st+(i:Int)),.int .i64 c.a] 143));clear HP1 HQ1 HO1 HC1 hb9;generalize w6.alloc (.cells #[.int .i64 ox.k,.int .i64 ox.on,.int .i64 ox.oa,.string ox.key,.int .i64 ox.en,.int .i64 ox.ea,.bool ox.ins,.int .i64 ox.vk,.int .i64 ox.vn,.string ox.vt,.int .i64 ox.va,.int .i64 ox.vb,.slice ox.A ox.l.length ox.c,.int .i64 (c.st+(i:Int)),.int .i64 c.a] 143)=w7 at HY HO2 HC2 ⊢;generalize w6.heap.size=qz at HY ⊢;have HW7:Hid (Below w.heap.size w w7):=HW3.o.trans (HC2.o.below HW3.o.size (fun k hk=>by have:=HN.o;have:=HIT.o;omega));obtain⟨z0,z1,z2,z3,z4,z5,z6,z7,z8,z9,z10,z11,z12,z13,z14⟩:=ce15 HY.o
          have hids:=opE_ids (nV HE.o ox HOXM.o);have C3:=opfits_any (ox,(c.st+(i:Int),c.a)) (K++c.opsI.take i) mo w7 HO2.o (aA (HCI.o.hp ox HOXM.o).1 HW7.o) (by have:=err_ll HE.o ox HOXM.o;show ox.l.length≤_;omega) hids.1 hids.2.1 hids.2.2 HKK.o;unfold iH at C3;clear hids;go_wp2_with fail
          go_at_call 91;refine C3.mono ?_;rintro e w8 ⟨rfl,hb⟩;clear z0 z1 z2 z3 z4 z5 z6 z7 z8 z9 z10 z11 z12 z13 z14;have HO3:=Hi (HO2.o.keep (hb.block _ (aJ.lt HO2.o)));have HY3:=Hi (HY.o.keep (hb.block _ HY.o.lt));have HC3:=Hi (HC2.o.trans (Chg.of_below hb) (fun _ _ h=>h));have HW8:Hid (Below w.heap.size w w8):=HW7.o.trans (hb.mono HW7.o.size);clear C3 HO2 HY HC2 HW7 hb;cases hmy:cY (ox,(c.st+(i:Int),c.a)) (K++c.opsI.take i) with
          |false =>
           have HF:Hid (bR L c=false):=by
            show _=_;rw[HFO.o,HFI.o,HFA.o,hmy];rfl
           clear hmy;go_wp2_with fail
           go_ret;exact⟨by rw[HF.o];rfl,HW8.o⟩
          |true =>
           have HFI2:=HFA.o;rw[hmy,vL]at HFI2;have HFI3:Hid (dD c.opsI K=dD (c.opsI.drop (i+1)) (K++c.opsI.take (i+1))):=HFI.o.trans HFI2;clear hmy HFI2;obtain⟨z0,z1,z2,z3,z4,z5,z6,z7,z8,z9,z10,z11,z12,z13,z14⟩:=ce15 HY3.o
           have hst:=HO3.o.add (x:=(ox,(c.st+(i:Int),c.a))) HI64.o HNEW.o HKM.o;go_wp2_with (refine eX _ rfl (.tmp 126) (.tmp 128) (.tmp 129) 141 (.inl rfl) mo (.agg #[.int .i64 (c.st+(i:Int)),.int .i64 c.a]) (.agg #[.int .i64 ox.k,.int .i64 ox.on,.int .i64 ox.oa,.string ox.key,.int .i64 ox.en,.int .i64 ox.ea,.bool ox.ins,.int .i64 ox.vk,.int .i64 ox.vn,.string ox.vt,.int .i64 ox.va,.int .i64 ox.vb,.slice ox.A ox.l.length ox.c,.int .i64 (c.st+(i:Int)),.int .i64 c.a]) rfl rfl rfl _ hst ?_;rintro w9 ⟨hO9,ht9⟩)
           have hg9:=ht9.grown;have HO9:Hid (fU w9 mo (K++c.opsI.take (i+1))):=by show fU _ _ _;rw[HTK.o,←sX];exact hO9
           have HC9:=Hi (HC3.o.grown hg9 (fun q hq=>by cases hq;exact .inl (.inl rfl)));clear z0 z1 z2 z3 z4 z5 z6 z7 z8 z9 z10 z11 z12 z13 z14;clear hst hg9 ht9 hO9 HO3 HC3 HY3 HW8;try simp only[Act.put,zA,zB,zC]
           go_wp2_with fail
           go_roundw
           case rel=>exact⟨i+1,by go_num,by omega,HO9,HFI3,HC9⟩
           case measure=>simp[intOf];omega
         ·have HF:Hid (bR L c=true):=by
           have:=HFI.o
           show _=_;rw[HFO.o,this,uR (by rw[fG,HNP.o];omega)];rfl
          go_wp2_with fail
          go_ret;exact⟨by rw[HF.o];rfl,HWr.o⟩
    ·intro ya yb todo' w3 hp hI3 hg3 hs3 hen;have HYS:Hid ((ya,yb)∈S):=HI.o.sub (ya,yb) (hp.mem_iff.2 (tM ..));have HTP:=Hi hp;have HLE:Hid (eT wr mk it=todo'.length+1):=by show _=_;rw[bC.left HI.o,tF,hp.length_eq];rfl
     have HI3:Hid (fK w3 mk it S todo'):=hI3;have HMI:Hid (mo≠it∧mk≠mo∧mk≠it∧w.heap.size≤mo∧w.heap.size≤it∧w.heap.size<mo∧w.heap.size<it):=by have:=HN.o;have:=HIT.o;show _∧_;omega
     have HO3:=Hi (HO.o.keep (hg3.block _ (aJ.lt HO.o) (fun e=>HMI.o.1 (tK e))));have HC3:=Hi (HC.o.grown hg3 (fun q hq=>by cases hq;exact .inl (.inr rfl)));obtain⟨x,hx,hxr⟩:=mB (X:=X) (by rw[HLX.o];exact bL ((HMS.o _).1 HYS.o))
     have hfx:aV L (ya,yb)=some x.1:=by rw[←hxr];exact dQ (HLX.o▸HK.o.nodup) (by rw[←HLX.o];exact sW.2 ⟨x,hx,rfl⟩)
     have HOA:Hid (dO L (ya,yb)=x.1.opsI):=by show _=_;unfold dO;rw[hfx]
     have HLV:Hid (hN L (ya,yb)=x.1.v):=by show _=_;unfold hN;rw[hfx]
     have HX:=Hi hx;have HXR:=Hi hxr;clear hp hI3 hg3 hs3 hx hxr hfx HI HO HC;go_upto_region 14 with fail
     have HV:=Hi (Blk.new w3 45 #[.int .i64 ya,.int .i64 yb]);have HC4:=Hi (HC3.o.alloc (.cells #[.int .i64 ya,.int .i64 yb] 45));have HO4:=Hi (HO3.o.keep (w':=w3.alloc (.cells #[.int .i64 ya,.int .i64 yb] 45)) (sM _ _ _ (aJ.lt HO3.o)));have HI4:Hid (fK (w3.alloc (.cells #[.int .i64 ya,.int .i64 yb] 45)) mk it S todo'):=bC.keep HI3.o (sM _ _ _ (aJ.lt (bC.map HI3.o))) (sM _ _ _ (bC.lt HI3.o));clear HC3 HO3 HI3 hen;generalize w3.alloc (.cells #[.int .i64 ya,.int .i64 yb] 45)=w4 at HV HC4 HO4 HI4 ⊢;generalize w3.heap.size=qy at HV ⊢;have HW4:Hid (Below w.heap.size w w4):=HW3.o.trans (HC4.o.below HW3.o.size (fun k hk=>by have:=HMI.o;omega));have HP4:=Hi (HB.o.below HW4.o);have hry:eL (ya,yb):=bk_i64 HK.o (by rw[HLX.o];exact bL ((HMS.o _).1 HYS.o));have KL:∀V:World,Below w4.heap.size w4 V→(Instr.lookup 90 (.map (some bh)) (.agg #[.int .i64 ya,.int .i64 yb]) false).run Tryz.prog V=.ok (.agg #[.int .i64 x.1.a,.int .i64 x.1.s,.int .i64 x.1.st,.slice x.1.DA x.1.deps.length x.1.DC,.slice x.1.OA x.1.ops.length x.1.OC]) V:=fun V hv=>by
      have h1:=dS.look (show dS V bh (X.map Prod.fst) from aJ.keep HP4.o.mh (hv.block _ (aJ.lt HP4.o.mh))) hry false;rw[HLX.o]at h1;simp only[uT,if_false,HLV.o]at h1;exact h1
     obtain⟨q0,q1⟩:=ce2 HV.o
     have g0:=cZ HP4.o.blk 0 rfl;have KS:∀V:World,Below w4.heap.size w4 V→V.cell? ⟨qy,0,none⟩=some (.int .i64 ya)∧V.cell? ⟨qy,1,none⟩=some (.int .i64 yb)∧V.cell? ⟨g,0,none⟩=some (.map (some bh))∧(Instr.lookup 90 (.map (some bh)) (.agg #[.int .i64 ya,.int .i64 yb]) false).run Tryz.prog V=.ok (.agg #[.int .i64 x.1.a,.int .i64 x.1.s,.int .i64 x.1.st,.slice x.1.DA x.1.deps.length x.1.DC,.slice x.1.OA x.1.ops.length x.1.OC]) V:=fun V hv=>⟨(sK (hv.block _ HV.o.lt)).trans q0,(sK (hv.block _ HV.o.lt)).trans q1,(sK (hv.block _ HP4.o.blk.lt)).trans g0,KL V hv⟩
     have K0:=KS w4.drew (sA _ w4).drew;have K1:=fun o=>KS (w4.drew.alloc o) ((sA _ w4).drew.alloc (sB _) o)
     clear KL KS q0 q1 g0;go_cut [11] (fun s11 wc=>s11=.pointer (some ⟨w4.heap.size,0,none⟩)∧wc=(w4.alloc (.cells #[.int .i64 x.1.a,.int .i64 x.1.s,.int .i64 x.1.st,.slice x.1.DA x.1.deps.length x.1.DC,.slice x.1.OA x.1.ops.length x.1.OC] 33)).drew)
     case first =>
      go_region_held3 (fun w'=>w'.cell? ⟨qy,0,none⟩=some (.int .i64 ya)∧w'.cell? ⟨qy,1,none⟩=some (.int .i64 yb)∧w'.cell? ⟨g,0,none⟩=some (.map (some bh))∧(Instr.lookup 90 (.map (some bh)) (.agg #[.int .i64 ya,.int .i64 yb]) false).run Tryz.prog w'=.ok (.agg #[.int .i64 x.1.a,.int .i64 x.1.s,.int .i64 x.1.st,.slice x.1.DA x.1.deps.length x.1.DC,.slice x.1.OA x.1.ops.length x.1.OC]) w') (first|exact K0|exact K1 _|go_keep) (fail)
      all_goals
       clear K0 K1;go_wp2_with fail
       go_meet
       case rel=>exact⟨rfl,rfl⟩
     case rest =>
      obtain⟨rfl,rfl⟩:=hcut
      clear K0 K1;have hb5:Below w4.heap.size w4 (w4.alloc (.cells #[.int .i64 x.1.a,.int .i64 x.1.s,.int .i64 x.1.st,.slice x.1.DA x.1.deps.length x.1.DC,.slice x.1.OA x.1.ops.length x.1.OC] 33)).drew:=((sA _ w4).alloc (sB _) _).drew;have HBX:Hid (Blk (w4.alloc (.cells #[.int .i64 x.1.a,.int .i64 x.1.s,.int .i64 x.1.st,.slice x.1.DA x.1.deps.length x.1.DC,.slice x.1.OA x.1.ops.length x.1.OC] 33)).drew w4.heap.size 33 #[.int .i64 x.1.a,.int .i64 x.1.s,.int .i64 x.1.st,.slice x.1.DA x.1.deps.length x.1.DC,.slice x.1.OA x.1.ops.length x.1.OC]):=Blk.new w4 _ _;have HV5:=Hi (HV.o.keep (hb5.block _ HV.o.lt));have HC5:Hid (Chg (fun j=>j=mo∨j=it) w2 (w4.alloc (.cells #[.int .i64 x.1.a,.int .i64 x.1.s,.int .i64 x.1.st,.slice x.1.DA x.1.deps.length x.1.DC,.slice x.1.OA x.1.ops.length x.1.OC] 33)).drew):=(HC4.o.alloc _).drew;have HO5:=Hi (HO4.o.keep (hb5.block _ (aJ.lt HO4.o)));have HI5:Hid (fK (w4.alloc (.cells #[.int .i64 x.1.a,.int .i64 x.1.s,.int .i64 x.1.st,.slice x.1.DA x.1.deps.length x.1.DC,.slice x.1.OA x.1.ops.length x.1.OC] 33)).drew mk it S todo'):=bC.keep HI4.o (hb5.block _ (aJ.lt (bC.map HI4.o))) (hb5.block _ (bC.lt HI4.o));have HCI5:=Hi ((HP4.o.inL x HX.o).keep (fun k hk=>hb5.block k hk.1));have HLT4:Hid (w2.heap.size≤w4.heap.size):=HC4.o.size;clear hb5 HV HC4 HO4 HI4 HW4 HP4;generalize (w4.alloc (.cells #[.int .i64 x.1.a,.int .i64 x.1.s,.int .i64 x.1.st,.slice x.1.DA x.1.deps.length x.1.DC,.slice x.1.OA x.1.ops.length x.1.OC] 33)).drew=w5 at HBX HV5 HC5 HO5 HI5 HCI5 ⊢;generalize w4.heap.size=qx at HBX HLT4 HCI5 ⊢;have HW5:Hid (Below w.heap.size w w5):=HW3.o.trans (HC5.o.below HW3.o.size (fun k hk=>by have:=HMI.o;omega));have HQ5:=Hi (HQ3.o.keep (HC5.o.block _ HQ3.o.lt (by have:=HMI.o;omega)));obtain⟨y1,y2⟩:=ce2 HV5.o
      obtain⟨c0,c1⟩:=ce2 HQ5.o
      go_upto_region 15 with fail
      go_cut [64] (fun s64 wc=>s64=.bool ((ya == c.a)&&decide (c.s≤yb))∧wc=w5)
      case first =>
       obtain⟨be,hbe⟩:∃be,(ya == c.a)=be:=⟨_,rfl⟩
       have HBE:=Hi hbe;cases be;all_goals
        go_wp2_with fail
        go_meet
        case rel=>exact⟨by rw[HBE.o];rfl,rfl⟩
      case rest =>
       obtain⟨rfl,rfl⟩:=hcut
       clear y1 y2 c0 c1;by_cases hno:ya=c.a∧c.s≤yb
       ·have HF:Hid (bR L c=false):=fits_no1 HMS.o HYS.o hno.1 hno.2;have ht:((ya == c.a)&&decide (c.s≤yb))=true:=by simp[hno.1,hno.2]
        rw[ht];clear hno ht;go_wp2_with fail
        go_ret;exact⟨by rw[HF.o];rfl,HW5.o⟩
       ·have HNO:=Hi hno;have ht:((ya == c.a)&&decide (c.s≤yb))=false:=by
         by_cases h1:ya=c.a
         ·have h2:¬c.s≤yb:=fun h=>hno ⟨h1,h⟩
          simp[h2]
         ·simp[h1]
        rw[ht];clear hno ht;have x4:=cZ HBX.o 4 rfl;have hxo:x.1.ops.length≤40:=(eE (HK.o.err x.1 (sW.2 ⟨x,HX.o,rfl⟩)).1).2.2.1;obtain⟨nx,hnx⟩:∃n,x.1.ops.length=n:=⟨_,rfl⟩
        have HNX:=Hi hnx;rw[hnx]at x4 hxo;clear hnx;go_upto_region 18 with fail
        clear x4;go_loopw [12,13,14,68] (fun _ _ _ s wr=>∃i:Nat,s=.int .i64 i∧i≤nx∧Hid (fK wr mk it S todo')∧Hid (fU wr mo (K++x.1.opsI.take i))∧Hid (∀z∈x.1.opsI.take i,z.2.1<c.st)∧Hid (Chg (fun j=>j=mo∨j=it) w2 wr)∧Hid (Blk wr qx 33 #[.int .i64 x.1.a,.int .i64 x.1.s,.int .i64 x.1.st,.slice x.1.DA x.1.deps.length x.1.DC,.slice x.1.OA x.1.ops.length x.1.OC])) (fun _ _ _ s _=>nx-(intOf s).toNat)
        case atStart=>exact⟨0,rfl,by omega,HI5,by show fU _ _ _;simpa using HO5.o,(by intro z hz;simp at hz),HC5,HBX⟩
        case round =>
         clear HI5 HO5 HC5 HBX HW5 HQ5;obtain⟨i,rfl,hi,HI,HO,HZ2,HC,HBX⟩:=hrel
         by_cases hil:i<nx
         ·as_aux_lemma =>
           have HK:Hid (Bk L):=HLX.o▸HK.o;obtain⟨ox,hox⟩:∃ox,x.1.ops[i]?=some ox:=⟨_,sC (by rw[HNX.o];exact hil)⟩
           have HWr:Hid (Below w.heap.size w wr):=HW3.o.trans (HC.o.below HW3.o.size (fun k hk=>by have:=HMI.o;omega));have HQr:=Hi (HQ3.o.keep (HC.o.block _ HQ3.o.lt (by have:=HMI.o;omega)));have hxi:=(HB.o.inL x HX.o).keep (fun k hk=>HWr.o.block k hk.1);obtain⟨b3,o3,hA3,hl3',hc3⟩:=hxi.ho.at_ (by rw[HNX.o];omega) (by omega)
           have hl3:b3<wr.heap.size:=sD hl3'.1 HWr.o.size;have key:∀i' v,i'<13→(opC ox)[i']?=some v→wr.cell? ⟨b3,o3+i*13+i',none⟩=some v:=fun i' v h1 h2=>by
            have h3:=bM hox i' h1;rw[h2]at h3;have:=hc3 _ _ h3
            rw[←tY]at this;exact this
           have q0:wr.cell? ⟨b3,o3+i*13,none⟩=some (.int .i64 ox.k):=key 0 _ (by omega) rfl;have q1:wr.cell? ⟨b3,o3+i*13+1,none⟩=some (.int .i64 ox.on):=key 1 _ (by omega) rfl;have q2:wr.cell? ⟨b3,o3+i*13+2,none⟩=some (.int .i64 ox.oa):=key 2 _ (by omega) rfl;have q3:wr.cell? ⟨b3,o3+i*13+3,none⟩=some (.string ox.key):=key 3 _ (by omega) rfl;have q4:wr.cell? ⟨b3,o3+i*13+4,none⟩=some (.int .i64 ox.en):=key 4 _ (by omega) rfl;have q5:wr.cell? ⟨b3,o3+i*13+5,none⟩=some (.int .i64 ox.ea):=key 5 _ (by omega) rfl;have q6:wr.cell? ⟨b3,o3+i*13+6,none⟩=some (.bool ox.ins):=key 6 _ (by omega) rfl;have q7:wr.cell? ⟨b3,o3+i*13+7,none⟩=some (.int .i64 ox.vk):=key 7 _ (by omega) rfl;have q8:wr.cell? ⟨b3,o3+i*13+8,none⟩=some (.int .i64 ox.vn):=key 8 _ (by omega) rfl;have q9:wr.cell? ⟨b3,o3+i*13+9,none⟩=some (.string ox.vt):=key 9 _ (by omega) rfl;have q10:wr.cell? ⟨b3,o3+i*13+10,none⟩=some (.int .i64 ox.va):=key 10 _ (by omega) rfl;have q11:wr.cell? ⟨b3,o3+i*13+11,none⟩=some (.int .i64 ox.vb):=key 11 _ (by omega) rfl;have q12:wr.cell? ⟨b3,o3+i*13+12,none⟩=some (.slice ox.A ox.l.length ox.c):=key 12 _ (by omega) rfl;have hxe:=HK.o.err x.1 (by rw[←HLX.o];exact sW.2 ⟨x,HX.o,rfl⟩);have hxb:=(eU (iX hxe.1).1).1;have hxs:=eE hxe.1;have hx1:1≤x.1.st:=hxs.1;have hx2:x.1.st≤1000000:=hxs.2.1;have hws:IntKind.i64.wrap (x.1.st+(i:Int))=x.1.st+(i:Int):=tH _ (by omega);have hoi:x.1.opsI[i]?=some (ox,(x.1.st+(i:Int),x.1.a)):=gL _ _ _ _ _ hox;have HTK:Hid (x.1.opsI.take (i+1)=x.1.opsI.take i++[(ox,(x.1.st+(i:Int),x.1.a))]):=by show _=_;rw[sQ,hoi];rfl
           have HIN:Hid ((ox,(x.1.st+(i:Int),x.1.a))∈x.1.opsI):=sJ hoi;have HI64:Hid (eL (x.1.st+(i:Int),x.1.a)):=⟨by show _≤x.1.st+(i:Int)∧x.1.st+(i:Int)≤_;omega,by have:1≤x.1.a∧x.1.a≤99:=hxb;show _≤x.1.a∧x.1.a≤_;omega⟩;have HNEW:Hid (∀y∈K++x.1.opsI.take i,y.2≠(x.1.st+(i:Int),x.1.a)):=by
            have hpm:(done++((ya,yb)::todo')).Perm S:=(HTP.o.symm.append_left done).trans HP.o;have hnd:(((done++((ya,yb)::todo')).flatMap (dO L)).map Prod.snd).Nodup:=kU HK.o (hpm.nodup_iff.2 HSN.o) (fun r hr=>bL ((HMS.o r).1 (hpm.mem_iff.1 hr)));rw[uC,tQ,HOA.o,←HKE.o]at hnd;exact next_new hnd hoi
           have HKN:Hid ((K++x.1.opsI.take i).length<maxLen):=by
            have h1:=rP HK.o HLL.o HSN.o (fun r hr=>bL ((HMS.o r).1 hr)) HP.o;rw[←HKE.o]at h1;show _<_;rw[sF,tD];simp only[maxLen];omega
           have HOX:=Hi hA3;rw[hA3]at HBX ⊢;clear hA3 key hc3 hxi hox hoi hl3' hxe hxb hxs;go_upto_region 20 with fail
           have hb9:Below wr.heap.size wr (wr.alloc (.cells #[.int .i64 ox.k,.int .i64 ox.on,.int .i64 ox.oa,.string ox.key,.int .i64 ox.en,.int .i64 ox.ea,.bool ox.ins,.int .i64 ox.vk,.int .i64 ox.vn,.string ox.vt,.int .i64 ox.va,.int .i64 ox.vb,.slice ox.A ox.l.length ox.c] 53)):=(sA wr.heap.size wr).alloc (sB _) _;have HP1:=Hi (Blk.new wr 53 #[.int .i64 ox.k,.int .i64 ox.on,.int .i64 ox.oa,.string ox.key,.int .i64 ox.en,.int .i64 ox.ea,.bool ox.ins,.int .i64 ox.vk,.int .i64 ox.vn,.string ox.vt,.int .i64 ox.va,.int .i64 ox.vb,.slice ox.A ox.l.length ox.c]);have HBX1:=Hi (HBX.o.keep (hb9.block _ HBX.o.lt));have HQ1:=Hi (HQr.o.keep (hb9.block _ HQr.o.lt));have HO1:=Hi (HO.o.keep (hb9.block _ (aJ.lt HO.o)));have HI1:Hid (fK (wr.alloc (.cells #[.int .i64 ox.k,.int .i64 ox.on,.int .i64 ox.oa,.string ox.key,.int .i64 ox.en,.int .i64 ox.ea,.bool ox.ins,.int .i64 ox.vk,.int .i64 ox.vn,.string ox.vt,.int .i64 ox.va,.int .i64 ox.vb,.slice ox.A ox.l.length ox.c] 53)) mk it S todo'):=bC.keep HI.o (hb9.block _ (aJ.lt (bC.map HI.o))) (hb9.block _ (bC.lt HI.o));have HC1:=Hi (HC.o.alloc (.cells #[.int .i64 ox.k,.int .i64 ox.on,.int .i64 ox.oa,.string ox.key,.int .i64 ox.en,.int .i64 ox.ea,.bool ox.ins,.int .i64 ox.vk,.int .i64 ox.vn,.string ox.vt,.int .i64 ox.va,.int .i64 ox.vb,.slice ox.A ox.l.length ox.c] 53));clear HBX HQr HO HI HC hb9 HWr hl3;clear q0 q1 q2 q3 q4 q5 q6 q7 q8 q9 q10 q11 q12;generalize wr.alloc (.cells #[.int .i64 ox.k,.int .i64 ox.on,.int .i64 ox.oa,.string ox.key,.int .i64 ox.en,.int .i64 ox.ea,.bool ox.ins,.int .i64 ox.vk,.int .i64 ox.vn,.string ox.vt,.int .i64 ox.va,.int .i64 ox.vb,.slice ox.A ox.l.length ox.c] 53)=w6 at HP1 HBX1 HQ1 HO1 HI1 HC1 ⊢;generalize wr.heap.size=qp at HP1 ⊢;have x0:=cZ HBX1.o 0 rfl;have x2:=cZ HBX1.o 2 rfl;go_upto_region 21 with fail
           have hb9:Below w6.heap.size w6 (w6.alloc (.cells #[.int .i64 (x.1.st+(i:Int)),.int .i64 x.1.a] 48)):=(sA w6.heap.size w6).alloc (sB _) _;have HN2:=Hi (Blk.new w6 48 #[.int .i64 (x.1.st+(i:Int)),.int .i64 x.1.a]);have HP2:=Hi (HP1.o.keep (hb9.block _ HP1.o.lt));have HBX2:=Hi (HBX1.o.keep (hb9.block _ HBX1.o.lt));have HQ2:=Hi (HQ1.o.keep (hb9.block _ HQ1.o.lt));have HO2:=Hi (HO1.o.keep (hb9.block _ (aJ.lt HO1.o)));have HI2:Hid (fK (w6.alloc (.cells #[.int .i64 (x.1.st+(i:Int)),.int .i64 x.1.a] 48)) mk it S todo'):=bC.keep HI1.o (hb9.block _ (aJ.lt (bC.map HI1.o))) (hb9.block _ (bC.lt HI1.o));have HC2:=Hi (HC1.o.alloc (.cells #[.int .i64 (x.1.st+(i:Int)),.int .i64 x.1.a] 48));clear HP1 HBX1 HQ1 HO1 HI1 HC1 hb9 x0 x2;generalize w6.alloc (.cells #[.int .i64 (x.1.st+(i:Int)),.int .i64 x.1.a] 48)=w7 at HN2 HP2 HBX2 HQ2 HO2 HI2 HC2 ⊢;generalize w6.heap.size=qn at HN2 ⊢;obtain⟨n0,n1⟩:=ce2 HN2.o
           obtain⟨q0,q1,q2,q3,q4,q5,q6,q7,q8,q9,q10,q11,q12⟩:=ce13 HP2.o
           have c2:=cZ HQ2.o 2 rfl;by_cases hge:c.st≤x.1.st+(i:Int)
           ·have HF:Hid (bR L c=false):=fits_no2 HK.o.nodup HSN.o HMS.o HYS.o (by rw[HOA.o];exact HIN.o) hge;have HW7:Hid (Below w.heap.size w w7):=HW3.o.trans (HC2.o.below HW3.o.size (fun k hk=>by have:=HMI.o;omega));clear q0 q1 q2 q3 q4 q5 q6 q7 q8 q9 q10 q11 q12;clear n1;go_wp2_with fail
            go_ret;exact⟨by rw[HF.o];rfl,HW7.o⟩
           ·have HGE:=Hi hge;have hst:=HO2.o.add (x:=(ox,(x.1.st+(i:Int),x.1.a))) HI64.o HNEW.o HKN.o;go_wp2_with (first|(refine qI rfl 143 (.tmp 87) (.tmp 88) rfl (.agg #[.int .i64 ox.k,.int .i64 ox.on,.int .i64 ox.oa,.string ox.key,.int .i64 ox.en,.int .i64 ox.ea,.bool ox.ins,.int .i64 ox.vk,.int .i64 ox.vn,.string ox.vt,.int .i64 ox.va,.int .i64 ox.vb,.slice ox.A ox.l.length ox.c]) (.agg #[.int .i64 (x.1.st+(i:Int)),.int .i64 x.1.a]) (.agg #[.int .i64 ox.k,.int .i64 ox.on,.int .i64 ox.oa,.string ox.key,.int .i64 ox.en,.int .i64 ox.ea,.bool ox.ins,.int .i64 ox.vk,.int .i64 ox.vn,.string ox.vt,.int .i64 ox.va,.int .i64 ox.vb,.slice ox.A ox.l.length ox.c,.int .i64 (x.1.st+(i:Int)),.int .i64 x.1.a]) rfl rfl (build_op ox ox.l.length (x.1.st+(i:Int)) x.1.a _) ?_)|(refine eX _ rfl (.tmp 85) (.tmp 86) (.tmp 89) 141 (.inl rfl) mo (.agg #[.int .i64 (x.1.st+(i:Int)),.int .i64 x.1.a]) (.agg #[.int .i64 ox.k,.int .i64 ox.on,.int .i64 ox.oa,.string ox.key,.int .i64 ox.en,.int .i64 ox.ea,.bool ox.ins,.int .i64 ox.vk,.int .i64 ox.vn,.string ox.vt,.int .i64 ox.va,.int .i64 ox.vb,.slice ox.A ox.l.length ox.c,.int .i64 (x.1.st+(i:Int)),.int .i64 x.1.a]) rfl rfl rfl _ hst ?_;rintro w8 ⟨hO8,ht8⟩))
            have hg8:=ht8.grown;have HO8:Hid (fU w8 mo (K++x.1.opsI.take (i+1))):=by show fU _ _ _;rw[HTK.o,←sX];exact hO8
            have HI8:Hid (fK w8 mk it S todo'):=bC.keep HI2.o (hg8.block _ (aJ.lt (bC.map HI2.o)) (fun e=>HMI.o.2.1 (tK e))) (hg8.block _ (bC.lt HI2.o) (fun e=>HMI.o.1 (tK e).symm));have HC8:=Hi (HC2.o.grown hg8 (fun q hq=>by cases hq;exact .inl (.inl rfl)));have HBX8:=Hi (HBX2.o.keep (hg8.block _ HBX2.o.lt (fun e=>aJ.no_cells HO2.o _ _ ((tK e)▸HBX2.o))));have HZ8:Hid (∀z∈x.1.opsI.take (i+1),z.2.1<c.st):=fun z hz=>by
             rw[HTK.o]at hz;rcases sG.1 hz with h|h
             ·exact HZ2.o z h
             ·rw[sP.1 h];have:=HGE.o;show x.1.st+(i:Int)<c.st;omega
            clear q0 q1 q2 q3 q4 q5 q6 q7 q8 q9 q10 q11 q12;clear n0 n1 c2 hst hg8 ht8 hO8 HO2 HI2 HC2 HBX2 hge;try simp only[Act.put,zA,zB,zC]
            go_wp2_with fail
            go_roundw
            case rel=>exact⟨i+1,by go_num,by omega,HI8,HO8,HZ8,HC8,HBX8⟩
            case measure=>simp[intOf];omega
         ·as_aux_lemma =>
           have HTK:Hid (x.1.opsI.take i=dO L (ya,yb)):=by show _=_;rw[HOA.o,sL (by rw[fG,HNX.o];omega)]
           have HO2:Hid (fU wr mo (K++dO L (ya,yb))):=by have:=HO.o;rw[HTK.o]at this;exact this
           have HZ3:Hid (∀z∈dO L (ya,yb),z.2.1<c.st):=by have:=HZ2.o;rw[HTK.o]at this;exact this
           have HP2:Hid (((done++[(ya,yb)])++todo').Perm S):=by
            show List.Perm _ _;rw[sX];exact(HTP.o.symm.append_left done).trans HP.o
           have HKE2:Hid (K++dO L (ya,yb)=(done++[(ya,yb)]).flatMap (dO L)):=by show _=_;rw[HKE.o];simp
           have HA2:Hid (∀r∈done++[(ya,yb)],¬(r.1=c.a∧c.s≤r.2)):=fun r hr=>by
            rcases sG.1 hr with h|h
            ·exact HA.o r h
            ·rw[sP.1 h];exact HNO.o
           have HZ4:Hid (∀x∈K++dO L (ya,yb),x.2.1<c.st):=fun z hz=>by
            rcases sG.1 hz with h|h
            ·exact HZ.o z h
            ·exact HZ3.o z h
           have HLM:Hid (eT wr mk it=todo'.length):=by show _=_;rw[bC.left HI.o,tF]
           clear HTK HO HZ2 HZ3 HBX;go_wp2_with fail
           go_roundw
           case rel=>exact⟨done++[(ya,yb)],todo',K++dO L (ya,yb),HP2,HI,HO2,HKE2,HA2,HZ4,HC⟩
           case measure=>show eT wr mk it<eT _ mk it;rw[HLM.o,HLE.o];omega
end Go.Proofs.YtjhkcbideddlgaaGreat
