/- Contracts of the document's books: Take. -/
import Derived.Test.YtmpkejflgpodkaaGreatDoorP15
import Derived.Test.YtmpkejflgpodkaaGreatDoorP9
set_option linter.unusedVariables false
set_option linter.unusedSimpArgs false
namespace Go.Proofs.YtmpkejflgpodkaaGreatDoor
open Go.ChangeShapes Go.WideShapes Go.ChangeAt Go.RowKit
def ScanAt (p : ChD→Bool) (W : List ChD) (i : Nat) (best : Option (Nat × Rf)) : Prop :=
 leastAt p W=leastGo p (W.drop i) i best∧∀ j r,best=some (j,r)→∃ c,W[j]?=some c∧c.rf=r
theorem ScanAt.start (p : ChD→Bool) (W : List ChD) : ScanAt p W 0 none:=⟨by simp [leastAt],fun _ _ h=>by cases h⟩
def isBetter (best : Option (Nat × Rf)) (r : Rf) : Bool:=match best with | none=>true | some b=>aheadR r b.2
theorem ScanAt.skip {p : ChD→Bool} {W : List ChD} {i : Nat} {best : Option (Nat × Rf)} (h : ScanAt p W i best) {c : ChD} (hc : W[i]?=some c) (hn : (p c && isBetter best c.rf)=false) : ScanAt p W (i+1) best:=by
 obtain ⟨h1,h2⟩:=h
 obtain ⟨hi,hx⟩:=List.getElem?_eq_some_iff.1 hc
 refine ⟨?_,h2⟩
 rw [h1,List.drop_eq_getElem_cons hi,hx]
 conv=>lhs;unfold leastGo
 cases best with
 | none=>simp only [isBetter] at hn;simp only [hn];simp
 | some b=>simp only [isBetter] at hn;simp only [hn];simp
theorem ScanAt.take {p : ChD→Bool} {W : List ChD} {i : Nat} {best : Option (Nat × Rf)} (h : ScanAt p W i best) {c : ChD} (hc : W[i]?=some c) (hn : (p c && isBetter best c.rf)=true) : ScanAt p W (i+1) (some (i,c.rf)):=by
 obtain ⟨h1,h2⟩:=h
 obtain ⟨hi,hx⟩:=List.getElem?_eq_some_iff.1 hc
 refine ⟨?_,fun j r e=>by cases e;exact ⟨c,hc,rfl⟩⟩
 rw [h1,List.drop_eq_getElem_cons hi,hx]
 conv=>lhs;unfold leastGo
 cases best with
 | none=>simp only [isBetter] at hn;simp only [hn];simp
 | some b=>simp only [isBetter] at hn;simp only [hn];simp
theorem ScanAt.done {p : ChD→Bool} {W : List ChD} {best : Option (Nat × Rf)} (h : ScanAt p W W.length best) : leastAt p W=best:=by
 rw [h.1,List.drop_length];rfl
theorem Inv.start {L W : List ChD} (h : Inv L W) {c : ChD} (he : c.err=0) (hw : ∀ o∈c.ops,(Lit.int .i64 o.vn).wf=true) (h1 : findC L c.rf=none) (h2 : findC W c.rf=none) (hr : readyP L c=true) (hf : fitsP L c=true) (h3 : L.length+W.length < 120) : Inv (L++[c]) W:=by
 have n1:=findC_none.1 h1
 have n2:=findC_none.1 h2
 refine ⟨.snoc h.bk he hw n1 hr hf,h.good,h.nd,fun x hx=>?_,by simp;omega⟩
 rw [refsOf_append]
 intro hm
 rcases List.mem_append.1 hm with hm | hm
 · exact h.apart x hx hm
 · simp [refsOf] at hm
   exact n2 (by rw [← hm];exact mem_refs hx)
def atP (best : Option (Nat × Rf)) : Int:=match best with | none=>-1 | some b=>b.1
def wlen (w : World) (g : Nat) : Nat:=match w.cell? ⟨g,1,none⟩ with | some (.slice _ n _)=>n | _=>0
theorem wlen_of {D F : Nat→Prop} {w : World} {g : Nat} {L W : List ChD} {VL VW : Value} (h : BM D F w g L W VL VW) : wlen w g=W.length:=by
 obtain ⟨A,c,hv,_,_,_⟩:=Reads.of_own h.oW
 have h1:=h.blk.cell 1
 rw [hv] at h1
 unfold wlen
 rw [show w.cell? ⟨g,1,none⟩=some (.slice A W.length c) from h1]
theorem below_step {B : Nat} {a V V' : World} (h : Below B a V) (hB : B≤a.heap.size) (k : Below V.heap.size V V') : Below B a V':=h.trans (k.mono (Nat.le_trans hB h.size))
theorem settle_stop {L W : List ChD} (h : leastAt (readyP L) W=none) : settle W.length L W=(L,W):=by
 cases W with
 | nil=>rfl
 | cons x W=>show (match leastAt (readyP L) (x::W) with | none=>_ | some (i,_)=>_)=_;rw [h]
theorem settle_go {L W : List ChD} {i : Nat} {r : Rf} {x : ChD} (h : leastAt (readyP L) W=some (i,r)) (hx : W[i]?=some x) :
 settle W.length L W=if fitsP L x then settle (W.eraseIdx i).length (L++[x]) (W.eraseIdx i) else settle (W.eraseIdx i).length L (W.eraseIdx i):=by
 have hi:=(List.getElem?_eq_some_iff.1 hx).1
 have hl : (W.eraseIdx i).length=W.length - 1:=List.length_eraseIdx_of_lt hi
 obtain ⟨m,hm⟩ : ∃ m,W.length=m+1:=⟨W.length - 1,by omega⟩
 rw [hl,hm,Nat.add_sub_cancel]
 conv=>lhs;unfold settle
 rw [h]
 simp only [hx]
theorem chsC_take : ∀ (k : Nat) (L : List ChD),(chsC L).take (k*5)=chsC (L.take k)
 | 0,L=>by simp [chsC]
 | k+1,[]=>by simp [chsC]
 | k+1,c::L=>by
   have:=chsC_take k L
   rw [show (k+1)*5=k*5+5 from by omega]
   show (c.cells++chsC L).take _=c.cells++chsC (L.take k)
   rw [← this,List.take_append,List.take_of_length_le (by simp [ChD.cells]),show k*5+5 - c.cells.length=k*5 from by simp [ChD.cells]]
theorem chsC_drop : ∀ (k : Nat) (L : List ChD),(chsC L).drop (k*5)=chsC (L.drop k)
 | 0,L=>by simp
 | k+1,[]=>by simp [chsC]
 | k+1,c::L=>by
   have:=chsC_drop k L
   rw [show (k+1)*5=k*5+5 from by omega]
   show (c.cells++chsC L).drop _=chsC (L.drop k)
   rw [← this,List.drop_append,List.drop_of_length_le (by simp [ChD.cells]),show k*5+5 - c.cells.length=k*5 from by simp [ChD.cells],List.nil_append]
def zeroCh : Value:=.agg #[.int .i64 0,.int .i64 0,.int .i64 0,.slice none 0 0,.slice none 0 0]
theorem infoCh : (Tryz.prog.info? 82).map (fun i=>(i.zero,i.size,i.bytes))=some (some zeroCh,5,72):=by kernel_rfl
theorem chg_of {F : Nat→Prop} {w w' : World} (h : Below w.heap.size w w') : Chg F w w':=⟨h.os,h.tape,h.output,h.size,fun k hk _=>h.block k hk⟩
theorem takeP_L {L W : List ChD} {c y : ChD} (he : c.err=0) (hf : findC L c.rf=some y) : takeP L W c=((L,W),sameE y c):=by
 unfold takeP;rw [if_neg (by omega),hf]
theorem takeP_W {L W : List ChD} {c y : ChD} (he : c.err=0) (hf : findC L c.rf=none) (hg : findC W c.rf=some y) : takeP L W c=((L,W),sameE y c):=by
 unfold takeP;rw [if_neg (by omega),hf];simp only [hg]
theorem takeP_n {L W : List ChD} {c : ChD} (he : c.err=0) (hf : findC L c.rf=none) (hg : findC W c.rf=none) : takeP L W c=if 120≤L.length+W.length then ((L,W),4)
 else if readyP L c=false then ((L,W++[c]),0)
 else if fitsP L c=false then ((L,W),7)
 else (settle W.length (L++[c]) W,0):=by
 unfold takeP;rw [if_neg (by omega),hf];simp only [hg]
def TakeR (D F : Nat→Prop) (w w' : World) (g : Nat) (L W : List ChD) : Prop :=
 ∃ F' VL VW,BM D F' w' g L W VL VW∧(∀ k,F' k→F k∨w.heap.size≤k)∧Chg F w w'
set_option maxHeartbeats 16000000 in
set_option maxRecDepth 20000 in
theorem stake_any (L W : List ChD) (c : ChD) (D F : Nat→Prop) (VL VW : Value) (g : Nat) (w : World) (hB : BM D F w g L W VL VW) (hI : Inv L W) (hc : ChIn D w c) (hw : ∀ o∈c.ops,(Lit.int .i64 o.vn).wf=true) :
 Calls Tryz.prog 28 #[.pointer (some ⟨g,0,none⟩),c.v] w fun e w'=>e=.returned (.int .i64 (takeP L W c).2)∧TakeR D F w w' g (takeP L W c).1.1 (takeP L W c).1.2:=by
 obtain ⟨AL,cL,hVL,-,-,hrL⟩:=Reads.of_own hB.oL
 obtain ⟨AW,cW,hVW,-,-,hrW⟩:=Reads.of_own hB.oW
 have HRL : Hid (Reads (fun k=>k < w.heap.size) w 5 AL L.length (chsC L)):=hrL.more (fun k hk=>(own_lt hB.oL hk).2)
 have HRW : Hid (Reads (fun k=>k < w.heap.size) w 5 AW W.length (chsC W)):=hrW.more (fun k hk=>(own_lt hB.oW hk).2)
 subst hVL hVW
 clear hrL hrW
 have HB:=Lib.hid hB
 have HI:=Lib.hid hI
 have HC:=Lib.hid hc
 have HV:=Lib.hid hw
 have HD:=Lib.hid hB.hD
 have HW : Hid (Below w.heap.size w (w.alloc (.cells #[.int .i64 c.a,.int .i64 c.s,.int .i64 c.st,.slice c.DA c.deps.length c.DC,.slice c.OA c.ops.length c.OC] 82))):=(Below.refl _ w).alloc (Nat.le_refl _) _
 have HQ:=Lib.hid (Blk.new w 82 #[.int .i64 c.a,.int .i64 c.s,.int .i64 c.st,.slice c.DA c.deps.length c.DC,.slice c.OA c.ops.length c.OC])
 have C1:=fun V h=>refChange_any c.a c.s c.st c.deps c.DA c.deps.length c.DC c.ops c.OA c.ops.length c.OC V h rfl rfl
 clear hB hI hc hw
 unfold ChD.v
 go_enter Tryz.func28,Tryz.ntmps28
 go_wp2_with fail
 generalize w.alloc (.cells #[.int .i64 c.a,.int .i64 c.s,.int .i64 c.st,.slice c.DA c.deps.length c.DC,.slice c.OA c.ops.length c.OC] 82)=V at *
 replace C1:=C1 V ((HC.out.chm (fun k hk=>(HD.out k hk).1)).keep HW.out)
 have c0 : V.cell? ⟨w.heap.size,0,none⟩=some (.int .i64 c.a):=HQ.out.cell 0
 have c1 : V.cell? ⟨w.heap.size,1,none⟩=some (.int .i64 c.s):=HQ.out.cell 1
 have c2 : V.cell? ⟨w.heap.size,2,none⟩=some (.int .i64 c.st):=HQ.out.cell 2
 have c3 : V.cell? ⟨w.heap.size,3,none⟩=some (.slice c.DA c.deps.length c.DC):=HQ.out.cell 3
 have c4 : V.cell? ⟨w.heap.size,4,none⟩=some (.slice c.OA c.ops.length c.OC):=HQ.out.cell 4
 go_wp2_with fail
 go_at_call 51
 refine C1.mono ?_
 rintro e w1 ⟨rfl,hb⟩
 replace HQ:=Lib.hid (HQ.out.keep (hb.block _ HQ.out.lt))
 replace HW : Hid (Below w.heap.size w w1):=HW.out.trans (hb.mono HW.out.size)
 clear hb
 clear C1 c0 c1 c2 c3 c4
 have HE : Hid (c.err=chgE c.a c.s c.st c.deps c.ops):=rfl
 rw [← HE.out]
 by_cases he : c.err=0
 · have HE0:=Lib.hid he
   rw [he]
   clear he
   go_wp2_with fail
   go_loopw [6,7,8,9] (fun s6 _ _ _ wr=>∃ i : Nat,s6=.int .i64 i∧i≤2∧Hid (1≤i→findC L c.rf=none)∧Hid (2≤i→findC W c.rf=none)∧Hid (Blk wr w.heap.size 82 #[.int .i64 c.a,.int .i64 c.s,.int .i64 c.st,.slice c.DA c.deps.length c.DC,.slice c.OA c.ops.length c.OC])∧Hid (Below w.heap.size w wr)) (fun s6 _ _ _ _=>2 - (intOf s6).toNat)
   case atStart=>exact ⟨0,rfl,by omega,by show _→_;omega,by show _→_;omega,HQ,HW⟩
   case round =>
    clear HQ HW
    obtain ⟨i,rfl,hi,HN1,HN2,HQ,HW⟩:=hrel
    have hbr:=(HB.out.below HW.out).blk
    have g0 : wr.cell? ⟨g,0,none⟩=some (.slice AL L.length cL):=hbr.cell 0
    have g1 : wr.cell? ⟨g,1,none⟩=some (.slice AW W.length cW):=hbr.cell 1
    clear hbr
    obtain rfl | rfl | rfl : i=0∨i=1∨i=2:=by omega
    · skip
      have c0 : wr.cell? ⟨w.heap.size,0,none⟩=some (.int .i64 c.a):=HQ.out.cell 0
      have c1 : wr.cell? ⟨w.heap.size,1,none⟩=some (.int .i64 c.s):=HQ.out.cell 1
      have c2 : wr.cell? ⟨w.heap.size,2,none⟩=some (.int .i64 c.st):=HQ.out.cell 2
      have c3 : wr.cell? ⟨w.heap.size,3,none⟩=some (.slice c.DA c.deps.length c.DC):=HQ.out.cell 3
      have c4 : wr.cell? ⟨w.heap.size,4,none⟩=some (.slice c.OA c.ops.length c.OC):=HQ.out.cell 4
      go_wp2_with fail
      go_at_call 27
      refine (sref_any _ _ _ _ _ _ rfl rfl rfl).mono ?_
      rintro e w3 ⟨rfl,hb⟩
      replace HQ:=Lib.hid (HQ.out.keep (hb.block _ HQ.out.lt))
      replace HW : Hid (Below w.heap.size w w3):=HW.out.trans (hb.mono HW.out.size)
      clear hb
      clear c0 c1 c2 c3 c4
      have HR3 : Hid (Reads (fun k=>k < w3.heap.size) w3 5 AL L.length (chsC L)):=reads_below HRL.out HW.out
      have C2:=sfind_any L c.rf (fun k=>k < w3.heap.size) AL cL w3 HR3.out (fun _ h=>h) (by have:=HI.out.most;omega)
      go_wp2_with fail
      go_at_call 26
      refine C2.mono ?_
      rintro e w4 ⟨j,rfl,hj,hb⟩
      have HR4:=Lib.hid (reads_below HR3.out hb)
      replace HQ:=Lib.hid (HQ.out.keep (hb.block _ HQ.out.lt))
      replace HW : Hid (Below w.heap.size w w4):=HW.out.trans (hb.mono HW.out.size)
      clear hb
      clear C2 HR3
      rcases hj with ⟨rfl,hno⟩ | ⟨kk,y,rfl,hy,hfc⟩
      · (replace HN1 : Hid (1≤1→findC L c.rf=none):=fun _=>findC_none.2 hno);(replace HN2 : Hid (2≤1→findC W c.rf=none):=fun h=>by omega)
        clear hno
        go_wp2_with fail
        go_roundw
        case rel=>exact ⟨1,by go_num,by omega,HN1,HN2,HQ,HW⟩
        case measure=>simp [intOf]
      · have HY:=Lib.hid (findC_some hfc).1
        have HT : Hid (takeP L W c=((L,W),sameE y c)):=takeP_L HE0.out hfc
        obtain ⟨b,o,hA,-,hcy⟩:=HR4.out.at_ (by have:=(List.getElem?_eq_some_iff.1 hy).1;omega) (by have:=HI.out.most;omega)
        subst hA
        have hkn : kk < L.length:=(List.getElem?_eq_some_iff.1 hy).1
        have y0 : w4.cell? ⟨b,o+kk*5,none⟩=some (.int .i64 y.a):=hcy _ _ (chsC_at hy 0 (by omega))
        have y1 : w4.cell? ⟨b,o+kk*5+1,none⟩=some (.int .i64 y.s):=hcy _ _ (chsC_at hy 1 (by omega))
        have y2 : w4.cell? ⟨b,o+kk*5+2,none⟩=some (.int .i64 y.st):=hcy _ _ (chsC_at hy 2 (by omega))
        have y3 : w4.cell? ⟨b,o+kk*5+3,none⟩=some (.slice y.DA y.deps.length y.DC):=hcy _ _ (chsC_at hy 3 (by omega))
        have y4 : w4.cell? ⟨b,o+kk*5+4,none⟩=some (.slice y.OA y.ops.length y.OC):=hcy _ _ (chsC_at hy 4 (by omega))
        have c0 : w4.cell? ⟨w.heap.size,0,none⟩=some (.int .i64 c.a):=HQ.out.cell 0
        have c1 : w4.cell? ⟨w.heap.size,1,none⟩=some (.int .i64 c.s):=HQ.out.cell 1
        have c2 : w4.cell? ⟨w.heap.size,2,none⟩=some (.int .i64 c.st):=HQ.out.cell 2
        have c3 : w4.cell? ⟨w.heap.size,3,none⟩=some (.slice c.DA c.deps.length c.DC):=HQ.out.cell 3
        have c4 : w4.cell? ⟨w.heap.size,4,none⟩=some (.slice c.OA c.ops.length c.OC):=HQ.out.cell 4
        have hk0 : decide (0≤(kk : Int))=true:=decide_eq_true (by omega)
        have hD4 : ∀ (V : World),Below w.heap.size w V→∀ z : ChD,ChIn D w z→ChIn (fun k=>k < V.heap.size) V z:=fun V hv z hz=>(hz.keep fun k hk=>hv.block k (HD.out k hk).1).more fun k hk=>Nat.lt_of_lt_of_le (HD.out k hk).1 hv.size
        have C3:=sSame_any y c w4.drew (hD4 _ HW.out.drew y (HB.out.inL y HY.out)) (hD4 _ HW.out.drew c HC.out) (good_encG ((HI.out.bk.err y HY.out).1) ((HI.out.bk.err y HY.out).2)) (good_encG HE0.out HV.out)
        clear hcy hy hfc hD4
        generalize L.length=nX at *
        go_wp2_with fail
        refine wp_region_still_tail 5 (by kernel_rfl) (by kernel_rfl) ?_
        simp only [List.take_succ_cons,List.take_zero,List.drop_succ_cons,List.drop_zero]
        repeat (first | (refine wpStill_want rfl (fun K hK=>?_);go_simp;refine hK _ ?_;clear hK K) | (refine wpStill_skip rfl ?_;go_frame))
        refine wpStill_nil ?_
        change wpList _ _ _ _ _ w4.drew
        replace HW : Hid (Below w.heap.size w w4.drew):=HW.out.drew
        generalize w4.drew=w5 at HW C3 ⊢
        clear y0 y1 y2 y3 y4 c0 c1 c2 c3 c4 HQ HR4
        unfold ChD.v at C3
        go_wp2_with fail
        go_at_call 52
        refine C3.mono ?_
        rintro e w6 ⟨rfl,hb⟩
        replace HW : Hid (Below w.heap.size w w6):=HW.out.trans (hb.mono HW.out.size)
        clear C3 hb
        by_cases hs : y.enc=c.enc
        · have HSE : Hid (sameE y c=0):=by show _=_;unfold sameE;rw [if_pos hs]
          rw [decide_eq_true hs]
          clear hs
          go_wp2_with fail
          go_ret
          exact ⟨by rw [HT.out,HSE.out];rfl,by rw [HT.out];exact ⟨F,_,_,HB.out.below HW.out,fun k hk=>.inl hk,chg_of HW.out⟩⟩
        · have HSE : Hid (sameE y c=8):=by show _=_;unfold sameE;rw [if_neg hs]
          rw [decide_eq_false hs]
          clear hs
          go_wp2_with fail
          go_ret
          exact ⟨by rw [HT.out,HSE.out];rfl,by rw [HT.out];exact ⟨F,_,_,HB.out.below HW.out,fun k hk=>.inl hk,chg_of HW.out⟩⟩
    · skip
      have c0 : wr.cell? ⟨w.heap.size,0,none⟩=some (.int .i64 c.a):=HQ.out.cell 0
      have c1 : wr.cell? ⟨w.heap.size,1,none⟩=some (.int .i64 c.s):=HQ.out.cell 1
      have c2 : wr.cell? ⟨w.heap.size,2,none⟩=some (.int .i64 c.st):=HQ.out.cell 2
      have c3 : wr.cell? ⟨w.heap.size,3,none⟩=some (.slice c.DA c.deps.length c.DC):=HQ.out.cell 3
      have c4 : wr.cell? ⟨w.heap.size,4,none⟩=some (.slice c.OA c.ops.length c.OC):=HQ.out.cell 4
      go_wp2_with fail
      go_at_call 27
      refine (sref_any _ _ _ _ _ _ rfl rfl rfl).mono ?_
      rintro e w3 ⟨rfl,hb⟩
      replace HQ:=Lib.hid (HQ.out.keep (hb.block _ HQ.out.lt))
      replace HW : Hid (Below w.heap.size w w3):=HW.out.trans (hb.mono HW.out.size)
      clear hb
      clear c0 c1 c2 c3 c4
      have HR3 : Hid (Reads (fun k=>k < w3.heap.size) w3 5 AW W.length (chsC W)):=reads_below HRW.out HW.out
      have C2:=sfind_any W c.rf (fun k=>k < w3.heap.size) AW cW w3 HR3.out (fun _ h=>h) (by have:=HI.out.most;omega)
      go_wp2_with fail
      go_at_call 26
      refine C2.mono ?_
      rintro e w4 ⟨j,rfl,hj,hb⟩
      have HR4:=Lib.hid (reads_below HR3.out hb)
      replace HQ:=Lib.hid (HQ.out.keep (hb.block _ HQ.out.lt))
      replace HW : Hid (Below w.heap.size w w4):=HW.out.trans (hb.mono HW.out.size)
      clear hb
      clear C2 HR3
      rcases hj with ⟨rfl,hno⟩ | ⟨kk,y,rfl,hy,hfc⟩
      · (replace HN1 : Hid (1≤2→findC L c.rf=none):=fun _=>HN1.out (by omega));(replace HN2 : Hid (2≤2→findC W c.rf=none):=fun _=>findC_none.2 hno)
        clear hno
        go_wp2_with fail
        go_roundw
        case rel=>exact ⟨2,by go_num,by omega,HN1,HN2,HQ,HW⟩
        case measure=>simp [intOf]
      · have HY:=Lib.hid (findC_some hfc).1
        have HT : Hid (takeP L W c=((L,W),sameE y c)):=takeP_W HE0.out (HN1.out (by omega)) hfc
        obtain ⟨b,o,hA,-,hcy⟩:=HR4.out.at_ (by have:=(List.getElem?_eq_some_iff.1 hy).1;omega) (by have:=HI.out.most;omega)
        subst hA
        have hkn : kk < W.length:=(List.getElem?_eq_some_iff.1 hy).1
        have y0 : w4.cell? ⟨b,o+kk*5,none⟩=some (.int .i64 y.a):=hcy _ _ (chsC_at hy 0 (by omega))
        have y1 : w4.cell? ⟨b,o+kk*5+1,none⟩=some (.int .i64 y.s):=hcy _ _ (chsC_at hy 1 (by omega))
        have y2 : w4.cell? ⟨b,o+kk*5+2,none⟩=some (.int .i64 y.st):=hcy _ _ (chsC_at hy 2 (by omega))
        have y3 : w4.cell? ⟨b,o+kk*5+3,none⟩=some (.slice y.DA y.deps.length y.DC):=hcy _ _ (chsC_at hy 3 (by omega))
        have y4 : w4.cell? ⟨b,o+kk*5+4,none⟩=some (.slice y.OA y.ops.length y.OC):=hcy _ _ (chsC_at hy 4 (by omega))
        have c0 : w4.cell? ⟨w.heap.size,0,none⟩=some (.int .i64 c.a):=HQ.out.cell 0
        have c1 : w4.cell? ⟨w.heap.size,1,none⟩=some (.int .i64 c.s):=HQ.out.cell 1
        have c2 : w4.cell? ⟨w.heap.size,2,none⟩=some (.int .i64 c.st):=HQ.out.cell 2
        have c3 : w4.cell? ⟨w.heap.size,3,none⟩=some (.slice c.DA c.deps.length c.DC):=HQ.out.cell 3
        have c4 : w4.cell? ⟨w.heap.size,4,none⟩=some (.slice c.OA c.ops.length c.OC):=HQ.out.cell 4
        have hk0 : decide (0≤(kk : Int))=true:=decide_eq_true (by omega)
        have hD4 : ∀ (V : World),Below w.heap.size w V→∀ z : ChD,ChIn D w z→ChIn (fun k=>k < V.heap.size) V z:=fun V hv z hz=>(hz.keep fun k hk=>hv.block k (HD.out k hk).1).more fun k hk=>Nat.lt_of_lt_of_le (HD.out k hk).1 hv.size
        have C3:=sSame_any y c w4.drew (hD4 _ HW.out.drew y (HB.out.inW y HY.out)) (hD4 _ HW.out.drew c HC.out) (good_encG ((HI.out.good y HY.out).1) ((HI.out.good y HY.out).2)) (good_encG HE0.out HV.out)
        clear hcy hy hfc hD4
        generalize W.length=nX at *
        go_wp2_with fail
        refine wp_region_still_tail 5 (by kernel_rfl) (by kernel_rfl) ?_
        simp only [List.take_succ_cons,List.take_zero,List.drop_succ_cons,List.drop_zero]
        repeat (first | (refine wpStill_want rfl (fun K hK=>?_);go_simp;refine hK _ ?_;clear hK K) | (refine wpStill_skip rfl ?_;go_frame))
        refine wpStill_nil ?_
        change wpList _ _ _ _ _ w4.drew
        replace HW : Hid (Below w.heap.size w w4.drew):=HW.out.drew
        generalize w4.drew=w5 at HW C3 ⊢
        clear y0 y1 y2 y3 y4 c0 c1 c2 c3 c4 HQ HR4
        unfold ChD.v at C3
        go_wp2_with fail
        go_at_call 52
        refine C3.mono ?_
        rintro e w6 ⟨rfl,hb⟩
        replace HW : Hid (Below w.heap.size w w6):=HW.out.trans (hb.mono HW.out.size)
        clear C3 hb
        by_cases hs : y.enc=c.enc
        · have HSE : Hid (sameE y c=0):=by show _=_;unfold sameE;rw [if_pos hs]
          rw [decide_eq_true hs]
          clear hs
          go_wp2_with fail
          go_ret
          exact ⟨by rw [HT.out,HSE.out];rfl,by rw [HT.out];exact ⟨F,_,_,HB.out.below HW.out,fun k hk=>.inl hk,chg_of HW.out⟩⟩
        · have HSE : Hid (sameE y c=8):=by show _=_;unfold sameE;rw [if_neg hs]
          rw [decide_eq_false hs]
          clear hs
          go_wp2_with fail
          go_ret
          exact ⟨by rw [HT.out,HSE.out];rfl,by rw [HT.out];exact ⟨F,_,_,HB.out.below HW.out,fun k hk=>.inl hk,chg_of HW.out⟩⟩
    · have hN1:=HN1.out (by omega)
      have hN2:=HN2.out (by omega)
      have HTN:=Lib.hid (takeP_n (L:=L) (W:=W) HE0.out hN1 hN2)
      have HNR:=Lib.hid (And.intro (findC_none.1 hN1) (findC_none.1 hN2))
      have hmost : L.length+W.length≤120:=HI.out.most
      have hwr : IntKind.i64.wrap ((L.length : Int)+W.length)=(L.length : Int)+W.length:=IntWalk.i64_in _ (by omega)
      replace HN1:=Lib.hid hN1
      replace HN2:=Lib.hid hN2
      clear hN1 hN2
      by_cases h120 : 120≤L.length+W.length
      · have HT : Hid (takeP L W c=((L,W),4)):=by show _=_;rw [HTN.out,if_pos h120]
        have hd : decide ((120 : Int)≤(L.length : Int)+W.length)=true:=decide_eq_true (by omega)
        clear HTN
        generalize L.length=nL at *
        generalize W.length=nW at *
        go_wp2_with fail
        go_quiet (fail)
        change Exit.then _ _ _ _ (wr.drewN nq)
        replace HW : Hid (Below w.heap.size w (wr.drewN nq)):=below_drewN HW.out nq
        generalize wr.drewN nq=w3 at HW ⊢
        go_wp2_with fail
        go_ret
        exact ⟨by rw [HT.out];rfl,by rw [HT.out];exact ⟨F,_,_,HB.out.below HW.out,fun k hk=>.inl hk,chg_of HW.out⟩⟩
      · have HT : Hid (takeP L W c=if readyP L c=false then ((L,W++[c]),0) else if fitsP L c=false then ((L,W),7) else (settle W.length (L++[c]) W,0)):=by show _=_;rw [HTN.out,if_neg h120]
        have hd : decide ((120 : Int)≤(L.length : Int)+W.length)=false:=decide_eq_false (by omega)
        clear HTN
        have hml:=hmost
        go_wp2_with fail
        go_quiet (fail)
        change Exit.then _ _ _ _ (wr.drewN nq)
        replace HW : Hid (Below w.heap.size w (wr.drewN nq)):=below_drewN HW.out nq
        replace HQ : Hid (Blk (wr.drewN nq) w.heap.size 82 #[.int .i64 c.a,.int .i64 c.s,.int .i64 c.st,.slice c.DA c.deps.length c.DC,.slice c.OA c.ops.length c.OC]):=HQ.out
        generalize wr.drewN nq=w3 at HW HQ ⊢
        clear g0 g1 hd hwr
        have c0 : w3.cell? ⟨w.heap.size,0,none⟩=some (.int .i64 c.a):=HQ.out.cell 0
        have c1 : w3.cell? ⟨w.heap.size,1,none⟩=some (.int .i64 c.s):=HQ.out.cell 1
        have c2 : w3.cell? ⟨w.heap.size,2,none⟩=some (.int .i64 c.st):=HQ.out.cell 2
        have c3 : w3.cell? ⟨w.heap.size,3,none⟩=some (.slice c.DA c.deps.length c.DC):=HQ.out.cell 3
        have c4 : w3.cell? ⟨w.heap.size,4,none⟩=some (.slice c.OA c.ops.length c.OC):=HQ.out.cell 4
        have hD3 : ∀ (V : World),Below w.heap.size w V→∀ z : ChD,ChIn D w z→ChIn (fun k=>k < V.heap.size) V z:=fun V hv z hz=>(hz.keep fun k hk=>hv.block k (HD.out k hk).1).more fun k hk=>Nat.lt_of_lt_of_le (HD.out k hk).1 hv.size
        have C2:=sready_any L W c g w3 (HB.out.below HW.out).br (hD3 _ HW.out c HC.out) (by omega)
        unfold ChD.v at C2
        clear hD3
        go_wp2_with fail
        go_at_call 53
        refine C2.mono ?_
        rintro e w4 ⟨rfl,hb⟩
        replace HQ:=Lib.hid (HQ.out.keep (hb.block _ HQ.out.lt))
        replace HW : Hid (Below w.heap.size w w4):=HW.out.trans (hb.mono HW.out.size)
        clear hb
        clear C2 c0 c1 c2 c3 c4
        obtain ⟨i0,hi,hz0,hz1,hz2⟩:=info_parts infoCh
        cases hrd : readyP L c with
        | false =>
          have HT2 : Hid (takeP L W c=((L,W++[c]),0)):=by show _=_;rw [HT.out,if_pos hrd]
          clear HT hrd
          go_wp2_with fail
          have hBM:=HB.out.below HW.out
          have g1 : w4.cell? ⟨g,1,none⟩=some (.slice AW W.length cW):=hBM.blk.cell 1
          have hglt : g < w4.heap.size:=hBM.blk.lt
          have hqlt : w.heap.size < w4.heap.size:=HQ.out.lt
          have c0 : w4.cell? ⟨w.heap.size,0,none⟩=some (.int .i64 c.a):=HQ.out.cell 0
          have c1 : w4.cell? ⟨w.heap.size,1,none⟩=some (.int .i64 c.s):=HQ.out.cell 1
          have c2 : w4.cell? ⟨w.heap.size,2,none⟩=some (.int .i64 c.st):=HQ.out.cell 2
          have c3 : w4.cell? ⟨w.heap.size,3,none⟩=some (.slice c.DA c.deps.length c.DC):=HQ.out.cell 3
          have c4 : w4.cell? ⟨w.heap.size,4,none⟩=some (.slice c.OA c.ops.length c.OC):=HQ.out.cell 4
          have HBB : BM D F w4.drew g L W _ _:=hBM.below (Below.refl _ w4).drew
          have hcD : ChIn D w4.drew c:=HC.out.keep fun k hk=>HW.out.drew.block k (HD.out k hk).1
          clear hBM
          skip
          refine wp_region_any (by kernel_rfl) ?_
          change wpAny _ _ _ _ _ _ _ (World.drew _)
          refine wpAny_take (i:=0) (v:=?_) rfl (by kernel_rfl) (by kernel_rfl) (by kernel_rfl) (fun _ _ _ h=>h) (Or.inl ⟨by rfl,?_⟩) ?_
          rotate_left
          · (intro w;go_simp;try with_reducible rfl)
          try simp only [Act.put,List.setIfInBounds_toArray,List.set_cons_zero,List.set_cons_succ]
          refine wpAny_take (i:=1) (v:=?_) rfl (by kernel_rfl) (by kernel_rfl) (by kernel_rfl) (fun _ _ _ h=>h) (Or.inl ⟨by rfl,?_⟩) ?_
          rotate_left
          · (intro w;go_simp;try with_reducible rfl)
          try simp only [Act.put,List.setIfInBounds_toArray,List.set_cons_zero,List.set_cons_succ]
          refine wpAny_take (i:=2) (v:=?_) rfl (by kernel_rfl) (by kernel_rfl) (by kernel_rfl) (fun _ _ _ h=>h) (Or.inl ⟨by rfl,?_⟩) ?_
          rotate_left
          · (intro w;go_simp;try with_reducible rfl)
          try simp only [Act.put,List.setIfInBounds_toArray,List.set_cons_zero,List.set_cons_succ]
          refine wpAny_take (i:=3) (v:=?_) rfl (by kernel_rfl) (by kernel_rfl) (by kernel_rfl) (fun _ _ _ h=>h) (Or.inl ⟨by rfl,?_⟩) ?_
          rotate_left
          · (intro w;go_simp;try with_reducible rfl)
          try simp only [Act.put,List.setIfInBounds_toArray,List.set_cons_zero,List.set_cons_succ]
          refine wpAny_ready (rs:=[4,5]) (by kernel_rfl) (by simp) ?_
          refine AllReady.cons rfl (fun K hK=>?_) (AllReady.cons rfl (fun K hK=>?_) AllReady.nil)
          · skip
            go_simp
            refine hK _ _ ?_
            clear hK K
            try simp only [Act.put,List.setIfInBounds_toArray,List.set_cons_zero,List.set_cons_succ]
            refine wpAny_ready (rs:=[5]) (by kernel_rfl) (by simp) ?_
            refine AllReady.cons rfl (fun K hK=>?_) AllReady.nil
            go_simp
            refine hK _ _ ?_
            clear hK K
            try simp only [Act.put,List.setIfInBounds_toArray,List.set_cons_zero,List.set_cons_succ]
            refine wpAny_ready (rs:=[6]) (by kernel_rfl) (by simp) ?_
            refine AllReady.cons rfl (fun K hK=>?_) AllReady.nil
            go_simp
            refine hK _ _ ?_
            clear hK K
            try simp only [Act.put,List.setIfInBounds_toArray,List.set_cons_zero,List.set_cons_succ]
            refine wpAny_ready (rs:=[7]) (by kernel_rfl) (by simp) ?_
            refine AllReady.cons rfl (fun K hK=>?_) AllReady.nil
            refine step_append_any _ (by rfl) (.tmp 68) (.tmp 70) 22 (by rfl) 0 82 i0 _ 5 72 Tryz.underlying22 hi hz0 hz1 hz2 rfl (by omega) (.slice AW W.length cW) (W.length) (chsC W) (by rfl) ((show World.ownsRow w4.drew 0 _ 5 _ (W.length) (chsC W) from HBB.oW).alloc _) _ _ 1 1 (ChD.cells c) (by rfl) (blk_reads (by exact Blk.new w4.drew _ #[.int .i64 c.a,.int .i64 c.s,.int .i64 c.st,.slice c.DA c.deps.length c.DC,.slice c.OA c.ops.length c.OC]) (n:=5) rfl) (by intro u hu;exact chsC_one [c] u (by simpa [chsC] using hu)) (by simp only [maxLen];omega) (by omega) (Nat.zero_le _) ?_
            intro v9 w9 ho9 hg9 hat9
            obtain ⟨B9,C9,hv9,-⟩:=ho9.form (by omega)
            subst hv9
            refine hK _ _ ?_
            clear hK K
            try simp only [Act.put,List.setIfInBounds_toArray,List.set_cons_zero,List.set_cons_succ]
            have hb9 : Blk w9 g 34 _:=(HBB.blk.keep (Below.heap_alloc w4.drew _ _ HBB.blk.lt)).grown hg9 HBB.neg.2
            have t1 : w9.cell? ⟨g,1,none⟩=some (.slice AW W.length cW):=hb9.cell 1
            have t2 : w9.frozen? ⟨g,1,none⟩=false:=hb9.frozen 1
            refine wpAny_take (i:=8) (v:=?_) rfl (by kernel_rfl) (by kernel_rfl) (by kernel_rfl) (fun _ _ _ h=>h) (Or.inl ⟨by rfl,?_⟩) ?_
            rotate_left
            · (intro w;go_simp;try with_reducible rfl)
            try simp only [Act.put,List.setIfInBounds_toArray,List.set_cons_zero,List.set_cons_succ]
            refine wpAny_take (i:=9) (v:=?_) rfl (by kernel_rfl) (by kernel_rfl) (by kernel_rfl) (fun _ _ _ h=>h) (Or.inl ⟨by rfl,?_⟩) ?_
            rotate_left
            · (intro w;go_simp;try with_reducible rfl)
            try simp only [Act.put,List.setIfInBounds_toArray,List.set_cons_zero,List.set_cons_succ]
            refine wpAny_ready (rs:=[10]) (by kernel_rfl) (by simp) ?_
            refine AllReady.cons rfl (fun K hK=>?_) AllReady.nil
            go_simp
            refine hK _ _ ?_
            clear hK K
            try simp only [Act.put,List.setIfInBounds_toArray,List.set_cons_zero,List.set_cons_succ]
            refine wpAny_done (by kernel_rfl) ?_ _
            obtain ⟨F9,hB9,hF9,hC9⟩:=HBB.pushW (o:=_) ho9 hg9 hat9 hcD
            go_wp2_with fail
            go_ret
            exact ⟨by rw [HT2.out];rfl,by rw [HT2.out];exact ⟨F9,_,_,hB9,fun k hk=>(hF9 k hk).imp id fun h=>Nat.le_trans HW.out.drew.size h,(chg_of HW.out.drew).trans hC9 fun _ _ h=>h⟩⟩
          · skip
            go_simp
            refine hK _ _ ?_
            clear hK K
            try simp only [Act.put,List.setIfInBounds_toArray,List.set_cons_zero,List.set_cons_succ]
            refine wpAny_ready (rs:=[4,6]) (by kernel_rfl) (by simp) ?_
            refine AllReady.cons rfl (fun K hK=>?_) (AllReady.cons rfl (fun K hK=>?_) AllReady.nil)
            · skip
              go_simp
              refine hK _ _ ?_
              clear hK K
              try simp only [Act.put,List.setIfInBounds_toArray,List.set_cons_zero,List.set_cons_succ]
              refine wpAny_ready (rs:=[6]) (by kernel_rfl) (by simp) ?_
              refine AllReady.cons rfl (fun K hK=>?_) AllReady.nil
              go_simp
              refine hK _ _ ?_
              clear hK K
              try simp only [Act.put,List.setIfInBounds_toArray,List.set_cons_zero,List.set_cons_succ]
              refine wpAny_ready (rs:=[7]) (by kernel_rfl) (by simp) ?_
              refine AllReady.cons rfl (fun K hK=>?_) AllReady.nil
              refine step_append_any _ (by rfl) (.tmp 68) (.tmp 70) 22 (by rfl) 0 82 i0 _ 5 72 Tryz.underlying22 hi hz0 hz1 hz2 rfl (by omega) (.slice AW W.length cW) (W.length) (chsC W) (by rfl) ((show World.ownsRow w4.drew 0 _ 5 _ (W.length) (chsC W) from HBB.oW).alloc _) _ _ 1 1 (ChD.cells c) (by rfl) (blk_reads (by exact Blk.new w4.drew _ #[.int .i64 c.a,.int .i64 c.s,.int .i64 c.st,.slice c.DA c.deps.length c.DC,.slice c.OA c.ops.length c.OC]) (n:=5) rfl) (by intro u hu;exact chsC_one [c] u (by simpa [chsC] using hu)) (by simp only [maxLen];omega) (by omega) (Nat.zero_le _) ?_
              intro v9 w9 ho9 hg9 hat9
              obtain ⟨B9,C9,hv9,-⟩:=ho9.form (by omega)
              subst hv9
              refine hK _ _ ?_
              clear hK K
              try simp only [Act.put,List.setIfInBounds_toArray,List.set_cons_zero,List.set_cons_succ]
              have hb9 : Blk w9 g 34 _:=(HBB.blk.keep (Below.heap_alloc w4.drew _ _ HBB.blk.lt)).grown hg9 HBB.neg.2
              have t1 : w9.cell? ⟨g,1,none⟩=some (.slice AW W.length cW):=hb9.cell 1
              have t2 : w9.frozen? ⟨g,1,none⟩=false:=hb9.frozen 1
              refine wpAny_take (i:=8) (v:=?_) rfl (by kernel_rfl) (by kernel_rfl) (by kernel_rfl) (fun _ _ _ h=>h) (Or.inl ⟨by rfl,?_⟩) ?_
              rotate_left
              · (intro w;go_simp;try with_reducible rfl)
              try simp only [Act.put,List.setIfInBounds_toArray,List.set_cons_zero,List.set_cons_succ]
              refine wpAny_take (i:=9) (v:=?_) rfl (by kernel_rfl) (by kernel_rfl) (by kernel_rfl) (fun _ _ _ h=>h) (Or.inl ⟨by rfl,?_⟩) ?_
              rotate_left
              · (intro w;go_simp;try with_reducible rfl)
              try simp only [Act.put,List.setIfInBounds_toArray,List.set_cons_zero,List.set_cons_succ]
              refine wpAny_ready (rs:=[10]) (by kernel_rfl) (by simp) ?_
              refine AllReady.cons rfl (fun K hK=>?_) AllReady.nil
              go_simp
              refine hK _ _ ?_
              clear hK K
              try simp only [Act.put,List.setIfInBounds_toArray,List.set_cons_zero,List.set_cons_succ]
              refine wpAny_done (by kernel_rfl) ?_ _
              obtain ⟨F9,hB9,hF9,hC9⟩:=HBB.pushW (o:=_) ho9 hg9 hat9 hcD
              go_wp2_with fail
              go_ret
              exact ⟨by rw [HT2.out];rfl,by rw [HT2.out];exact ⟨F9,_,_,hB9,fun k hk=>(hF9 k hk).imp id fun h=>Nat.le_trans HW.out.drew.size h,(chg_of HW.out.drew).trans hC9 fun _ _ h=>h⟩⟩
            · skip
              go_simp
              refine hK _ _ ?_
              clear hK K
              try simp only [Act.put,List.setIfInBounds_toArray,List.set_cons_zero,List.set_cons_succ]
              refine wpAny_ready (rs:=[4]) (by kernel_rfl) (by simp) ?_
              refine AllReady.cons rfl (fun K hK=>?_) AllReady.nil
              go_simp
              refine hK _ _ ?_
              clear hK K
              try simp only [Act.put,List.setIfInBounds_toArray,List.set_cons_zero,List.set_cons_succ]
              refine wpAny_ready (rs:=[7]) (by kernel_rfl) (by simp) ?_
              refine AllReady.cons rfl (fun K hK=>?_) AllReady.nil
              refine step_append_any _ (by rfl) (.tmp 68) (.tmp 70) 22 (by rfl) 0 82 i0 _ 5 72 Tryz.underlying22 hi hz0 hz1 hz2 rfl (by omega) (.slice AW W.length cW) (W.length) (chsC W) (by rfl) ((show World.ownsRow w4.drew 0 _ 5 _ (W.length) (chsC W) from HBB.oW).alloc _) _ _ 1 1 (ChD.cells c) (by rfl) (blk_reads (by exact Blk.new w4.drew _ #[.int .i64 c.a,.int .i64 c.s,.int .i64 c.st,.slice c.DA c.deps.length c.DC,.slice c.OA c.ops.length c.OC]) (n:=5) rfl) (by intro u hu;exact chsC_one [c] u (by simpa [chsC] using hu)) (by simp only [maxLen];omega) (by omega) (Nat.zero_le _) ?_
              intro v9 w9 ho9 hg9 hat9
              obtain ⟨B9,C9,hv9,-⟩:=ho9.form (by omega)
              subst hv9
              refine hK _ _ ?_
              clear hK K
              try simp only [Act.put,List.setIfInBounds_toArray,List.set_cons_zero,List.set_cons_succ]
              have hb9 : Blk w9 g 34 _:=(HBB.blk.keep (Below.heap_alloc w4.drew _ _ HBB.blk.lt)).grown hg9 HBB.neg.2
              have t1 : w9.cell? ⟨g,1,none⟩=some (.slice AW W.length cW):=hb9.cell 1
              have t2 : w9.frozen? ⟨g,1,none⟩=false:=hb9.frozen 1
              refine wpAny_take (i:=8) (v:=?_) rfl (by kernel_rfl) (by kernel_rfl) (by kernel_rfl) (fun _ _ _ h=>h) (Or.inl ⟨by rfl,?_⟩) ?_
              rotate_left
              · (intro w;go_simp;try with_reducible rfl)
              try simp only [Act.put,List.setIfInBounds_toArray,List.set_cons_zero,List.set_cons_succ]
              refine wpAny_take (i:=9) (v:=?_) rfl (by kernel_rfl) (by kernel_rfl) (by kernel_rfl) (fun _ _ _ h=>h) (Or.inl ⟨by rfl,?_⟩) ?_
              rotate_left
              · (intro w;go_simp;try with_reducible rfl)
              try simp only [Act.put,List.setIfInBounds_toArray,List.set_cons_zero,List.set_cons_succ]
              refine wpAny_ready (rs:=[10]) (by kernel_rfl) (by simp) ?_
              refine AllReady.cons rfl (fun K hK=>?_) AllReady.nil
              go_simp
              refine hK _ _ ?_
              clear hK K
              try simp only [Act.put,List.setIfInBounds_toArray,List.set_cons_zero,List.set_cons_succ]
              refine wpAny_done (by kernel_rfl) ?_ _
              obtain ⟨F9,hB9,hF9,hC9⟩:=HBB.pushW (o:=_) ho9 hg9 hat9 hcD
              go_wp2_with fail
              go_ret
              exact ⟨by rw [HT2.out];rfl,by rw [HT2.out];exact ⟨F9,_,_,hB9,fun k hk=>(hF9 k hk).imp id fun h=>Nat.le_trans HW.out.drew.size h,(chg_of HW.out.drew).trans hC9 fun _ _ h=>h⟩⟩
        | true =>
          have HT2 : Hid (takeP L W c=if fitsP L c=false then ((L,W),7) else (settle W.length (L++[c]) W,0)):=by show _=_;rw [HT.out,hrd,if_neg (by simp)]
          have HRD:=Lib.hid hrd
          clear HT hrd
          have c0 : w4.cell? ⟨w.heap.size,0,none⟩=some (.int .i64 c.a):=HQ.out.cell 0
          have c1 : w4.cell? ⟨w.heap.size,1,none⟩=some (.int .i64 c.s):=HQ.out.cell 1
          have c2 : w4.cell? ⟨w.heap.size,2,none⟩=some (.int .i64 c.st):=HQ.out.cell 2
          have c3 : w4.cell? ⟨w.heap.size,3,none⟩=some (.slice c.DA c.deps.length c.DC):=HQ.out.cell 3
          have c4 : w4.cell? ⟨w.heap.size,4,none⟩=some (.slice c.OA c.ops.length c.OC):=HQ.out.cell 4
          have C3:=sfits_any L W c g w4 (HB.out.below HW.out).br ((HC.out.keep fun k hk=>HW.out.block k (HD.out k hk).1).more fun k hk=>Nat.lt_of_lt_of_le (HD.out k hk).1 HW.out.size) HI.out.bk.top HI.out.bk.nodup (fun x hx=>err_ok (HI.out.bk.err x hx).1) (by omega) HE0.out
          unfold ChD.v at C3
          go_wp2_with fail
          go_at_call 54
          refine C3.mono ?_
          rintro e w5 ⟨rfl,hb⟩
          replace HQ:=Lib.hid (HQ.out.keep (hb.block _ HQ.out.lt))
          replace HW : Hid (Below w.heap.size w w5):=HW.out.trans (hb.mono HW.out.size)
          clear hb
          clear C3 c0 c1 c2 c3 c4
          cases hft : fitsP L c with
          | false =>
            have HT3 : Hid (takeP L W c=((L,W),7)):=by show _=_;rw [HT2.out,if_pos hft]
            go_wp2_with fail
            go_ret
            exact ⟨by rw [HT3.out];rfl,by rw [HT3.out];exact ⟨F,_,_,HB.out.below HW.out,fun k hk=>.inl hk,chg_of HW.out⟩⟩
          | true =>
            have HT3 : Hid (takeP L W c=(settle W.length (L++[c]) W,0)):=by show _=_;rw [HT2.out,if_neg (by rw [hft];simp)]
            have HI2 : Hid (Inv (L++[c]) W):=HI.out.start HE0.out HV.out HN1.out HN2.out HRD.out hft (by omega)
            clear hft HT2
            have hBM:=HB.out.below HW.out
            have g0 : w5.cell? ⟨g,0,none⟩=some (.slice AL L.length cL):=hBM.blk.cell 0
            have hglt : g < w5.heap.size:=hBM.blk.lt
            have hqlt : w.heap.size < w5.heap.size:=HQ.out.lt
            have c0 : w5.cell? ⟨w.heap.size,0,none⟩=some (.int .i64 c.a):=HQ.out.cell 0
            have c1 : w5.cell? ⟨w.heap.size,1,none⟩=some (.int .i64 c.s):=HQ.out.cell 1
            have c2 : w5.cell? ⟨w.heap.size,2,none⟩=some (.int .i64 c.st):=HQ.out.cell 2
            have c3 : w5.cell? ⟨w.heap.size,3,none⟩=some (.slice c.DA c.deps.length c.DC):=HQ.out.cell 3
            have c4 : w5.cell? ⟨w.heap.size,4,none⟩=some (.slice c.OA c.ops.length c.OC):=HQ.out.cell 4
            have HBB : BM D F w5.drew g L W _ _:=hBM.below (Below.refl _ w5).drew
            have hcD : ChIn D w5.drew c:=HC.out.keep fun k hk=>HW.out.drew.block k (HD.out k hk).1
            clear hBM
            go_upto_region 25 with fail
            go_cut [] (fun wc=>∃ VL1 F1,Hid (BM D F1 wc g (L++[c]) W VL1 (.slice AW W.length cW))∧Hid (∀ k,F1 k→F k∨w.heap.size≤k)∧Hid (Chg F w wc))
            case first =>
             skip
             refine wp_region_any (by kernel_rfl) ?_
             change wpAny _ _ _ _ _ _ _ (World.drew _)
             refine wpAny_take (i:=0) (v:=?_) rfl (by kernel_rfl) (by kernel_rfl) (by kernel_rfl) (fun _ _ _ h=>h) (Or.inl ⟨by rfl,?_⟩) ?_
             rotate_left
             · (intro w;go_simp;try with_reducible rfl)
             try simp only [Act.put,List.setIfInBounds_toArray,List.set_cons_zero,List.set_cons_succ]
             refine wpAny_take (i:=1) (v:=?_) rfl (by kernel_rfl) (by kernel_rfl) (by kernel_rfl) (fun _ _ _ h=>h) (Or.inl ⟨by rfl,?_⟩) ?_
             rotate_left
             · (intro w;go_simp;try with_reducible rfl)
             try simp only [Act.put,List.setIfInBounds_toArray,List.set_cons_zero,List.set_cons_succ]
             refine wpAny_take (i:=2) (v:=?_) rfl (by kernel_rfl) (by kernel_rfl) (by kernel_rfl) (fun _ _ _ h=>h) (Or.inl ⟨by rfl,?_⟩) ?_
             rotate_left
             · (intro w;go_simp;try with_reducible rfl)
             try simp only [Act.put,List.setIfInBounds_toArray,List.set_cons_zero,List.set_cons_succ]
             refine wpAny_take (i:=3) (v:=?_) rfl (by kernel_rfl) (by kernel_rfl) (by kernel_rfl) (fun _ _ _ h=>h) (Or.inl ⟨by rfl,?_⟩) ?_
             rotate_left
             · (intro w;go_simp;try with_reducible rfl)
             try simp only [Act.put,List.setIfInBounds_toArray,List.set_cons_zero,List.set_cons_succ]
             refine wpAny_ready (rs:=[4,5]) (by kernel_rfl) (by simp) ?_
             refine AllReady.cons rfl (fun K hK=>?_) (AllReady.cons rfl (fun K hK=>?_) AllReady.nil)
             · skip
               go_simp
               refine hK _ _ ?_
               clear hK K
               try simp only [Act.put,List.setIfInBounds_toArray,List.set_cons_zero,List.set_cons_succ]
               refine wpAny_ready (rs:=[5]) (by kernel_rfl) (by simp) ?_
               refine AllReady.cons rfl (fun K hK=>?_) AllReady.nil
               go_simp
               refine hK _ _ ?_
               clear hK K
               try simp only [Act.put,List.setIfInBounds_toArray,List.set_cons_zero,List.set_cons_succ]
               refine wpAny_ready (rs:=[6]) (by kernel_rfl) (by simp) ?_
               refine AllReady.cons rfl (fun K hK=>?_) AllReady.nil
               go_simp
               refine hK _ _ ?_
               clear hK K
               try simp only [Act.put,List.setIfInBounds_toArray,List.set_cons_zero,List.set_cons_succ]
               refine wpAny_ready (rs:=[7]) (by kernel_rfl) (by simp) ?_
               refine AllReady.cons rfl (fun K hK=>?_) AllReady.nil
               refine step_append_any _ (by rfl) (.tmp 83) (.tmp 85) 22 (by rfl) 0 82 i0 _ 5 72 Tryz.underlying22 hi hz0 hz1 hz2 rfl (by omega) (.slice AL L.length cL) (L.length) (chsC L) (by rfl) ((show World.ownsRow w5.drew 0 _ 5 _ (L.length) (chsC L) from HBB.oL).alloc _) _ _ 1 1 (ChD.cells c) (by rfl) (blk_reads (by exact Blk.new w5.drew _ #[.int .i64 c.a,.int .i64 c.s,.int .i64 c.st,.slice c.DA c.deps.length c.DC,.slice c.OA c.ops.length c.OC]) (n:=5) rfl) (by intro u hu;exact chsC_one [c] u (by simpa [chsC] using hu)) (by simp only [maxLen];omega) (by omega) (Nat.zero_le _) ?_
               intro v9 w9 ho9 hg9 hat9
               obtain ⟨B9,C9,hv9,-⟩:=ho9.form (by omega)
               subst hv9
               refine hK _ _ ?_
               clear hK K
               try simp only [Act.put,List.setIfInBounds_toArray,List.set_cons_zero,List.set_cons_succ]
               have hb9 : Blk w9 g 34 _:=(HBB.blk.keep (Below.heap_alloc w5.drew _ _ HBB.blk.lt)).grown hg9 HBB.neg.1
               have t1 : w9.cell? ⟨g,0,none⟩=some (.slice AL L.length cL):=hb9.cell 0
               have t2 : w9.frozen? ⟨g,0,none⟩=false:=hb9.frozen 0
               refine wpAny_take (i:=8) (v:=?_) rfl (by kernel_rfl) (by kernel_rfl) (by kernel_rfl) (fun _ _ _ h=>h) (Or.inl ⟨by rfl,?_⟩) ?_
               rotate_left
               · (intro w;go_simp;try with_reducible rfl)
               try simp only [Act.put,List.setIfInBounds_toArray,List.set_cons_zero,List.set_cons_succ]
               refine wpAny_take (i:=9) (v:=?_) rfl (by kernel_rfl) (by kernel_rfl) (by kernel_rfl) (fun _ _ _ h=>h) (Or.inl ⟨by rfl,?_⟩) ?_
               rotate_left
               · (intro w;go_simp;try with_reducible rfl)
               try simp only [Act.put,List.setIfInBounds_toArray,List.set_cons_zero,List.set_cons_succ]
               refine wpAny_ready (rs:=[10]) (by kernel_rfl) (by simp) ?_
               refine AllReady.cons rfl (fun K hK=>?_) AllReady.nil
               go_simp
               refine hK _ _ ?_
               clear hK K
               try simp only [Act.put,List.setIfInBounds_toArray,List.set_cons_zero,List.set_cons_succ]
               refine wpAny_done (by kernel_rfl) ?_ _
               obtain ⟨F9,hB9,hF9,hC9⟩:=HBB.pushL (o:=_) ho9 hg9 hat9 hcD
               go_wp2_with fail
               go_meet
               case rel=>exact ⟨_,F9,hB9,fun k hk=>(hF9 k hk).imp id fun h=>Nat.le_trans HW.out.drew.size h,(chg_of HW.out.drew).trans hC9 fun _ _ h=>h⟩
             · skip
               go_simp
               refine hK _ _ ?_
               clear hK K
               try simp only [Act.put,List.setIfInBounds_toArray,List.set_cons_zero,List.set_cons_succ]
               refine wpAny_ready (rs:=[4,6]) (by kernel_rfl) (by simp) ?_
               refine AllReady.cons rfl (fun K hK=>?_) (AllReady.cons rfl (fun K hK=>?_) AllReady.nil)
               · skip
                 go_simp
                 refine hK _ _ ?_
                 clear hK K
                 try simp only [Act.put,List.setIfInBounds_toArray,List.set_cons_zero,List.set_cons_succ]
                 refine wpAny_ready (rs:=[6]) (by kernel_rfl) (by simp) ?_
                 refine AllReady.cons rfl (fun K hK=>?_) AllReady.nil
                 go_simp
                 refine hK _ _ ?_
                 clear hK K
                 try simp only [Act.put,List.setIfInBounds_toArray,List.set_cons_zero,List.set_cons_succ]
                 refine wpAny_ready (rs:=[7]) (by kernel_rfl) (by simp) ?_
                 refine AllReady.cons rfl (fun K hK=>?_) AllReady.nil
                 refine step_append_any _ (by rfl) (.tmp 83) (.tmp 85) 22 (by rfl) 0 82 i0 _ 5 72 Tryz.underlying22 hi hz0 hz1 hz2 rfl (by omega) (.slice AL L.length cL) (L.length) (chsC L) (by rfl) ((show World.ownsRow w5.drew 0 _ 5 _ (L.length) (chsC L) from HBB.oL).alloc _) _ _ 1 1 (ChD.cells c) (by rfl) (blk_reads (by exact Blk.new w5.drew _ #[.int .i64 c.a,.int .i64 c.s,.int .i64 c.st,.slice c.DA c.deps.length c.DC,.slice c.OA c.ops.length c.OC]) (n:=5) rfl) (by intro u hu;exact chsC_one [c] u (by simpa [chsC] using hu)) (by simp only [maxLen];omega) (by omega) (Nat.zero_le _) ?_
                 intro v9 w9 ho9 hg9 hat9
                 obtain ⟨B9,C9,hv9,-⟩:=ho9.form (by omega)
                 subst hv9
                 refine hK _ _ ?_
                 clear hK K
                 try simp only [Act.put,List.setIfInBounds_toArray,List.set_cons_zero,List.set_cons_succ]
                 have hb9 : Blk w9 g 34 _:=(HBB.blk.keep (Below.heap_alloc w5.drew _ _ HBB.blk.lt)).grown hg9 HBB.neg.1
                 have t1 : w9.cell? ⟨g,0,none⟩=some (.slice AL L.length cL):=hb9.cell 0
                 have t2 : w9.frozen? ⟨g,0,none⟩=false:=hb9.frozen 0
                 refine wpAny_take (i:=8) (v:=?_) rfl (by kernel_rfl) (by kernel_rfl) (by kernel_rfl) (fun _ _ _ h=>h) (Or.inl ⟨by rfl,?_⟩) ?_
                 rotate_left
                 · (intro w;go_simp;try with_reducible rfl)
                 try simp only [Act.put,List.setIfInBounds_toArray,List.set_cons_zero,List.set_cons_succ]
                 refine wpAny_take (i:=9) (v:=?_) rfl (by kernel_rfl) (by kernel_rfl) (by kernel_rfl) (fun _ _ _ h=>h) (Or.inl ⟨by rfl,?_⟩) ?_
                 rotate_left
                 · (intro w;go_simp;try with_reducible rfl)
                 try simp only [Act.put,List.setIfInBounds_toArray,List.set_cons_zero,List.set_cons_succ]
                 refine wpAny_ready (rs:=[10]) (by kernel_rfl) (by simp) ?_
                 refine AllReady.cons rfl (fun K hK=>?_) AllReady.nil
                 go_simp
                 refine hK _ _ ?_
                 clear hK K
                 try simp only [Act.put,List.setIfInBounds_toArray,List.set_cons_zero,List.set_cons_succ]
                 refine wpAny_done (by kernel_rfl) ?_ _
                 obtain ⟨F9,hB9,hF9,hC9⟩:=HBB.pushL (o:=_) ho9 hg9 hat9 hcD
                 go_wp2_with fail
                 go_meet
                 case rel=>exact ⟨_,F9,hB9,fun k hk=>(hF9 k hk).imp id fun h=>Nat.le_trans HW.out.drew.size h,(chg_of HW.out.drew).trans hC9 fun _ _ h=>h⟩
               · skip
                 go_simp
                 refine hK _ _ ?_
                 clear hK K
                 try simp only [Act.put,List.setIfInBounds_toArray,List.set_cons_zero,List.set_cons_succ]
                 refine wpAny_ready (rs:=[4]) (by kernel_rfl) (by simp) ?_
                 refine AllReady.cons rfl (fun K hK=>?_) AllReady.nil
                 go_simp
                 refine hK _ _ ?_
                 clear hK K
                 try simp only [Act.put,List.setIfInBounds_toArray,List.set_cons_zero,List.set_cons_succ]
                 refine wpAny_ready (rs:=[7]) (by kernel_rfl) (by simp) ?_
                 refine AllReady.cons rfl (fun K hK=>?_) AllReady.nil
                 refine step_append_any _ (by rfl) (.tmp 83) (.tmp 85) 22 (by rfl) 0 82 i0 _ 5 72 Tryz.underlying22 hi hz0 hz1 hz2 rfl (by omega) (.slice AL L.length cL) (L.length) (chsC L) (by rfl) ((show World.ownsRow w5.drew 0 _ 5 _ (L.length) (chsC L) from HBB.oL).alloc _) _ _ 1 1 (ChD.cells c) (by rfl) (blk_reads (by exact Blk.new w5.drew _ #[.int .i64 c.a,.int .i64 c.s,.int .i64 c.st,.slice c.DA c.deps.length c.DC,.slice c.OA c.ops.length c.OC]) (n:=5) rfl) (by intro u hu;exact chsC_one [c] u (by simpa [chsC] using hu)) (by simp only [maxLen];omega) (by omega) (Nat.zero_le _) ?_
                 intro v9 w9 ho9 hg9 hat9
                 obtain ⟨B9,C9,hv9,-⟩:=ho9.form (by omega)
                 subst hv9
                 refine hK _ _ ?_
                 clear hK K
                 try simp only [Act.put,List.setIfInBounds_toArray,List.set_cons_zero,List.set_cons_succ]
                 have hb9 : Blk w9 g 34 _:=(HBB.blk.keep (Below.heap_alloc w5.drew _ _ HBB.blk.lt)).grown hg9 HBB.neg.1
                 have t1 : w9.cell? ⟨g,0,none⟩=some (.slice AL L.length cL):=hb9.cell 0
                 have t2 : w9.frozen? ⟨g,0,none⟩=false:=hb9.frozen 0
                 refine wpAny_take (i:=8) (v:=?_) rfl (by kernel_rfl) (by kernel_rfl) (by kernel_rfl) (fun _ _ _ h=>h) (Or.inl ⟨by rfl,?_⟩) ?_
                 rotate_left
                 · (intro w;go_simp;try with_reducible rfl)
                 try simp only [Act.put,List.setIfInBounds_toArray,List.set_cons_zero,List.set_cons_succ]
                 refine wpAny_take (i:=9) (v:=?_) rfl (by kernel_rfl) (by kernel_rfl) (by kernel_rfl) (fun _ _ _ h=>h) (Or.inl ⟨by rfl,?_⟩) ?_
                 rotate_left
                 · (intro w;go_simp;try with_reducible rfl)
                 try simp only [Act.put,List.setIfInBounds_toArray,List.set_cons_zero,List.set_cons_succ]
                 refine wpAny_ready (rs:=[10]) (by kernel_rfl) (by simp) ?_
                 refine AllReady.cons rfl (fun K hK=>?_) AllReady.nil
                 go_simp
                 refine hK _ _ ?_
                 clear hK K
                 try simp only [Act.put,List.setIfInBounds_toArray,List.set_cons_zero,List.set_cons_succ]
                 refine wpAny_done (by kernel_rfl) ?_ _
                 obtain ⟨F9,hB9,hF9,hC9⟩:=HBB.pushL (o:=_) ho9 hg9 hat9 hcD
                 go_wp2_with fail
                 go_meet
                 case rel=>exact ⟨_,F9,hB9,fun k hk=>(hF9 k hk).imp id fun h=>Nat.le_trans HW.out.drew.size h,(chg_of HW.out.drew).trans hC9 fun _ _ h=>h⟩
            case rest =>
             obtain ⟨VL0,F0,HB0,HF0,HC0⟩:=hcut
             clear HB HQ HW HRL HRW HI HRD HN1 HN2 hcD HBB g0 hglt hqlt c0 c1 c2 c3 c4 HC HV HE HE0
             obtain ⟨w9,hw9⟩ : ∃ w9,w9=wc:=⟨_,rfl⟩
             subst hw9
             go_wp2_with fail
             go_loopw [10,11,12,13,14] (fun _ _ _ _ _ wr=>∃ (L1 W1 : List ChD) (VL1 VW1 : Value) (F1 : Nat→Prop),Hid (BM D F1 wr g L1 W1 VL1 VW1)∧Hid (Inv L1 W1)∧Hid (settle W.length (L++[c]) W=settle W1.length L1 W1)∧Hid (∀ k,F1 k→F k∨w.heap.size≤k)∧Hid (Chg F w wr)) (fun _ _ _ _ _ wr=>wlen wr g)
             case atStart=>exact ⟨_,_,_,_,_,HB0,HI2,rfl,HF0,HC0⟩
             case round =>
              clear HB0 HF0 HC0 HI2
              obtain ⟨L1,W1,VL1,VW1,F1,HB1,HI1,HS1,HF1,HC1⟩:=hrel
              obtain ⟨A1,k1,hv1,hnk,hkm,hr1⟩:=Reads.of_own HB1.out.oW
              subst hv1
              have HR1 : Hid (Reads (fun k=>k < wr.heap.size) wr 5 A1 W1.length (chsC W1)):=hr1.more fun k hk=>(own_lt HB1.out.oW hk).2
              obtain ⟨wo,hwo⟩ : ∃ wo,wo=wr:=⟨_,rfl⟩
              subst hwo
              have hml1 : L1.length+W1.length≤120:=HI1.out.most
              obtain ⟨n,hn⟩ : ∃ n,W1.length=n:=⟨_,rfl⟩
              have HN:=Lib.hid hn
              rw [hn] at hnk hml1
              clear hr1 hn
              go_wp2_with fail
              go_loopw [10,11,12] (fun _ s11 s12 wr=>∃ (i : Nat) (best : Option (Nat × Rf)),s12=.int .i64 i∧i≤n∧s11=.int .i64 (atP best)∧Hid (ScanAt (readyP L1) W1 i best)∧Hid (Below wo.heap.size wo wr)) (fun _ _ s12 _=>n - (intOf s12).toNat)
              case atStart=>exact ⟨0,none,rfl,by omega,rfl,ScanAt.start _ _,Below.refl _ _⟩
              case round =>
               obtain ⟨i,best,rfl,hi,rfl,HSC,HWI⟩:=hrel
               have hBM:=HB1.out.below HWI.out
               have g1 : wr.cell? ⟨g,1,none⟩=some (.slice A1 n k1):=by rw [← HN.out];exact hBM.blk.cell 1
               by_cases hlt : i < n
               · have hd : decide ((i : Int) < (n : Int))=true:=decide_eq_true (by omega)
                 have hd0 : decide (0≤(i : Int))=true:=decide_eq_true (by omega)
                 obtain ⟨y,hy⟩ : ∃ y,W1[i]?=some y:=⟨_,List.getElem?_eq_getElem (by rw [HN.out];exact hlt)⟩
                 have HY:=Lib.hid hy
                 obtain ⟨b,o,rfl,-,hcy⟩:=(reads_below HR1.out HWI.out).at_ (by rw [HN.out];omega) (by omega)
                 have y0 : wr.cell? ⟨b,o+i*5,none⟩=some (.int .i64 y.a):=hcy _ _ (chsC_at hy 0 (by omega))
                 have y1 : wr.cell? ⟨b,o+i*5+1,none⟩=some (.int .i64 y.s):=hcy _ _ (chsC_at hy 1 (by omega))
                 have y2 : wr.cell? ⟨b,o+i*5+2,none⟩=some (.int .i64 y.st):=hcy _ _ (chsC_at hy 2 (by omega))
                 have y3 : wr.cell? ⟨b,o+i*5+3,none⟩=some (.slice y.DA y.deps.length y.DC):=hcy _ _ (chsC_at hy 3 (by omega))
                 have y4 : wr.cell? ⟨b,o+i*5+4,none⟩=some (.slice y.OA y.ops.length y.OC):=hcy _ _ (chsC_at hy 4 (by omega))
                 have C4:=sready_any L1 W1 y g wr hBM.br ((hBM.inW y (List.mem_of_getElem? hy)).more fun k hk=>(hBM.hD k hk).1) (by omega)
                 unfold ChD.v at C4
                 clear hcy hy hBM
                 go_wp2_with fail
                 go_at_call 53
                 refine C4.mono ?_
                 rintro e w6 ⟨rfl,hb⟩
                 replace HWI : Hid (Below wo.heap.size wo w6):=HWI.out.trans (hb.mono HWI.out.size)
                 clear C4 hb y0 y1 y2 y3 y4 g1
                 generalize hrb : readyP L1 y=rb
                 have HRB:=Lib.hid hrb
                 clear hrb
                 go_upto_region 31 with fail
                 go_cut [130] (fun s130 wc=>s130=.bool (rb && isBetter best y.rf)∧Hid (Below wo.heap.size wo wc))
                 case first =>
                  cases rb with
                  | false =>
                    go_wp2_with fail
                    go_quiet (fail)
                    change Exit.then _ _ _ _ (w6.drewN nq)
                    replace HWI : Hid (Below wo.heap.size wo (w6.drewN nq)):=below_drewN HWI.out nq
                    go_wp2_with fail
                    go_meet
                    case rel=>exact ⟨rfl,HWI⟩
                  | true =>
                    cases best with
                    | none =>
                      have ha : atP none=-1:=rfl
                      rw [ha]
                      clear ha
                      go_wp2_with fail
                      go_quiet (fail)
                      change Exit.then _ _ _ _ (w6.drewN nq)
                      replace HWI : Hid (Below wo.heap.size wo (w6.drewN nq)):=below_drewN HWI.out nq
                      go_wp2_with fail
                      go_meet
                      case rel=>exact ⟨rfl,HWI⟩
                    | some jr =>
                      obtain ⟨j,r⟩:=jr
                      obtain ⟨z,hz,hzr⟩:=HSC.out.2 j r rfl
                      subst hzr
                      have hjn : j < n:=by have:=(List.getElem?_eq_some_iff.1 hz).1;rwa [HN.out] at this
                      have ha : atP (some (j,z.rf))=(j : Int):=rfl
                      rw [ha]
                      have hd1 : decide ((j : Int) < 0)=false:=decide_eq_false (by omega)
                      have hd2 : decide (0≤(j : Int))=true:=decide_eq_true (by omega)
                      have hd3 : decide ((j : Int) < (n : Int))=true:=decide_eq_true (by omega)
                      have hBM:=HB1.out.below HWI.out
                      have g1 : w6.cell? ⟨g,1,none⟩=some (.slice (some ⟨b,o,none⟩) n k1):=by rw [← HN.out];exact hBM.blk.cell 1
                      have hgl : g < w6.heap.size:=hBM.blk.lt
                      obtain ⟨b',o',hA,hbl,hcy⟩:=(reads_below HR1.out HWI.out).at_ (by rw [HN.out];omega) (by omega)
                      simp only [Option.some.injEq,Addr.mk.injEq,and_true] at hA
                      obtain ⟨rfl,rfl⟩:=hA
                      have y0 : w6.cell? ⟨b,o+i*5,none⟩=some (.int .i64 y.a):=hcy _ _ (chsC_at HY.out 0 (by omega))
                      have y1 : w6.cell? ⟨b,o+i*5+1,none⟩=some (.int .i64 y.s):=hcy _ _ (chsC_at HY.out 1 (by omega))
                      have y2 : w6.cell? ⟨b,o+i*5+2,none⟩=some (.int .i64 y.st):=hcy _ _ (chsC_at HY.out 2 (by omega))
                      have y3 : w6.cell? ⟨b,o+i*5+3,none⟩=some (.slice y.DA y.deps.length y.DC):=hcy _ _ (chsC_at HY.out 3 (by omega))
                      have y4 : w6.cell? ⟨b,o+i*5+4,none⟩=some (.slice y.OA y.ops.length y.OC):=hcy _ _ (chsC_at HY.out 4 (by omega))
                      have z0 : w6.cell? ⟨b,o+j*5,none⟩=some (.int .i64 z.a):=hcy _ _ (chsC_at hz 0 (by omega))
                      have z1 : w6.cell? ⟨b,o+j*5+1,none⟩=some (.int .i64 z.s):=hcy _ _ (chsC_at hz 1 (by omega))
                      have z2 : w6.cell? ⟨b,o+j*5+2,none⟩=some (.int .i64 z.st):=hcy _ _ (chsC_at hz 2 (by omega))
                      have z3 : w6.cell? ⟨b,o+j*5+3,none⟩=some (.slice z.DA z.deps.length z.DC):=hcy _ _ (chsC_at hz 3 (by omega))
                      have z4 : w6.cell? ⟨b,o+j*5+4,none⟩=some (.slice z.OA z.ops.length z.OC):=hcy _ _ (chsC_at hz 4 (by omega))
                      have KS : ∀ V : World,Below w6.heap.size w6 V→V.cell? ⟨g,1,none⟩=some (.slice (some ⟨b,o,none⟩) n k1)∧V.cell? ⟨b,o+i*5,none⟩=some (.int .i64 y.a)∧V.cell? ⟨b,o+i*5+1,none⟩=some (.int .i64 y.s)∧V.cell? ⟨b,o+i*5+2,none⟩=some (.int .i64 y.st)∧V.cell? ⟨b,o+i*5+3,none⟩=some (.slice y.DA y.deps.length y.DC)∧V.cell? ⟨b,o+i*5+4,none⟩=some (.slice y.OA y.ops.length y.OC)∧V.cell? ⟨b,o+j*5,none⟩=some (.int .i64 z.a)∧V.cell? ⟨b,o+j*5+1,none⟩=some (.int .i64 z.s)∧V.cell? ⟨b,o+j*5+2,none⟩=some (.int .i64 z.st)∧V.cell? ⟨b,o+j*5+3,none⟩=some (.slice z.DA z.deps.length z.DC)∧V.cell? ⟨b,o+j*5+4,none⟩=some (.slice z.OA z.ops.length z.OC)∧Below w6.heap.size w6 V:=fun V hv=>by
                       have e1 : ∀ i,V.cell? ⟨g,i,none⟩=w6.cell? ⟨g,i,none⟩:=fun i=>World.cell?_of_block (hv.block _ hgl)
                       have e2 : ∀ i,V.cell? ⟨b,i,none⟩=w6.cell? ⟨b,i,none⟩:=fun i=>World.cell?_of_block (hv.block _ hbl)
                       rw [e1]
                       simp only [e2]
                       exact ⟨g1,y0,y1,y2,y3,y4,z0,z1,z2,z3,z4,hv⟩
                      clear hcy hz hBM HY
                      go_wp2_with fail
                      go_region_held3 (fun w'=>w'.cell? ⟨g,1,none⟩=some (.slice (some ⟨b,o,none⟩) n k1)∧w'.cell? ⟨b,o+i*5,none⟩=some (.int .i64 y.a)∧w'.cell? ⟨b,o+i*5+1,none⟩=some (.int .i64 y.s)∧w'.cell? ⟨b,o+i*5+2,none⟩=some (.int .i64 y.st)∧w'.cell? ⟨b,o+i*5+3,none⟩=some (.slice y.DA y.deps.length y.DC)∧w'.cell? ⟨b,o+i*5+4,none⟩=some (.slice y.OA y.ops.length y.OC)∧w'.cell? ⟨b,o+j*5,none⟩=some (.int .i64 z.a)∧w'.cell? ⟨b,o+j*5+1,none⟩=some (.int .i64 z.s)∧w'.cell? ⟨b,o+j*5+2,none⟩=some (.int .i64 z.st)∧w'.cell? ⟨b,o+j*5+3,none⟩=some (.slice z.DA z.deps.length z.DC)∧w'.cell? ⟨b,o+j*5+4,none⟩=some (.slice z.OA z.ops.length z.OC)∧Below w6.heap.size w6 w') (first | exact KS _ (Below.refl _ w6).drew | exact q | go_keep)
                       ((first
                         | (go_at_call 27;refine (sref_any _ _ _ _ _ _ (by rfl) (by rfl) (by rfl)).mono ?_;rintro e w7 ⟨rfl,hb7⟩;have q:=KS w7 (by first | exact below_step q.2.2.2.2.2.2.2.2.2.2.2 (Nat.le_refl _) hb7 | exact below_step (Below.refl _ w6).drew (Nat.le_refl _) hb7))
                         | (go_at_call 55;refine (ahead_any (y.a,y.s) (z.a,z.s) _).mono ?_;rintro e w7 ⟨rfl,hb7⟩;have q:=KS w7 (by first | exact below_step q.2.2.2.2.2.2.2.2.2.2.2 (Nat.le_refl _) hb7 | exact below_step (Below.refl _ w6).drew (Nat.le_refl _) hb7))))
                      all_goals
                       replace HWI : Hid (Below wo.heap.size wo w7):=HWI.out.trans (Below.mono q.2.2.2.2.2.2.2.2.2.2.2 HWI.out.size)
                       clear q y0 y1 y2 y3 y4 z0 z1 z2 z3 z4 g1 KS
                       go_wp2_with fail
                       go_meet
                       case rel=>exact ⟨rfl,HWI⟩
                 case rest =>
                  obtain ⟨rfl,HWI⟩:=hcut
                  generalize htk : (rb && isBetter best y.rf)=tk
                  have HTK : Hid ((readyP L1 y && isBetter best y.rf)=tk):=by show _=_;rw [HRB.out];exact htk
                  clear htk
                  cases tk with
                  | true =>
                    have HS2:=Lib.hid (HSC.out.take HY.out HTK.out)
                    clear HSC HTK HRB
                    go_wp2_with fail
                    go_roundw
                    case rel=>exact ⟨i+1,some (i,y.rf),by go_num,by omega,rfl,HS2,HWI⟩
                    case measure=>simp [intOf];omega
                  | false =>
                    have HS2:=Lib.hid (HSC.out.skip HY.out HTK.out)
                    clear HSC HTK HRB
                    go_wp2_with fail
                    go_roundw
                    case rel=>exact ⟨i+1,best,by go_num,by omega,rfl,HS2,HWI⟩
                    case measure=>simp [intOf];omega
               · have hd : decide ((i : Int) < (n : Int))=false:=decide_eq_false (by omega)
                 have hin : i=n:=by omega
                 have HLA : Hid (leastAt (readyP L1) W1=best):=ScanAt.done (by rw [HN.out,← hin];exact HSC.out)
                 clear hin
                 cases best with
                 | none =>
                   have ha : atP none=-1:=rfl
                   rw [ha]
                   clear ha
                   go_wp2_with fail
                   go_ret
                   exact ⟨by rw [HT3.out];rfl,by rw [HT3.out,HS1.out,settle_stop HLA.out];exact ⟨F1,_,_,HB1.out.below HWI.out,HF1.out,HC1.out.trans (chg_of HWI.out) fun _ _ h=>h⟩⟩
                 | some jr =>
                   obtain ⟨j,r⟩:=jr
                   obtain ⟨x,hx,hxr⟩:=HSC.out.2 j r rfl
                   have HX:=Lib.hid hx
                   have hjn : j < n:=by have:=(List.getElem?_eq_some_iff.1 hx).1;rwa [HN.out] at this
                   have HS2:=Lib.hid (settle_go HLA.out hx)
                   have ha : atP (some (j,r))=(j : Int):=rfl
                   rw [ha]
                   clear ha
                   have hd1 : decide ((j : Int) < 0)=false:=decide_eq_false (by omega)
                   have hd2 : decide (0≤(j : Int))=true:=decide_eq_true (by omega)
                   have hd3 : decide ((j : Int) < (n : Int))=true:=decide_eq_true (by omega)
                   obtain ⟨b,cap,hA,-⟩:=HB1.out.oW.form (by rw [HN.out];omega)
                   simp only [Value.slice.injEq,true_and] at hA
                   obtain ⟨rfl,rfl⟩:=hA
                   obtain ⟨b',o',hA,hbl,hcy⟩:=(reads_below HR1.out HWI.out).at_ (by rw [HN.out];omega) (by omega)
                   simp only [Option.some.injEq,Addr.mk.injEq,and_true] at hA
                   obtain ⟨rfl,rfl⟩:=hA
                   have x0 : wr.cell? ⟨b,j*5,none⟩=some (.int .i64 x.a):=by have:=hcy _ _ (chsC_at hx 0 (by omega));rwa [Nat.zero_add] at this
                   have x1 : wr.cell? ⟨b,j*5+1,none⟩=some (.int .i64 x.s):=by have:=hcy _ _ (chsC_at hx 1 (by omega));rwa [Nat.zero_add] at this
                   have x2 : wr.cell? ⟨b,j*5+2,none⟩=some (.int .i64 x.st):=by have:=hcy _ _ (chsC_at hx 2 (by omega));rwa [Nat.zero_add] at this
                   have x3 : wr.cell? ⟨b,j*5+3,none⟩=some (.slice x.DA x.deps.length x.DC):=by have:=hcy _ _ (chsC_at hx 3 (by omega));rwa [Nat.zero_add] at this
                   have x4 : wr.cell? ⟨b,j*5+4,none⟩=some (.slice x.OA x.ops.length x.OC):=by have:=hcy _ _ (chsC_at hx 4 (by omega));rwa [Nat.zero_add] at this
                   clear hcy hx hxr HSC
                   have hgl : g < wr.heap.size:=(HB1.out.below HWI.out).blk.lt
                   go_upto_region 37 with fail
                   have HQX : Hid (Blk (wr.alloc (.cells #[.int .i64 x.a,.int .i64 x.s,.int .i64 x.st,.slice x.DA x.deps.length x.DC,.slice x.OA x.ops.length x.OC] 82)) wr.heap.size 82 #[.int .i64 x.a,.int .i64 x.s,.int .i64 x.st,.slice x.DA x.deps.length x.DC,.slice x.OA x.ops.length x.OC]):=Blk.new wr _ _
                   have HWO : Hid (Below wo.heap.size wo (wr.alloc (.cells #[.int .i64 x.a,.int .i64 x.s,.int .i64 x.st,.slice x.DA x.deps.length x.DC,.slice x.OA x.ops.length x.OC] 82))):=HWI.out.alloc HWI.out.size _
                   clear x0 x1 x2 x3 x4 hd hd1 hgl g1
                   generalize wr.alloc (.cells #[.int .i64 x.a,.int .i64 x.s,.int .i64 x.st,.slice x.DA x.deps.length x.DC,.slice x.OA x.ops.length x.OC] 82)=wx at HQX HWO ⊢
                   have hgB : g < wr.heap.size:=(HB1.out.below HWI.out).blk.lt
                   generalize wr.heap.size=B0 at HQX hgB ⊢
                   have HBX:=Lib.hid (HB1.out.below HWO.out)
                   have HT : Hid (Reads (fun z=>z < wx.heap.size) wx 5 (some ⟨b,0,none⟩) j (chsC (W1.take j))):=by
                    have:=(reads_below HR1.out HWO.out).take (k:=j) (by rw [HN.out];omega)
                    rwa [chsC_take] at this
                   have g1 : wx.cell? ⟨g,1,none⟩=some (.slice (some ⟨b,0,none⟩) n k1):=by rw [← HN.out];exact HBX.out.blk.cell 1
                   obtain ⟨i0,hi,hz0,hz1,hz2⟩:=info_parts infoCh
                   go_wp2_with (at_builtin;refine wpList_append_any _ rfl (.tmp 141) (.tmp 147) _ rfl (wx.heap.size) 82 i0 _ 5 72 Tryz.underlying22 hi hz0 hz1 hz2 rfl (by omega) (.slice none 0 0) (0) (chsC []) rfl (own_nil _ _ _ _) _ (some ⟨b,0,none⟩) (j) (k1) (chsC (W1.take j)) rfl (HT.out) (chsC_one _) ?c1 ?c2 ?c3 ?_)
                   try case c1=>simp only [maxLen];omega
                   try case c2=>omega
                   try case c3=>exact Nat.le_refl _
                   intro v4 w4 ho4 hg4 _
                   have HB4 : Hid (Below wx.heap.size wx w4):=(Below.refl _ wx).grown hg4 (Nat.le_refl _) (fun g e=>by cases e)
                   replace ho4 : w4.ownsRow wx.heap.size 82 5 v4 j (chsC (W1.take j)):=by simpa [chsC] using ho4
                   have HO4:=Lib.hid ho4
                   clear ho4 hg4 g1 HT
                   have HF : Hid (∀ (v' : Value) (w' : World),w'.ownsRow wx.heap.size 82 5 v' (j+(n - (j+1))) (chsC (W1.take j)++chsC (W1.drop (j+1)))→w'.ownsRow wx.heap.size 82 5 v' (W1.eraseIdx j).length (chsC (W1.eraseIdx j))):=by
                    intro v' w' h
                    have e1 : (W1.eraseIdx j).length=j+(n - (j+1)):=by rw [List.length_eraseIdx_of_lt (by rw [HN.out];exact hjn),HN.out];omega
                    rw [e1,List.eraseIdx_eq_take_drop_succ,chsC_append]
                    exact h
                   go_upto_region 38 with fail
                   go_cut [14] (fun s14 wc=>Hid (wc.ownsRow wx.heap.size 82 5 s14 (W1.eraseIdx j).length (chsC (W1.eraseIdx j)))∧Hid (Below wx.heap.size wx wc))
                   case first =>
                    have HCR : Hid (Reads (fun x=>x < w4.heap.size) w4 5 (if k1=j+1 then some ⟨b,0,none⟩ else Option.map (fun z : Addr=>z.add ((j+1)*5)) (some ⟨b,0,none⟩)) (n - (j+1)) (chsC (W1.drop (j+1)))):=by
                     have:=(reads_below HR1.out (HWO.out.trans (HB4.out.mono HWO.out.size))).cut (cap:=k1) (k:=j+1) (by rw [HN.out];omega) (by rw [HN.out];omega)
                     rwa [chsC_drop,HN.out] at this
                    have g1 : w4.cell? ⟨g,1,none⟩=some (.slice (some ⟨b,0,none⟩) n k1):=by rw [← HN.out];exact (HBX.out.below HB4.out).blk.cell 1
                    have hw1 : IntKind.i64.wrap ((j : Int)+1)=(j : Int)+1:=IntWalk.i64_in _ (by omega)
                    have hw2 : ((j : Int)+1).toNat=j+1:=by omega
                    have hw3 : decide (0≤(j : Int)+1)=true:=decide_eq_true (by omega)
                    have hw4 : (j : Int)+1≤(n : Int):=by omega
                    have hw5 : j+1≤n:=by omega
                    have hw6 : (0 : Int)≤(j : Int)+1:=by omega
                    by_cases hck : k1=j+1
                    · rw [if_pos hck] at HCR
                      go_wp2_with (at_builtin;refine wpList_append_any _ rfl (.tmp 149) (.tmp 156) _ rfl (wx.heap.size) 82 i0 _ 5 72 Tryz.underlying22 hi hz0 hz1 hz2 rfl (by omega) (v4) (j) (chsC (W1.take j)) rfl (HO4.out) _ (_) (_) (_) (chsC (W1.drop (j+1))) rfl ((by simpa using HCR.out)) (chsC_one _) ?c1 ?c2 ?c3 ?_)
                      try case c1=>simp only [maxLen];omega
                      try case c2=>omega
                      try case c3=>exact HB4.out.size
                      intro v6 w6 ho6 hg6 _
                      have HB6 : Hid (Below wx.heap.size wx w6):=HB4.out.grown hg6 HB4.out.size (fun g hg=>(own_lt HO4.out hg).1)
                      have HO6:=Lib.hid (HF.out _ _ (by simpa using ho6))
                      clear ho6 hg6 HF HO4 HB4 g1
                      go_wp2_with fail
                      go_meet
                      case rel=>exact ⟨HO6,HB6⟩
                    · rw [if_neg hck] at HCR
                      have HC2 : Hid (Reads (fun x=>x < w4.heap.size) w4 5 (some ⟨b,(j+1)*5,none⟩) (n - (j+1)) (chsC (W1.drop (j+1)))):=by have:=HCR.out;rw [Option.map_some,addr0] at this;exact this
                      go_wp2_with (at_builtin;refine wpList_append_any _ rfl (.tmp 149) (.tmp 156) _ rfl (wx.heap.size) 82 i0 _ 5 72 Tryz.underlying22 hi hz0 hz1 hz2 rfl (by omega) (v4) (j) (chsC (W1.take j)) rfl (HO4.out) _ (_) (_) (_) (chsC (W1.drop (j+1))) rfl ((by simpa using HC2.out)) (chsC_one _) ?c1 ?c2 ?c3 ?_)
                      try case c1=>simp only [maxLen];omega
                      try case c2=>omega
                      try case c3=>exact HB4.out.size
                      intro v6 w6 ho6 hg6 _
                      have HB6 : Hid (Below wx.heap.size wx w6):=HB4.out.grown hg6 HB4.out.size (fun g hg=>(own_lt HO4.out hg).1)
                      have HO6:=Lib.hid (HF.out _ _ (by simpa using ho6))
                      clear ho6 hg6 HF HO4 HB4 g1
                      go_wp2_with fail
                      go_meet
                      case rel=>exact ⟨HO6,HB6⟩
                   case rest =>
                    clear HO4 HB4 HF
                    obtain ⟨HO6,HB6⟩:=hcut
                    obtain ⟨w8,hw8⟩ : ∃ w8,w8=wc:=⟨_,rfl⟩
                    subst hw8
                    obtain ⟨A2,k2,hv2,-,-,-⟩:=Reads.of_own HO6.out
                    subst hv2
                    obtain ⟨AL1,cL1,hvl,-,-,-⟩:=Reads.of_own HB1.out.oL
                    subst hvl
                    have hxm:=List.mem_of_getElem? HX.out
                    have HGD:=Lib.hid (HI1.out.good x hxm)
                    have HS:=Lib.hid (HBX.out.setW (V':=.slice A2 (W1.eraseIdx j).length k2) (W':=W1.eraseIdx j) HB6.out.size (fun k hk _=>HB6.out.block k hk) (own_base HO6.out fun _ _=>Nat.zero_le _) (.inr fun k hk=>(own_lt HO6.out hk).1) (fun z hz=>HBX.out.inW z (mem_eraseIdx_of hz)))
                    have HXD : Hid (ChIn D (w8.setCell ⟨g,1,none⟩ (.slice A2 (W1.eraseIdx j).length k2)) x):=(HBX.out.inW x hxm).keep fun k hk=>(Below.heap_setCell w8 ⟨g,1,none⟩ _ k (fun e=>(HBX.out.hD k hk).2 ((HBX.out.hF k).2 (.inl e)))).trans (HB6.out.block k (HBX.out.hD k hk).1)
                    have HQY : Hid (Blk (w8.setCell ⟨g,1,none⟩ (.slice A2 (W1.eraseIdx j).length k2)) B0 82 #[.int .i64 x.a,.int .i64 x.s,.int .i64 x.st,.slice x.DA x.deps.length x.DC,.slice x.OA x.ops.length x.OC]):=(HQX.out.keep (HB6.out.block _ HQX.out.lt)).far (p:=⟨g,1,none⟩) (by intro e;have e : B0=g:=e;omega) _
                    have HFy : Hid (∀ k,(k=g∨(Value.slice AL1 L1.length cL1).ownBlock=some k∨(Value.slice A2 (W1.eraseIdx j).length k2).ownBlock=some k)→F k∨w.heap.size≤k):=by
                     rintro k (e | e | e)
                     · exact HF1.out k ((HB1.out.hF k).2 (.inl e))
                     · exact HF1.out k ((HB1.out.hF k).2 (.inr (.inl e)))
                     · exact .inr (Nat.le_trans (Nat.le_trans HC1.out.size HWO.out.size) (own_lt HO6.out e).1)
                    have HCy : Hid (Chg F w (w8.setCell ⟨g,1,none⟩ (.slice A2 (W1.eraseIdx j).length k2))):=(HC1.out.trans (chg_of (HWO.out.trans (HB6.out.mono HWO.out.size))) fun _ _ h=>h).setCell (p:=⟨g,1,none⟩) (HF1.out g ((HB1.out.hF g).2 (.inl rfl))) _
                    have t1 : w8.cell? ⟨g,1,none⟩=some (.slice (some ⟨b,0,none⟩) W1.length k1):=(HBX.out.below HB6.out).blk.cell 1
                    have t2 : w8.frozen? ⟨g,1,none⟩=false:=(HBX.out.below HB6.out).blk.frozen 1
                    clear HQX HBX HO6 HB6 HWO hxm HR1 HWI
                    go_upto_region 40 with fail
                    clear t1 t2
                    generalize w8.setCell ⟨g,1,none⟩ (.slice A2 (W1.eraseIdx j).length k2)=wy at HS HXD HQY HCy ⊢
                    have hlen : (W1.eraseIdx j).length+1=n:=by rw [List.length_eraseIdx_of_lt (by rw [HN.out];exact hjn),HN.out];omega
                    have HLN:=Lib.hid hlen
                    clear hlen
                    have C5:=sfits_any L1 (W1.eraseIdx j) x g wy HS.out.br (HXD.out.more fun k hk=>(HS.out.hD k hk).1) HI1.out.bk.top HI1.out.bk.nodup (fun z hz=>err_ok (HI1.out.bk.err z hz).1) (by omega) HGD.out.1
                    have c0 : wy.cell? ⟨B0,0,none⟩=some (.int .i64 x.a):=HQY.out.cell 0
                    have c1 : wy.cell? ⟨B0,1,none⟩=some (.int .i64 x.s):=HQY.out.cell 1
                    have c2 : wy.cell? ⟨B0,2,none⟩=some (.int .i64 x.st):=HQY.out.cell 2
                    have c3 : wy.cell? ⟨B0,3,none⟩=some (.slice x.DA x.deps.length x.DC):=HQY.out.cell 3
                    have c4 : wy.cell? ⟨B0,4,none⟩=some (.slice x.OA x.ops.length x.OC):=HQY.out.cell 4
                    unfold ChD.v at C5
                    go_wp2_with fail
                    go_at_call 54
                    refine C5.mono ?_
                    rintro e w7 ⟨rfl,hb⟩
                    have HQ7:=Lib.hid (HQY.out.keep (hb.block _ HQY.out.lt))
                    have HB7:=Lib.hid (HS.out.below hb)
                    have HC7 : Hid (Chg F w w7):=HCy.out.trans (chg_of hb) fun _ _ h=>h
                    have HX7 : Hid (ChIn D w7 x):=HXD.out.keep fun k hk=>hb.block k (HS.out.hD k hk).1
                    clear C5 hb c0 c1 c2 c3 c4 HQY HS HXD HCy
                    cases hft : fitsP L1 x with
                    | false =>
                      have HS3 : Hid (settle W.length (L++[c]) W=settle (W1.eraseIdx j).length L1 (W1.eraseIdx j)):=HS1.out.trans (HS2.out.trans (if_neg (by rw [hft];simp)))
                      clear hft
                      go_wp2_with fail
                      go_roundw
                      case rel=>exact ⟨L1,W1.eraseIdx j,_,_,_,HB7,HI1.out.drop j,HS3,HFy,HC7⟩
                      case measure =>
                       have m1:=wlen_of HB7.out
                       have m2:=wlen_of HB1.out
                       have m3:=HN.out
                       have m4:=HLN.out
                       show wlen w7 g < wlen wo g
                       omega
                    | true =>
                      have HS3 : Hid (settle W.length (L++[c]) W=settle (W1.eraseIdx j).length (L1++[x]) (W1.eraseIdx j)):=HS1.out.trans (HS2.out.trans (if_pos hft))
                      have HI3 : Hid (Inv (L1++[x]) (W1.eraseIdx j)):=HI1.out.move HX.out (by have:=(leastAt_some HLA.out);obtain ⟨x',h1,-,h2,-⟩:=this;rw [HX.out] at h1;cases h1;exact h2) hft
                      clear hft
                      have g0 : w7.cell? ⟨g,0,none⟩=some (.slice AL1 L1.length cL1):=HB7.out.blk.cell 0
                      have hglt : g < w7.heap.size:=HB7.out.blk.lt
                      have hqlt : B0 < w7.heap.size:=HQ7.out.lt
                      have c0 : w7.cell? ⟨B0,0,none⟩=some (.int .i64 x.a):=HQ7.out.cell 0
                      have c1 : w7.cell? ⟨B0,1,none⟩=some (.int .i64 x.s):=HQ7.out.cell 1
                      have c2 : w7.cell? ⟨B0,2,none⟩=some (.int .i64 x.st):=HQ7.out.cell 2
                      have c3 : w7.cell? ⟨B0,3,none⟩=some (.slice x.DA x.deps.length x.DC):=HQ7.out.cell 3
                      have c4 : w7.cell? ⟨B0,4,none⟩=some (.slice x.OA x.ops.length x.OC):=HQ7.out.cell 4
                      have HBB:=HB7.out.below (Below.refl _ w7).drew
                      have hcD : ChIn D w7.drew x:=HX7.out.keep fun k hk=>(Below.refl _ w7).drew.block k (HB7.out.hD k hk).1
                      go_wp2_with fail
                      skip
                      refine wp_region_any (by kernel_rfl) ?_
                      change wpAny _ _ _ _ _ _ _ (World.drew _)
                      refine wpAny_take (i:=0) (v:=?_) rfl (by kernel_rfl) (by kernel_rfl) (by kernel_rfl) (fun _ _ _ h=>h) (Or.inl ⟨by rfl,?_⟩) ?_
                      rotate_left
                      · (intro w;go_simp;try with_reducible rfl)
                      try simp only [Act.put,List.setIfInBounds_toArray,List.set_cons_zero,List.set_cons_succ]
                      refine wpAny_take (i:=1) (v:=?_) rfl (by kernel_rfl) (by kernel_rfl) (by kernel_rfl) (fun _ _ _ h=>h) (Or.inl ⟨by rfl,?_⟩) ?_
                      rotate_left
                      · (intro w;go_simp;try with_reducible rfl)
                      try simp only [Act.put,List.setIfInBounds_toArray,List.set_cons_zero,List.set_cons_succ]
                      refine wpAny_take (i:=2) (v:=?_) rfl (by kernel_rfl) (by kernel_rfl) (by kernel_rfl) (fun _ _ _ h=>h) (Or.inl ⟨by rfl,?_⟩) ?_
                      rotate_left
                      · (intro w;go_simp;try with_reducible rfl)
                      try simp only [Act.put,List.setIfInBounds_toArray,List.set_cons_zero,List.set_cons_succ]
                      refine wpAny_take (i:=3) (v:=?_) rfl (by kernel_rfl) (by kernel_rfl) (by kernel_rfl) (fun _ _ _ h=>h) (Or.inl ⟨by rfl,?_⟩) ?_
                      rotate_left
                      · (intro w;go_simp;try with_reducible rfl)
                      try simp only [Act.put,List.setIfInBounds_toArray,List.set_cons_zero,List.set_cons_succ]
                      refine wpAny_ready (rs:=[4,5]) (by kernel_rfl) (by simp) ?_
                      refine AllReady.cons rfl (fun K hK=>?_) (AllReady.cons rfl (fun K hK=>?_) AllReady.nil)
                      · skip
                        go_simp
                        refine hK _ _ ?_
                        clear hK K
                        try simp only [Act.put,List.setIfInBounds_toArray,List.set_cons_zero,List.set_cons_succ]
                        refine wpAny_ready (rs:=[5]) (by kernel_rfl) (by simp) ?_
                        refine AllReady.cons rfl (fun K hK=>?_) AllReady.nil
                        go_simp
                        refine hK _ _ ?_
                        clear hK K
                        try simp only [Act.put,List.setIfInBounds_toArray,List.set_cons_zero,List.set_cons_succ]
                        refine wpAny_ready (rs:=[6]) (by kernel_rfl) (by simp) ?_
                        refine AllReady.cons rfl (fun K hK=>?_) AllReady.nil
                        go_simp
                        refine hK _ _ ?_
                        clear hK K
                        try simp only [Act.put,List.setIfInBounds_toArray,List.set_cons_zero,List.set_cons_succ]
                        refine wpAny_ready (rs:=[7]) (by kernel_rfl) (by simp) ?_
                        refine AllReady.cons rfl (fun K hK=>?_) AllReady.nil
                        refine step_append_any _ (by rfl) (.tmp 170) (.tmp 172) 22 (by rfl) 0 82 i0 _ 5 72 Tryz.underlying22 hi hz0 hz1 hz2 rfl (by omega) (.slice AL1 L1.length cL1) (L1.length) (chsC L1) (by rfl) ((show World.ownsRow w7.drew 0 _ 5 _ (L1.length) (chsC L1) from HBB.oL).alloc _) _ _ 1 1 (ChD.cells x) (by rfl) (blk_reads (by exact Blk.new w7.drew _ #[.int .i64 x.a,.int .i64 x.s,.int .i64 x.st,.slice x.DA x.deps.length x.DC,.slice x.OA x.ops.length x.OC]) (n:=5) rfl) (by intro u hu;exact chsC_one [x] u (by simpa [chsC] using hu)) (by simp only [maxLen];omega) (by omega) (Nat.zero_le _) ?_
                        intro v9 w9 ho9 hg9 hat9
                        obtain ⟨B9,C9,hv9,-⟩:=ho9.form (by omega)
                        subst hv9
                        refine hK _ _ ?_
                        clear hK K
                        try simp only [Act.put,List.setIfInBounds_toArray,List.set_cons_zero,List.set_cons_succ]
                        have hb9 : Blk w9 g 34 _:=(HBB.blk.keep (Below.heap_alloc w7.drew _ _ HBB.blk.lt)).grown hg9 HBB.neg.1
                        have t1 : w9.cell? ⟨g,0,none⟩=some (.slice AL1 L1.length cL1):=hb9.cell 0
                        have t2 : w9.frozen? ⟨g,0,none⟩=false:=hb9.frozen 0
                        refine wpAny_take (i:=8) (v:=?_) rfl (by kernel_rfl) (by kernel_rfl) (by kernel_rfl) (fun _ _ _ h=>h) (Or.inl ⟨by rfl,?_⟩) ?_
                        rotate_left
                        · (intro w;go_simp;try with_reducible rfl)
                        try simp only [Act.put,List.setIfInBounds_toArray,List.set_cons_zero,List.set_cons_succ]
                        refine wpAny_take (i:=9) (v:=?_) rfl (by kernel_rfl) (by kernel_rfl) (by kernel_rfl) (fun _ _ _ h=>h) (Or.inl ⟨by rfl,?_⟩) ?_
                        rotate_left
                        · (intro w;go_simp;try with_reducible rfl)
                        try simp only [Act.put,List.setIfInBounds_toArray,List.set_cons_zero,List.set_cons_succ]
                        refine wpAny_ready (rs:=[10]) (by kernel_rfl) (by simp) ?_
                        refine AllReady.cons rfl (fun K hK=>?_) AllReady.nil
                        go_simp
                        refine hK _ _ ?_
                        clear hK K
                        try simp only [Act.put,List.setIfInBounds_toArray,List.set_cons_zero,List.set_cons_succ]
                        refine wpAny_done (by kernel_rfl) ?_ _
                        obtain ⟨F9,hB9,hF9,hC9⟩:=HBB.pushL (o:=_) ho9 hg9 hat9 hcD
                        have hF10 : ∀ k,F9 k→F k∨w.heap.size≤k:=fun k hk=>(hF9 k hk).elim (HFy.out k) fun h=>.inr (Nat.le_trans HC7.out.size h)
                        have hC10:=(HC7.out.trans (chg_of (Below.refl _ w7).drew) fun _ _ h=>h).trans hC9 fun i hi hf=>(HFy.out i hf).resolve_right (by omega)
                        go_wp2_with fail
                        go_roundw
                        case rel=>exact ⟨L1++[x],W1.eraseIdx j,_,_,F9,hB9,HI3,HS3,hF10,hC10⟩
                        case measure =>
                         have m1:=wlen_of hB9
                         have m2:=wlen_of HB1.out
                         have m3:=HN.out
                         have m4:=HLN.out
                         show wlen (World.setCell w9 _ _) g < wlen wo g
                         omega
                      · skip
                        go_simp
                        refine hK _ _ ?_
                        clear hK K
                        try simp only [Act.put,List.setIfInBounds_toArray,List.set_cons_zero,List.set_cons_succ]
                        refine wpAny_ready (rs:=[4,6]) (by kernel_rfl) (by simp) ?_
                        refine AllReady.cons rfl (fun K hK=>?_) (AllReady.cons rfl (fun K hK=>?_) AllReady.nil)
                        · skip
                          go_simp
                          refine hK _ _ ?_
                          clear hK K
                          try simp only [Act.put,List.setIfInBounds_toArray,List.set_cons_zero,List.set_cons_succ]
                          refine wpAny_ready (rs:=[6]) (by kernel_rfl) (by simp) ?_
                          refine AllReady.cons rfl (fun K hK=>?_) AllReady.nil
                          go_simp
                          refine hK _ _ ?_
                          clear hK K
                          try simp only [Act.put,List.setIfInBounds_toArray,List.set_cons_zero,List.set_cons_succ]
                          refine wpAny_ready (rs:=[7]) (by kernel_rfl) (by simp) ?_
                          refine AllReady.cons rfl (fun K hK=>?_) AllReady.nil
                          refine step_append_any _ (by rfl) (.tmp 170) (.tmp 172) 22 (by rfl) 0 82 i0 _ 5 72 Tryz.underlying22 hi hz0 hz1 hz2 rfl (by omega) (.slice AL1 L1.length cL1) (L1.length) (chsC L1) (by rfl) ((show World.ownsRow w7.drew 0 _ 5 _ (L1.length) (chsC L1) from HBB.oL).alloc _) _ _ 1 1 (ChD.cells x) (by rfl) (blk_reads (by exact Blk.new w7.drew _ #[.int .i64 x.a,.int .i64 x.s,.int .i64 x.st,.slice x.DA x.deps.length x.DC,.slice x.OA x.ops.length x.OC]) (n:=5) rfl) (by intro u hu;exact chsC_one [x] u (by simpa [chsC] using hu)) (by simp only [maxLen];omega) (by omega) (Nat.zero_le _) ?_
                          intro v9 w9 ho9 hg9 hat9
                          obtain ⟨B9,C9,hv9,-⟩:=ho9.form (by omega)
                          subst hv9
                          refine hK _ _ ?_
                          clear hK K
                          try simp only [Act.put,List.setIfInBounds_toArray,List.set_cons_zero,List.set_cons_succ]
                          have hb9 : Blk w9 g 34 _:=(HBB.blk.keep (Below.heap_alloc w7.drew _ _ HBB.blk.lt)).grown hg9 HBB.neg.1
                          have t1 : w9.cell? ⟨g,0,none⟩=some (.slice AL1 L1.length cL1):=hb9.cell 0
                          have t2 : w9.frozen? ⟨g,0,none⟩=false:=hb9.frozen 0
                          refine wpAny_take (i:=8) (v:=?_) rfl (by kernel_rfl) (by kernel_rfl) (by kernel_rfl) (fun _ _ _ h=>h) (Or.inl ⟨by rfl,?_⟩) ?_
                          rotate_left
                          · (intro w;go_simp;try with_reducible rfl)
                          try simp only [Act.put,List.setIfInBounds_toArray,List.set_cons_zero,List.set_cons_succ]
                          refine wpAny_take (i:=9) (v:=?_) rfl (by kernel_rfl) (by kernel_rfl) (by kernel_rfl) (fun _ _ _ h=>h) (Or.inl ⟨by rfl,?_⟩) ?_
                          rotate_left
                          · (intro w;go_simp;try with_reducible rfl)
                          try simp only [Act.put,List.setIfInBounds_toArray,List.set_cons_zero,List.set_cons_succ]
                          refine wpAny_ready (rs:=[10]) (by kernel_rfl) (by simp) ?_
                          refine AllReady.cons rfl (fun K hK=>?_) AllReady.nil
                          go_simp
                          refine hK _ _ ?_
                          clear hK K
                          try simp only [Act.put,List.setIfInBounds_toArray,List.set_cons_zero,List.set_cons_succ]
                          refine wpAny_done (by kernel_rfl) ?_ _
                          obtain ⟨F9,hB9,hF9,hC9⟩:=HBB.pushL (o:=_) ho9 hg9 hat9 hcD
                          have hF10 : ∀ k,F9 k→F k∨w.heap.size≤k:=fun k hk=>(hF9 k hk).elim (HFy.out k) fun h=>.inr (Nat.le_trans HC7.out.size h)
                          have hC10:=(HC7.out.trans (chg_of (Below.refl _ w7).drew) fun _ _ h=>h).trans hC9 fun i hi hf=>(HFy.out i hf).resolve_right (by omega)
                          go_wp2_with fail
                          go_roundw
                          case rel=>exact ⟨L1++[x],W1.eraseIdx j,_,_,F9,hB9,HI3,HS3,hF10,hC10⟩
                          case measure =>
                           have m1:=wlen_of hB9
                           have m2:=wlen_of HB1.out
                           have m3:=HN.out
                           have m4:=HLN.out
                           show wlen (World.setCell w9 _ _) g < wlen wo g
                           omega
                        · skip
                          go_simp
                          refine hK _ _ ?_
                          clear hK K
                          try simp only [Act.put,List.setIfInBounds_toArray,List.set_cons_zero,List.set_cons_succ]
                          refine wpAny_ready (rs:=[4]) (by kernel_rfl) (by simp) ?_
                          refine AllReady.cons rfl (fun K hK=>?_) AllReady.nil
                          go_simp
                          refine hK _ _ ?_
                          clear hK K
                          try simp only [Act.put,List.setIfInBounds_toArray,List.set_cons_zero,List.set_cons_succ]
                          refine wpAny_ready (rs:=[7]) (by kernel_rfl) (by simp) ?_
                          refine AllReady.cons rfl (fun K hK=>?_) AllReady.nil
                          refine step_append_any _ (by rfl) (.tmp 170) (.tmp 172) 22 (by rfl) 0 82 i0 _ 5 72 Tryz.underlying22 hi hz0 hz1 hz2 rfl (by omega) (.slice AL1 L1.length cL1) (L1.length) (chsC L1) (by rfl) ((show World.ownsRow w7.drew 0 _ 5 _ (L1.length) (chsC L1) from HBB.oL).alloc _) _ _ 1 1 (ChD.cells x) (by rfl) (blk_reads (by exact Blk.new w7.drew _ #[.int .i64 x.a,.int .i64 x.s,.int .i64 x.st,.slice x.DA x.deps.length x.DC,.slice x.OA x.ops.length x.OC]) (n:=5) rfl) (by intro u hu;exact chsC_one [x] u (by simpa [chsC] using hu)) (by simp only [maxLen];omega) (by omega) (Nat.zero_le _) ?_
                          intro v9 w9 ho9 hg9 hat9
                          obtain ⟨B9,C9,hv9,-⟩:=ho9.form (by omega)
                          subst hv9
                          refine hK _ _ ?_
                          clear hK K
                          try simp only [Act.put,List.setIfInBounds_toArray,List.set_cons_zero,List.set_cons_succ]
                          have hb9 : Blk w9 g 34 _:=(HBB.blk.keep (Below.heap_alloc w7.drew _ _ HBB.blk.lt)).grown hg9 HBB.neg.1
                          have t1 : w9.cell? ⟨g,0,none⟩=some (.slice AL1 L1.length cL1):=hb9.cell 0
                          have t2 : w9.frozen? ⟨g,0,none⟩=false:=hb9.frozen 0
                          refine wpAny_take (i:=8) (v:=?_) rfl (by kernel_rfl) (by kernel_rfl) (by kernel_rfl) (fun _ _ _ h=>h) (Or.inl ⟨by rfl,?_⟩) ?_
                          rotate_left
                          · (intro w;go_simp;try with_reducible rfl)
                          try simp only [Act.put,List.setIfInBounds_toArray,List.set_cons_zero,List.set_cons_succ]
                          refine wpAny_take (i:=9) (v:=?_) rfl (by kernel_rfl) (by kernel_rfl) (by kernel_rfl) (fun _ _ _ h=>h) (Or.inl ⟨by rfl,?_⟩) ?_
                          rotate_left
                          · (intro w;go_simp;try with_reducible rfl)
                          try simp only [Act.put,List.setIfInBounds_toArray,List.set_cons_zero,List.set_cons_succ]
                          refine wpAny_ready (rs:=[10]) (by kernel_rfl) (by simp) ?_
                          refine AllReady.cons rfl (fun K hK=>?_) AllReady.nil
                          go_simp
                          refine hK _ _ ?_
                          clear hK K
                          try simp only [Act.put,List.setIfInBounds_toArray,List.set_cons_zero,List.set_cons_succ]
                          refine wpAny_done (by kernel_rfl) ?_ _
                          obtain ⟨F9,hB9,hF9,hC9⟩:=HBB.pushL (o:=_) ho9 hg9 hat9 hcD
                          have hF10 : ∀ k,F9 k→F k∨w.heap.size≤k:=fun k hk=>(hF9 k hk).elim (HFy.out k) fun h=>.inr (Nat.le_trans HC7.out.size h)
                          have hC10:=(HC7.out.trans (chg_of (Below.refl _ w7).drew) fun _ _ h=>h).trans hC9 fun i hi hf=>(HFy.out i hf).resolve_right (by omega)
                          go_wp2_with fail
                          go_roundw
                          case rel=>exact ⟨L1++[x],W1.eraseIdx j,_,_,F9,hB9,HI3,HS3,hF10,hC10⟩
                          case measure =>
                           have m1:=wlen_of hB9
                           have m2:=wlen_of HB1.out
                           have m3:=HN.out
                           have m4:=HLN.out
                           show wlen (World.setCell w9 _ _) g < wlen wo g
                           omega
 · have HT : Hid (takeP L W c=((L,W),c.err)):=by show _=_;unfold takeP;rw [if_pos he]
   have he1 : (c.err : Int)≠0:=by omega
   have he2 : ((c.err : Int) != 0)=true:=by simp;omega
   clear he
   generalize c.err=er at *
   go_wp2_with fail
   go_ret
   exact ⟨by rw [HT.out];rfl,by rw [HT.out];exact ⟨F,_,_,HB.out.below HW.out,fun k hk=>.inl hk,chg_of HW.out⟩⟩
end Go.Proofs.YtmpkejflgpodkaaGreatDoor
