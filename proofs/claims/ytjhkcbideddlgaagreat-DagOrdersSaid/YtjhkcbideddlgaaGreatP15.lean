/- Contracts of the document's books: Take. -/
import Derived.Test.YtjhkcbideddlgaaGreatP14
import Derived.Test.YtjhkcbideddlgaaGreatP8
set_option maxHeartbeats 16000000
set_option maxRecDepth 20000
set_option linter.unusedVariables false
set_option linter.unusedSimpArgs false
namespace Go.Proofs.YtjhkcbideddlgaaGreat
open Go.ChangeShapes Go.WideShapes Go.ChangeAt Go.RowKit
def fE(p:ChD→Bool)(W:List ChD)(i:Nat)(best:Option (Nat×Rf)):Prop :=
 bN p W=gB p (W.drop i) i best∧∀j r,best=some (j,r)→∃c,W[j]?=some c∧c.rf=r
theorem fE.start(p:ChD→Bool)(W:List ChD):fE p W 0 none:=⟨by simp[bN],fun _ _ h=>by cases h⟩
def eK(best:Option (Nat×Rf))(r:Rf):Bool:=match best with|none=>true|some b=>aM r b.2
theorem fE.skip{p:ChD→Bool}{W:List ChD}{i:Nat}{best:Option (Nat×Rf)}(h:fE p W i best){c:ChD}(hc:W[i]?=some c)(hn:(p c&&eK best c.rf)=false):fE p W (i+1) best:=by
 obtain⟨h1,h2⟩:=h
 obtain⟨hi,hx⟩:=sE.1 hc
 refine⟨?_,h2⟩
 rw[h1,uE hi,hx]
 conv=>lhs;unfold gB
 cases best with
 |none=>simp only[eK]at hn;simp only[hn];simp
 |some b=>simp only[eK]at hn;simp only[hn];simp
theorem fE.take{p:ChD→Bool}{W:List ChD}{i:Nat}{best:Option (Nat×Rf)}(h:fE p W i best){c:ChD}(hc:W[i]?=some c)(hn:(p c&&eK best c.rf)=true):fE p W (i+1) (some (i,c.rf)):=by
 obtain⟨h1,h2⟩:=h
 obtain⟨hi,hx⟩:=sE.1 hc
 refine⟨?_,fun j r e=>by cases e;exact⟨c,hc,rfl⟩⟩
 rw[h1,uE hi,hx]
 conv=>lhs;unfold gB
 cases best with
 |none=>simp only[eK]at hn;simp only[hn];simp
 |some b=>simp only[eK]at hn;simp only[hn];simp
theorem fE.done{p:ChD→Bool}{W:List ChD}{best:Option (Nat×Rf)}(h:fE p W W.length best):bN p W=best:=by
 rw[h.1,List.drop_length];rfl
theorem Inv.start{L W:List ChD}(h:Inv L W){c:ChD}(he:c.err=0)(hw:∀o∈c.ops,(Lit.int .i64 o.vn).wf=true)(h1:aV L c.rf=none)(h2:aV W c.rf=none)(hr:aU L c=true)(hf:bR L c=true)(h3:L.length+W.length<120):Inv (L++[c]) W:=by
 have n1:=bW.1 h1;have n2:=bW.1 h2;refine⟨.snoc h.bk he hw n1 hr hf,h.good,h.nd,fun x hx=>?_,by simp;omega⟩
 rw[bZ];intro hm;rcases sG.1 hm with hm|hm
 ·exact h.apart x hx hm
 ·simp[aB]at hm;exact n2 (by rw[←hm];exact bX hx)
def atP(best:Option (Nat×Rf)):Int:=match best with|none=>-1|some b=>b.1
def qJ(w:World)(g:Nat):Nat:=match w.cell? ⟨g,1,none⟩ with|some (.slice _ n _)=>n|_=>0
theorem iO{D F:Nat→Prop}{w:World}{g:Nat}{L W:List ChD}{VL VW:Value}(h:BM D F w g L W VL VW):qJ w g=W.length:=by
 obtain⟨A,c,hv,_,_,_⟩:=aC.of_own h.oW
 have h1:=h.blk.cell 1;rw[hv]at h1;unfold qJ;rw[show w.cell? ⟨g,1,none⟩=some (.slice A W.length c) from h1]
theorem bT{B:Nat}{a V V':World}(h:Below B a V)(hB:B≤a.heap.size)(k:Below V.heap.size V V'):Below B a V':=h.trans (k.mono (sY hB h.size))
theorem pH{L W:List ChD}(h:bN (aU L) W=none):bO W.length L W=(L,W):=by
 cases W with
 |nil=>rfl
 |cons x W=>show(match bN (aU L) (x::W) with|none=>_|some (i,_)=>_)=_;rw[h]
theorem oM{L W:List ChD}{i:Nat}{r:Rf}{x:ChD}(h:bN (aU L) W=some (i,r))(hx:W[i]?=some x):
 bO W.length L W=if bR L x then bO (W.eraseIdx i).length (L++[x]) (W.eraseIdx i) else bO (W.eraseIdx i).length L (W.eraseIdx i):=by
 have hi:=(sE.1 hx).1;have hl:(W.eraseIdx i).length=W.length-1:=uP hi;obtain⟨m,hm⟩:∃m,W.length=m+1:=⟨W.length-1,by omega⟩
 rw[hl,hm,Nat.add_sub_cancel]
 conv=>lhs;unfold bO
 rw[h];simp only[hx]
theorem chsC_take:∀(k:Nat) (L:List ChD),(aW L).take (k*5)=aW (L.take k)
 |0,L=>by simp[aW]
 |k+1,[]=>by simp[aW]
 |k+1,c::L=>by
  have:=chsC_take k L
  rw[show(k+1)*5=k*5+5 from by omega];show(c.cells++aW L).take _=c.cells++aW (L.take k)
  rw[←this,List.take_append,sL (by simp[ChD.cells]),show k*5+5-c.cells.length=k*5 from by simp[ChD.cells]]
theorem chsC_drop:∀(k:Nat) (L:List ChD),(aW L).drop (k*5)=aW (L.drop k)
 |0,L=>by simp
 |k+1,[]=>by simp[aW]
 |k+1,c::L=>by
  have:=chsC_drop k L
  rw[show(k+1)*5=k*5+5 from by omega];show(c.cells++aW L).drop _=aW (L.drop k)
  rw[←this,List.drop_append,uR (by simp[ChD.cells]),show k*5+5-c.cells.length=k*5 from by simp[ChD.cells],vR]
def zeroCh:Value:=.agg #[.int .i64 0,.int .i64 0,.int .i64 0,.slice none 0 0,.slice none 0 0]
theorem infoCh:(Tryz.prog.info? 33).map (fun i=>(i.zero,i.size,i.bytes))=some (some zeroCh,5,72):=by kernel_rfl
theorem eH{F:Nat→Prop}{w w':World}(h:Below w.heap.size w w'):Chg F w w':=⟨h.os,h.tape,h.output,h.size,fun k hk _=>h.block k hk⟩
theorem takeP_L{L W:List ChD}{c y:ChD}(he:c.err=0)(hf:aV L c.rf=some y):aS L W c=((L,W),fF y c):=by
 unfold aS;rw[sT (by omega),hf]
theorem takeP_W{L W:List ChD}{c y:ChD}(he:c.err=0)(hf:aV L c.rf=none)(hg:aV W c.rf=some y):aS L W c=((L,W),fF y c):=by
 unfold aS;rw[sT (by omega),hf];simp only[hg]
theorem takeP_n{L W:List ChD}{c:ChD}(he:c.err=0)(hf:aV L c.rf=none)(hg:aV W c.rf=none):aS L W c=if 120≤L.length+W.length then ((L,W),4)
 else if aU L c=false then ((L,W++[c]),0)
 else if bR L c=false then ((L,W),7)
 else (bO W.length (L++[c]) W,0):=by
 unfold aS;rw[sT (by omega),hf];simp only[hg]
def TakeR(D F:Nat→Prop)(w w':World)(g:Nat)(L W:List ChD):Prop :=
 ∃F' VL VW,BM D F' w' g L W VL VW∧(∀k,F' k→F k∨w.heap.size≤k)∧Chg F w w'
theorem oJ(L W:List ChD)(c:ChD)(D F:Nat→Prop)(VL VW:Value)(g:Nat)(w:World)(hB:BM D F w g L W VL VW)(hI:Inv L W)(hc:ChIn D w c)(hw:∀o∈c.ops,(Lit.int .i64 o.vn).wf=true):
 Calls Tryz.prog 36 #[.pointer (some ⟨g,0,none⟩),c.v] w fun e w'=>e=.returned (.int .i64 (aS L W c).2)∧TakeR D F w w' g (aS L W c).1.1 (aS L W c).1.2:=by
 obtain⟨AL,cL,hVL,-,-,hrL⟩:=aC.of_own hB.oL
 obtain⟨AW,cW,hVW,-,-,hrW⟩:=aC.of_own hB.oW
 have HRL:Hid (aC (fun k=>k<w.heap.size) w 5 AL L.length (aW L)):=hrL.more (fun k hk=>(aD hB.oL hk).2);have HRW:Hid (aC (fun k=>k<w.heap.size) w 5 AW W.length (aW W)):=hrW.more (fun k hk=>(aD hB.oW hk).2);subst hVL hVW;clear hrL hrW;have HB:=Hi hB;have HI:=Hi hI;have HC:=Hi hc;have HV:=Hi hw;have HD:=Hi hB.hD;have HW:Hid (Below w.heap.size w (w.alloc (.cells #[.int .i64 c.a,.int .i64 c.s,.int .i64 c.st,.slice c.DA c.deps.length c.DC,.slice c.OA c.ops.length c.OC] 33))):=(sA _ w).alloc (sB _) _;have HQ:=Hi (Blk.new w 33 #[.int .i64 c.a,.int .i64 c.s,.int .i64 c.st,.slice c.DA c.deps.length c.DC,.slice c.OA c.ops.length c.OC]);have C1:=fun V h=>refChange_any c.a c.s c.st c.deps c.DA c.deps.length c.DC c.ops c.OA c.ops.length c.OC V h rfl rfl
 clear hB hI hc hw;unfold ChD.v;go_enter Tryz.func36,Tryz.ntmps36;go_wp2_with fail
 generalize w.alloc (.cells #[.int .i64 c.a,.int .i64 c.s,.int .i64 c.st,.slice c.DA c.deps.length c.DC,.slice c.OA c.ops.length c.OC] 33)=V at *;replace C1:=C1 V ((HC.o.chm (fun k hk=>(HD.o k hk).1)).keep HW.o);obtain⟨c0,c1,c2,c3,c4⟩:=ce5 HQ.o
 go_wp2_with fail
 go_at_call 77;refine C1.mono ?_;rintro e w1 ⟨rfl,hb⟩;replace HQ:=Hi (HQ.o.keep (hb.block _ HQ.o.lt));replace HW:Hid (Below w.heap.size w w1):=HW.o.trans (hb.mono HW.o.size);clear hb;clear C1 c0 c1 c2 c3 c4;have HE:Hid (c.err=dK c.a c.s c.st c.deps c.ops):=rfl;rw[←HE.o];by_cases he:c.err=0
 ·have HE0:=Hi he;rw[he];clear he;go_wp2_with fail
  go_loopw [6,7,8,9] (fun s6 _ _ _ wr=>∃i:Nat,s6=.int .i64 i∧i≤2∧Hid (1≤i→aV L c.rf=none)∧Hid (2≤i→aV W c.rf=none)∧Hid (Blk wr w.heap.size 33 #[.int .i64 c.a,.int .i64 c.s,.int .i64 c.st,.slice c.DA c.deps.length c.DC,.slice c.OA c.ops.length c.OC])∧Hid (Below w.heap.size w wr)) (fun s6 _ _ _ _=>2-(intOf s6).toNat)
  case atStart=>exact⟨0,rfl,by omega,by show _→_;omega,by show _→_;omega,HQ,HW⟩
  case round =>
   clear HQ HW;obtain⟨i,rfl,hi,HN1,HN2,HQ,HW⟩:=hrel
   have hbr:=(HB.o.below HW.o).blk;obtain⟨g0,g1⟩:=ce2 hbr
   clear hbr;obtain rfl|rfl|rfl:i=0∨i=1∨i=2:=by omega
   ·skip
    obtain⟨c0,c1,c2,c3,c4⟩:=ce5 HQ.o
    go_wp2_with fail
    go_at_call 55;refine(eI _ _ _ _ _ _ rfl rfl rfl).mono ?_
    rintro e w3 ⟨rfl,hb⟩;replace HQ:=Hi (HQ.o.keep (hb.block _ HQ.o.lt));replace HW:Hid (Below w.heap.size w w3):=HW.o.trans (hb.mono HW.o.size);clear hb;clear c0 c1 c2 c3 c4;have HR3:Hid (aC (fun k=>k<w3.heap.size) w3 5 AL L.length (aW L)):=aA HRL.o HW.o;have C2:=jD L c.rf (fun k=>k<w3.heap.size) AL cL w3 HR3.o (fun _ h=>h) (by have:=HI.o.most;omega);go_wp2_with fail
    go_at_call 75;refine C2.mono ?_;rintro e w4 ⟨j,rfl,hj,hb⟩;have HR4:=Hi (aA HR3.o hb);replace HQ:=Hi (HQ.o.keep (hb.block _ HQ.o.lt));replace HW:Hid (Below w.heap.size w w4):=HW.o.trans (hb.mono HW.o.size);clear hb;clear C2 HR3;rcases hj with⟨rfl,hno⟩|⟨kk,y,rfl,hy,hfc⟩
    ·(replace HN1:Hid (1≤1→aV L c.rf=none):=fun _=>bW.2 hno);(replace HN2:Hid (2≤1→aV W c.rf=none):=fun h=>by omega)
     clear hno;go_wp2_with fail
     go_roundw
     case rel=>exact⟨1,by go_num,by omega,HN1,HN2,HQ,HW⟩
     case measure=>simp[intOf]
    ·have HY:=Hi (cK hfc).1;have HT:Hid (aS L W c=((L,W),fF y c)):=takeP_L HE0.o hfc;obtain⟨b,o,hA,-,hcy⟩:=HR4.o.at_ (by have:=(sE.1 hy).1;omega) (by have:=HI.o.most;omega)
     subst hA;have hkn:kk<L.length:=(sE.1 hy).1;have y0:w4.cell? ⟨b,o+kk*5,none⟩=some (.int .i64 y.a):=hcy _ _ (aI hy 0 (by omega));have y1:w4.cell? ⟨b,o+kk*5+1,none⟩=some (.int .i64 y.s):=hcy _ _ (aI hy 1 (by omega));have y2:w4.cell? ⟨b,o+kk*5+2,none⟩=some (.int .i64 y.st):=hcy _ _ (aI hy 2 (by omega));have y3:w4.cell? ⟨b,o+kk*5+3,none⟩=some (.slice y.DA y.deps.length y.DC):=hcy _ _ (aI hy 3 (by omega));have y4:w4.cell? ⟨b,o+kk*5+4,none⟩=some (.slice y.OA y.ops.length y.OC):=hcy _ _ (aI hy 4 (by omega));obtain⟨c0,c1,c2,c3,c4⟩:=ce5 HQ.o
     have hk0:decide (0≤(kk:Int))=true:=sH (by omega);have hD4:∀(V:World),Below w.heap.size w V→∀z:ChD,ChIn D w z→ChIn (fun k=>k<V.heap.size) V z:=fun V hv z hz=>(hz.keep fun k hk=>hv.block k (HD.o k hk).1).more fun k hk=>sD (HD.o k hk).1 hv.size
     have C3:=sSame_any y c w4.drew (hD4 _ HW.o.drew y (HB.o.inL y HY.o)) (hD4 _ HW.o.drew c HC.o) (jM ((HI.o.bk.err y HY.o).1) ((HI.o.bk.err y HY.o).2)) (jM HE0.o HV.o);clear hcy hy hfc hD4;generalize L.length=nX at *;go_wp2_with fail
     refine wp_region_still_tail 5 (by kernel_rfl) (by kernel_rfl) ?_;simp only[tE,tO,tG,tT];repeat (first|(refine aQ rfl (fun K hK=>?_);go_simp;refine hK _ ?_;clear hK K)|(refine wpStill_skip rfl ?_;go_frame))
     refine wpStill_nil ?_;change wpList _ _ _ _ _ w4.drew;replace HW:Hid (Below w.heap.size w w4.drew):=HW.o.drew;generalize w4.drew=w5 at HW C3 ⊢;clear y0 y1 y2 y3 y4 c0 c1 c2 c3 c4 HQ HR4;unfold ChD.v at C3;go_wp2_with fail
     go_at_call 78;refine C3.mono ?_;rintro e w6 ⟨rfl,hb⟩;replace HW:Hid (Below w.heap.size w w6):=HW.o.trans (hb.mono HW.o.size);clear C3 hb;by_cases hs:y.enc=c.enc
     ·have HSE:Hid (fF y c=0):=by show _=_;unfold fF;rw[tA hs]
      rw[sH hs];clear hs;go_wp2_with fail
      go_ret;exact⟨by rw[HT.o,HSE.o];rfl,by rw[HT.o];exact⟨F,_,_,HB.o.below HW.o,fun k hk=>.inl hk,eH HW.o⟩⟩
     ·have HSE:Hid (fF y c=8):=by show _=_;unfold fF;rw[sT hs]
      rw[sI hs];clear hs;go_wp2_with fail
      go_ret;exact⟨by rw[HT.o,HSE.o];rfl,by rw[HT.o];exact⟨F,_,_,HB.o.below HW.o,fun k hk=>.inl hk,eH HW.o⟩⟩
   ·skip
    obtain⟨c0,c1,c2,c3,c4⟩:=ce5 HQ.o
    go_wp2_with fail
    go_at_call 55;refine(eI _ _ _ _ _ _ rfl rfl rfl).mono ?_
    rintro e w3 ⟨rfl,hb⟩;replace HQ:=Hi (HQ.o.keep (hb.block _ HQ.o.lt));replace HW:Hid (Below w.heap.size w w3):=HW.o.trans (hb.mono HW.o.size);clear hb;clear c0 c1 c2 c3 c4;have HR3:Hid (aC (fun k=>k<w3.heap.size) w3 5 AW W.length (aW W)):=aA HRW.o HW.o;have C2:=jD W c.rf (fun k=>k<w3.heap.size) AW cW w3 HR3.o (fun _ h=>h) (by have:=HI.o.most;omega);go_wp2_with fail
    go_at_call 75;refine C2.mono ?_;rintro e w4 ⟨j,rfl,hj,hb⟩;have HR4:=Hi (aA HR3.o hb);replace HQ:=Hi (HQ.o.keep (hb.block _ HQ.o.lt));replace HW:Hid (Below w.heap.size w w4):=HW.o.trans (hb.mono HW.o.size);clear hb;clear C2 HR3;rcases hj with⟨rfl,hno⟩|⟨kk,y,rfl,hy,hfc⟩
    ·(replace HN1:Hid (1≤2→aV L c.rf=none):=fun _=>HN1.o (by omega));(replace HN2:Hid (2≤2→aV W c.rf=none):=fun _=>bW.2 hno)
     clear hno;go_wp2_with fail
     go_roundw
     case rel=>exact⟨2,by go_num,by omega,HN1,HN2,HQ,HW⟩
     case measure=>simp[intOf]
    ·have HY:=Hi (cK hfc).1;have HT:Hid (aS L W c=((L,W),fF y c)):=takeP_W HE0.o (HN1.o (by omega)) hfc;obtain⟨b,o,hA,-,hcy⟩:=HR4.o.at_ (by have:=(sE.1 hy).1;omega) (by have:=HI.o.most;omega)
     subst hA;have hkn:kk<W.length:=(sE.1 hy).1;have y0:w4.cell? ⟨b,o+kk*5,none⟩=some (.int .i64 y.a):=hcy _ _ (aI hy 0 (by omega));have y1:w4.cell? ⟨b,o+kk*5+1,none⟩=some (.int .i64 y.s):=hcy _ _ (aI hy 1 (by omega));have y2:w4.cell? ⟨b,o+kk*5+2,none⟩=some (.int .i64 y.st):=hcy _ _ (aI hy 2 (by omega));have y3:w4.cell? ⟨b,o+kk*5+3,none⟩=some (.slice y.DA y.deps.length y.DC):=hcy _ _ (aI hy 3 (by omega));have y4:w4.cell? ⟨b,o+kk*5+4,none⟩=some (.slice y.OA y.ops.length y.OC):=hcy _ _ (aI hy 4 (by omega));obtain⟨c0,c1,c2,c3,c4⟩:=ce5 HQ.o
     have hk0:decide (0≤(kk:Int))=true:=sH (by omega);have hD4:∀(V:World),Below w.heap.size w V→∀z:ChD,ChIn D w z→ChIn (fun k=>k<V.heap.size) V z:=fun V hv z hz=>(hz.keep fun k hk=>hv.block k (HD.o k hk).1).more fun k hk=>sD (HD.o k hk).1 hv.size
     have C3:=sSame_any y c w4.drew (hD4 _ HW.o.drew y (HB.o.inW y HY.o)) (hD4 _ HW.o.drew c HC.o) (jM ((HI.o.good y HY.o).1) ((HI.o.good y HY.o).2)) (jM HE0.o HV.o);clear hcy hy hfc hD4;generalize W.length=nX at *;go_wp2_with fail
     refine wp_region_still_tail 5 (by kernel_rfl) (by kernel_rfl) ?_;simp only[tE,tO,tG,tT];repeat (first|(refine aQ rfl (fun K hK=>?_);go_simp;refine hK _ ?_;clear hK K)|(refine wpStill_skip rfl ?_;go_frame))
     refine wpStill_nil ?_;change wpList _ _ _ _ _ w4.drew;replace HW:Hid (Below w.heap.size w w4.drew):=HW.o.drew;generalize w4.drew=w5 at HW C3 ⊢;clear y0 y1 y2 y3 y4 c0 c1 c2 c3 c4 HQ HR4;unfold ChD.v at C3;go_wp2_with fail
     go_at_call 78;refine C3.mono ?_;rintro e w6 ⟨rfl,hb⟩;replace HW:Hid (Below w.heap.size w w6):=HW.o.trans (hb.mono HW.o.size);clear C3 hb;by_cases hs:y.enc=c.enc
     ·have HSE:Hid (fF y c=0):=by show _=_;unfold fF;rw[tA hs]
      rw[sH hs];clear hs;go_wp2_with fail
      go_ret;exact⟨by rw[HT.o,HSE.o];rfl,by rw[HT.o];exact⟨F,_,_,HB.o.below HW.o,fun k hk=>.inl hk,eH HW.o⟩⟩
     ·have HSE:Hid (fF y c=8):=by show _=_;unfold fF;rw[sT hs]
      rw[sI hs];clear hs;go_wp2_with fail
      go_ret;exact⟨by rw[HT.o,HSE.o];rfl,by rw[HT.o];exact⟨F,_,_,HB.o.below HW.o,fun k hk=>.inl hk,eH HW.o⟩⟩
   ·have hN1:=HN1.o (by omega);have hN2:=HN2.o (by omega);have HTN:=Hi (takeP_n (L:=L) (W:=W) HE0.o hN1 hN2);have HNR:=Hi (And.intro (bW.1 hN1) (bW.1 hN2));have hmost:L.length+W.length≤120:=HI.o.most;have hwr:IntKind.i64.wrap ((L.length:Int)+W.length)=(L.length:Int)+W.length:=tH _ (by omega);replace HN1:=Hi hN1;replace HN2:=Hi hN2;clear hN1 hN2;by_cases h120:120≤L.length+W.length
    ·have HT:Hid (aS L W c=((L,W),4)):=by show _=_;rw[HTN.o,tA h120]
     have hd:decide ((120:Int)≤(L.length:Int)+W.length)=true:=sH (by omega);clear HTN;generalize L.length=nL at *;generalize W.length=nW at *;go_wp2_with fail
     go_quiet (fail)
     change Exit.then _ _ _ _ (wr.drewN nq);replace HW:Hid (Below w.heap.size w (wr.drewN nq)):=aH HW.o nq;generalize wr.drewN nq=w3 at HW ⊢;go_wp2_with fail
     go_ret;exact⟨by rw[HT.o];rfl,by rw[HT.o];exact⟨F,_,_,HB.o.below HW.o,fun k hk=>.inl hk,eH HW.o⟩⟩
    ·have HT:Hid (aS L W c=if aU L c=false then ((L,W++[c]),0) else if bR L c=false then ((L,W),7) else (bO W.length (L++[c]) W,0)):=by show _=_;rw[HTN.o,sT h120]
     have hd:decide ((120:Int)≤(L.length:Int)+W.length)=false:=sI (by omega);clear HTN;have hml:=hmost;go_wp2_with fail
     go_quiet (fail)
     change Exit.then _ _ _ _ (wr.drewN nq);replace HW:Hid (Below w.heap.size w (wr.drewN nq)):=aH HW.o nq;replace HQ:Hid (Blk (wr.drewN nq) w.heap.size 33 #[.int .i64 c.a,.int .i64 c.s,.int .i64 c.st,.slice c.DA c.deps.length c.DC,.slice c.OA c.ops.length c.OC]):=HQ.o;generalize wr.drewN nq=w3 at HW HQ ⊢;clear g0 g1 hd hwr;obtain⟨c0,c1,c2,c3,c4⟩:=ce5 HQ.o
     have hD3:∀(V:World),Below w.heap.size w V→∀z:ChD,ChIn D w z→ChIn (fun k=>k<V.heap.size) V z:=fun V hv z hz=>(hz.keep fun k hk=>hv.block k (HD.o k hk).1).more fun k hk=>sD (HD.o k hk).1 hv.size
     have C2:=qR L W c g w3 (HB.o.below HW.o).br (hD3 _ HW.o c HC.o) (by omega);unfold ChD.v at C2;clear hD3;go_wp2_with fail
     go_at_call 79;refine C2.mono ?_;rintro e w4 ⟨rfl,hb⟩;replace HQ:=Hi (HQ.o.keep (hb.block _ HQ.o.lt));replace HW:Hid (Below w.heap.size w w4):=HW.o.trans (hb.mono HW.o.size);clear hb;clear C2 c0 c1 c2 c3 c4;obtain⟨i0,hi,hz0,hz1,hz2⟩:=info_parts infoCh
     cases hrd:aU L c with
     |false =>
      have HT2:Hid (aS L W c=((L,W++[c]),0)):=by show _=_;rw[HT.o,tA hrd]
      clear HT hrd;go_wp2_with fail
      have hBM:=HB.o.below HW.o;have g1:=cZ hBM.blk 1 rfl;have hglt:g<w4.heap.size:=hBM.blk.lt;have hqlt:w.heap.size<w4.heap.size:=HQ.o.lt;obtain⟨c0,c1,c2,c3,c4⟩:=ce5 HQ.o
      have HBB:BM D F w4.drew g L W _ _:=hBM.below (sA _ w4).drew;have hcD:ChIn D w4.drew c:=HC.o.keep fun k hk=>HW.o.drew.block k (HD.o k hk).1
      clear hBM
      skip
      refine wp_region_any (by kernel_rfl) ?_;change wpAny _ _ _ _ _ _ _ (World.drew _);refine wpAny_take (i:=0) (v:=?_) rfl (by kernel_rfl) (by kernel_rfl) (by kernel_rfl) (fun _ _ _ h=>h) (Or.inl ⟨by rfl,?_⟩) ?_
      rotate_left
      ·(intro w;go_simp;try with_reducible rfl)
      try simp only[Act.put,zA,zB,zC]
      refine wpAny_take (i:=1) (v:=?_) rfl (by kernel_rfl) (by kernel_rfl) (by kernel_rfl) (fun _ _ _ h=>h) (Or.inl ⟨by rfl,?_⟩) ?_
      rotate_left
      ·(intro w;go_simp;try with_reducible rfl)
      try simp only[Act.put,zA,zB,zC]
      refine wpAny_take (i:=2) (v:=?_) rfl (by kernel_rfl) (by kernel_rfl) (by kernel_rfl) (fun _ _ _ h=>h) (Or.inl ⟨by rfl,?_⟩) ?_
      rotate_left
      ·(intro w;go_simp;try with_reducible rfl)
      try simp only[Act.put,zA,zB,zC]
      refine wpAny_take (i:=3) (v:=?_) rfl (by kernel_rfl) (by kernel_rfl) (by kernel_rfl) (fun _ _ _ h=>h) (Or.inl ⟨by rfl,?_⟩) ?_
      rotate_left
      ·(intro w;go_simp;try with_reducible rfl)
      try simp only[Act.put,zA,zB,zC]
      refine wpAny_ready (rs:=[4,5]) (by kernel_rfl) (by simp) ?_;refine sR rfl (fun K hK=>?_) (sR rfl (fun K hK=>?_) tC)
      ·skip
       go_simp;refine hK _ _ ?_;clear hK K;try simp only[Act.put,zA,zB,zC]
       refine wpAny_ready (rs:=[5]) (by kernel_rfl) (by simp) ?_;refine sR rfl (fun K hK=>?_) tC;go_simp;refine hK _ _ ?_;clear hK K;try simp only[Act.put,zA,zB,zC]
       refine wpAny_ready (rs:=[6]) (by kernel_rfl) (by simp) ?_;refine sR rfl (fun K hK=>?_) tC;go_simp;refine hK _ _ ?_;clear hK K;try simp only[Act.put,zA,zB,zC]
       refine wpAny_ready (rs:=[7]) (by kernel_rfl) (by simp) ?_;refine sR rfl (fun K hK=>?_) tC;refine bA _ (by rfl) (.tmp 68) (.tmp 70) 23 (by rfl) 0 33 i0 _ 5 72 Tryz.underlying23 hi hz0 hz1 hz2 rfl (by omega) (.slice AW W.length cW) (W.length) (aW W) (by rfl) ((show World.ownsRow w4.drew 0 _ 5 _ (W.length) (aW W) from HBB.oW).alloc _) _ _ 1 1 (ChD.cells c) (by rfl) (cD (by exact Blk.new w4.drew _ #[.int .i64 c.a,.int .i64 c.s,.int .i64 c.st,.slice c.DA c.deps.length c.DC,.slice c.OA c.ops.length c.OC]) (n:=5) rfl) (by intro u hu;exact dY [c] u (by simpa[aW] using hu)) (by simp only[maxLen];omega) (by omega) (uU _) ?_;intro v9 w9 ho9 hg9 hat9;obtain⟨B9,C9,hv9,-⟩:=ho9.form (by omega)
       subst hv9;refine hK _ _ ?_;clear hK K;try simp only[Act.put,zA,zB,zC]
       have hb9:Blk w9 g 88 _:=(HBB.blk.keep (sM w4.drew _ _ HBB.blk.lt)).grown hg9 HBB.neg.2;have t1:=cZ hb9 1 rfl;have t2:w9.frozen? ⟨g,1,none⟩=false:=hb9.frozen 1;refine wpAny_take (i:=8) (v:=?_) rfl (by kernel_rfl) (by kernel_rfl) (by kernel_rfl) (fun _ _ _ h=>h) (Or.inl ⟨by rfl,?_⟩) ?_
       rotate_left
       ·(intro w;go_simp;try with_reducible rfl)
       try simp only[Act.put,zA,zB,zC]
       refine wpAny_take (i:=9) (v:=?_) rfl (by kernel_rfl) (by kernel_rfl) (by kernel_rfl) (fun _ _ _ h=>h) (Or.inl ⟨by rfl,?_⟩) ?_
       rotate_left
       ·(intro w;go_simp;try with_reducible rfl)
       try simp only[Act.put,zA,zB,zC]
       refine wpAny_ready (rs:=[10]) (by kernel_rfl) (by simp) ?_;refine sR rfl (fun K hK=>?_) tC;go_simp;refine hK _ _ ?_;clear hK K;try simp only[Act.put,zA,zB,zC]
       refine wpAny_done (by kernel_rfl) ?_ _;obtain⟨F9,hB9,hF9,hC9⟩:=HBB.pushW (o:=_) ho9 hg9 hat9 hcD
       go_wp2_with fail
       go_ret;exact⟨by rw[HT2.o];rfl,by rw[HT2.o];exact⟨F9,_,_,hB9,fun k hk=>(hF9 k hk).imp id fun h=>sY HW.o.drew.size h,(eH HW.o.drew).trans hC9 fun _ _ h=>h⟩⟩
      ·skip
       go_simp;refine hK _ _ ?_;clear hK K;try simp only[Act.put,zA,zB,zC]
       refine wpAny_ready (rs:=[4,6]) (by kernel_rfl) (by simp) ?_;refine sR rfl (fun K hK=>?_) (sR rfl (fun K hK=>?_) tC)
       ·skip
        go_simp;refine hK _ _ ?_;clear hK K;try simp only[Act.put,zA,zB,zC]
        refine wpAny_ready (rs:=[6]) (by kernel_rfl) (by simp) ?_;refine sR rfl (fun K hK=>?_) tC;go_simp;refine hK _ _ ?_;clear hK K;try simp only[Act.put,zA,zB,zC]
        refine wpAny_ready (rs:=[7]) (by kernel_rfl) (by simp) ?_;refine sR rfl (fun K hK=>?_) tC;refine bA _ (by rfl) (.tmp 68) (.tmp 70) 23 (by rfl) 0 33 i0 _ 5 72 Tryz.underlying23 hi hz0 hz1 hz2 rfl (by omega) (.slice AW W.length cW) (W.length) (aW W) (by rfl) ((show World.ownsRow w4.drew 0 _ 5 _ (W.length) (aW W) from HBB.oW).alloc _) _ _ 1 1 (ChD.cells c) (by rfl) (cD (by exact Blk.new w4.drew _ #[.int .i64 c.a,.int .i64 c.s,.int .i64 c.st,.slice c.DA c.deps.length c.DC,.slice c.OA c.ops.length c.OC]) (n:=5) rfl) (by intro u hu;exact dY [c] u (by simpa[aW] using hu)) (by simp only[maxLen];omega) (by omega) (uU _) ?_;intro v9 w9 ho9 hg9 hat9;obtain⟨B9,C9,hv9,-⟩:=ho9.form (by omega)
        subst hv9;refine hK _ _ ?_;clear hK K;try simp only[Act.put,zA,zB,zC]
        have hb9:Blk w9 g 88 _:=(HBB.blk.keep (sM w4.drew _ _ HBB.blk.lt)).grown hg9 HBB.neg.2;have t1:=cZ hb9 1 rfl;have t2:w9.frozen? ⟨g,1,none⟩=false:=hb9.frozen 1;refine wpAny_take (i:=8) (v:=?_) rfl (by kernel_rfl) (by kernel_rfl) (by kernel_rfl) (fun _ _ _ h=>h) (Or.inl ⟨by rfl,?_⟩) ?_
        rotate_left
        ·(intro w;go_simp;try with_reducible rfl)
        try simp only[Act.put,zA,zB,zC]
        refine wpAny_take (i:=9) (v:=?_) rfl (by kernel_rfl) (by kernel_rfl) (by kernel_rfl) (fun _ _ _ h=>h) (Or.inl ⟨by rfl,?_⟩) ?_
        rotate_left
        ·(intro w;go_simp;try with_reducible rfl)
        try simp only[Act.put,zA,zB,zC]
        refine wpAny_ready (rs:=[10]) (by kernel_rfl) (by simp) ?_;refine sR rfl (fun K hK=>?_) tC;go_simp;refine hK _ _ ?_;clear hK K;try simp only[Act.put,zA,zB,zC]
        refine wpAny_done (by kernel_rfl) ?_ _;obtain⟨F9,hB9,hF9,hC9⟩:=HBB.pushW (o:=_) ho9 hg9 hat9 hcD
        go_wp2_with fail
        go_ret;exact⟨by rw[HT2.o];rfl,by rw[HT2.o];exact⟨F9,_,_,hB9,fun k hk=>(hF9 k hk).imp id fun h=>sY HW.o.drew.size h,(eH HW.o.drew).trans hC9 fun _ _ h=>h⟩⟩
       ·skip
        go_simp;refine hK _ _ ?_;clear hK K;try simp only[Act.put,zA,zB,zC]
        refine wpAny_ready (rs:=[4]) (by kernel_rfl) (by simp) ?_;refine sR rfl (fun K hK=>?_) tC;go_simp;refine hK _ _ ?_;clear hK K;try simp only[Act.put,zA,zB,zC]
        refine wpAny_ready (rs:=[7]) (by kernel_rfl) (by simp) ?_;refine sR rfl (fun K hK=>?_) tC;refine bA _ (by rfl) (.tmp 68) (.tmp 70) 23 (by rfl) 0 33 i0 _ 5 72 Tryz.underlying23 hi hz0 hz1 hz2 rfl (by omega) (.slice AW W.length cW) (W.length) (aW W) (by rfl) ((show World.ownsRow w4.drew 0 _ 5 _ (W.length) (aW W) from HBB.oW).alloc _) _ _ 1 1 (ChD.cells c) (by rfl) (cD (by exact Blk.new w4.drew _ #[.int .i64 c.a,.int .i64 c.s,.int .i64 c.st,.slice c.DA c.deps.length c.DC,.slice c.OA c.ops.length c.OC]) (n:=5) rfl) (by intro u hu;exact dY [c] u (by simpa[aW] using hu)) (by simp only[maxLen];omega) (by omega) (uU _) ?_;intro v9 w9 ho9 hg9 hat9;obtain⟨B9,C9,hv9,-⟩:=ho9.form (by omega)
        subst hv9;refine hK _ _ ?_;clear hK K;try simp only[Act.put,zA,zB,zC]
        have hb9:Blk w9 g 88 _:=(HBB.blk.keep (sM w4.drew _ _ HBB.blk.lt)).grown hg9 HBB.neg.2;have t1:=cZ hb9 1 rfl;have t2:w9.frozen? ⟨g,1,none⟩=false:=hb9.frozen 1;refine wpAny_take (i:=8) (v:=?_) rfl (by kernel_rfl) (by kernel_rfl) (by kernel_rfl) (fun _ _ _ h=>h) (Or.inl ⟨by rfl,?_⟩) ?_
        rotate_left
        ·(intro w;go_simp;try with_reducible rfl)
        try simp only[Act.put,zA,zB,zC]
        refine wpAny_take (i:=9) (v:=?_) rfl (by kernel_rfl) (by kernel_rfl) (by kernel_rfl) (fun _ _ _ h=>h) (Or.inl ⟨by rfl,?_⟩) ?_
        rotate_left
        ·(intro w;go_simp;try with_reducible rfl)
        try simp only[Act.put,zA,zB,zC]
        refine wpAny_ready (rs:=[10]) (by kernel_rfl) (by simp) ?_;refine sR rfl (fun K hK=>?_) tC;go_simp;refine hK _ _ ?_;clear hK K;try simp only[Act.put,zA,zB,zC]
        refine wpAny_done (by kernel_rfl) ?_ _;obtain⟨F9,hB9,hF9,hC9⟩:=HBB.pushW (o:=_) ho9 hg9 hat9 hcD
        go_wp2_with fail
        go_ret;exact⟨by rw[HT2.o];rfl,by rw[HT2.o];exact⟨F9,_,_,hB9,fun k hk=>(hF9 k hk).imp id fun h=>sY HW.o.drew.size h,(eH HW.o.drew).trans hC9 fun _ _ h=>h⟩⟩
     |true =>
      have HT2:Hid (aS L W c=if bR L c=false then ((L,W),7) else (bO W.length (L++[c]) W,0)):=by show _=_;rw[HT.o,hrd,sT (by simp)]
      have HRD:=Hi hrd;clear HT hrd;obtain⟨c0,c1,c2,c3,c4⟩:=ce5 HQ.o
      have C3:=sfits_any L W c g w4 (HB.o.below HW.o).br ((HC.o.keep fun k hk=>HW.o.block k (HD.o k hk).1).more fun k hk=>sD (HD.o k hk).1 HW.o.size) HI.o.bk.top HI.o.bk.nodup (fun x hx=>eE (HI.o.bk.err x hx).1) (by omega) HE0.o;unfold ChD.v at C3;go_wp2_with fail
      go_at_call 80;refine C3.mono ?_;rintro e w5 ⟨rfl,hb⟩;replace HQ:=Hi (HQ.o.keep (hb.block _ HQ.o.lt));replace HW:Hid (Below w.heap.size w w5):=HW.o.trans (hb.mono HW.o.size);clear hb;clear C3 c0 c1 c2 c3 c4;cases hft:bR L c with
      |false =>
       have HT3:Hid (aS L W c=((L,W),7)):=by show _=_;rw[HT2.o,tA hft]
       go_wp2_with fail
       go_ret;exact⟨by rw[HT3.o];rfl,by rw[HT3.o];exact⟨F,_,_,HB.o.below HW.o,fun k hk=>.inl hk,eH HW.o⟩⟩
      |true =>
       have HT3:Hid (aS L W c=(bO W.length (L++[c]) W,0)):=by show _=_;rw[HT2.o,sT (by rw[hft];simp)]
       have HI2:Hid (Inv (L++[c]) W):=HI.o.start HE0.o HV.o HN1.o HN2.o HRD.o hft (by omega);clear hft HT2;have hBM:=HB.o.below HW.o;have g0:=cZ hBM.blk 0 rfl;have hglt:g<w5.heap.size:=hBM.blk.lt;have hqlt:w.heap.size<w5.heap.size:=HQ.o.lt;obtain⟨c0,c1,c2,c3,c4⟩:=ce5 HQ.o
       have HBB:BM D F w5.drew g L W _ _:=hBM.below (sA _ w5).drew;have hcD:ChIn D w5.drew c:=HC.o.keep fun k hk=>HW.o.drew.block k (HD.o k hk).1
       clear hBM;go_upto_region 25 with fail
       go_cut [] (fun wc=>∃VL1 F1,Hid (BM D F1 wc g (L++[c]) W VL1 (.slice AW W.length cW))∧Hid (∀k,F1 k→F k∨w.heap.size≤k)∧Hid (Chg F w wc))
       case first =>
        skip
        refine wp_region_any (by kernel_rfl) ?_;change wpAny _ _ _ _ _ _ _ (World.drew _);refine wpAny_take (i:=0) (v:=?_) rfl (by kernel_rfl) (by kernel_rfl) (by kernel_rfl) (fun _ _ _ h=>h) (Or.inl ⟨by rfl,?_⟩) ?_
        rotate_left
        ·(intro w;go_simp;try with_reducible rfl)
        try simp only[Act.put,zA,zB,zC]
        refine wpAny_take (i:=1) (v:=?_) rfl (by kernel_rfl) (by kernel_rfl) (by kernel_rfl) (fun _ _ _ h=>h) (Or.inl ⟨by rfl,?_⟩) ?_
        rotate_left
        ·(intro w;go_simp;try with_reducible rfl)
        try simp only[Act.put,zA,zB,zC]
        refine wpAny_take (i:=2) (v:=?_) rfl (by kernel_rfl) (by kernel_rfl) (by kernel_rfl) (fun _ _ _ h=>h) (Or.inl ⟨by rfl,?_⟩) ?_
        rotate_left
        ·(intro w;go_simp;try with_reducible rfl)
        try simp only[Act.put,zA,zB,zC]
        refine wpAny_take (i:=3) (v:=?_) rfl (by kernel_rfl) (by kernel_rfl) (by kernel_rfl) (fun _ _ _ h=>h) (Or.inl ⟨by rfl,?_⟩) ?_
        rotate_left
        ·(intro w;go_simp;try with_reducible rfl)
        try simp only[Act.put,zA,zB,zC]
        refine wpAny_ready (rs:=[4,5]) (by kernel_rfl) (by simp) ?_;refine sR rfl (fun K hK=>?_) (sR rfl (fun K hK=>?_) tC)
        ·skip
         go_simp;refine hK _ _ ?_;clear hK K;try simp only[Act.put,zA,zB,zC]
         refine wpAny_ready (rs:=[5]) (by kernel_rfl) (by simp) ?_;refine sR rfl (fun K hK=>?_) tC;go_simp;refine hK _ _ ?_;clear hK K;try simp only[Act.put,zA,zB,zC]
         refine wpAny_ready (rs:=[6]) (by kernel_rfl) (by simp) ?_;refine sR rfl (fun K hK=>?_) tC;go_simp;refine hK _ _ ?_;clear hK K;try simp only[Act.put,zA,zB,zC]
         refine wpAny_ready (rs:=[7]) (by kernel_rfl) (by simp) ?_;refine sR rfl (fun K hK=>?_) tC;refine bA _ (by rfl) (.tmp 83) (.tmp 85) 23 (by rfl) 0 33 i0 _ 5 72 Tryz.underlying23 hi hz0 hz1 hz2 rfl (by omega) (.slice AL L.length cL) (L.length) (aW L) (by rfl) ((show World.ownsRow w5.drew 0 _ 5 _ (L.length) (aW L) from HBB.oL).alloc _) _ _ 1 1 (ChD.cells c) (by rfl) (cD (by exact Blk.new w5.drew _ #[.int .i64 c.a,.int .i64 c.s,.int .i64 c.st,.slice c.DA c.deps.length c.DC,.slice c.OA c.ops.length c.OC]) (n:=5) rfl) (by intro u hu;exact dY [c] u (by simpa[aW] using hu)) (by simp only[maxLen];omega) (by omega) (uU _) ?_;intro v9 w9 ho9 hg9 hat9;obtain⟨B9,C9,hv9,-⟩:=ho9.form (by omega)
         subst hv9;refine hK _ _ ?_;clear hK K;try simp only[Act.put,zA,zB,zC]
         have hb9:Blk w9 g 88 _:=(HBB.blk.keep (sM w5.drew _ _ HBB.blk.lt)).grown hg9 HBB.neg.1;have t1:=cZ hb9 0 rfl;have t2:w9.frozen? ⟨g,0,none⟩=false:=hb9.frozen 0;refine wpAny_take (i:=8) (v:=?_) rfl (by kernel_rfl) (by kernel_rfl) (by kernel_rfl) (fun _ _ _ h=>h) (Or.inl ⟨by rfl,?_⟩) ?_
         rotate_left
         ·(intro w;go_simp;try with_reducible rfl)
         try simp only[Act.put,zA,zB,zC]
         refine wpAny_take (i:=9) (v:=?_) rfl (by kernel_rfl) (by kernel_rfl) (by kernel_rfl) (fun _ _ _ h=>h) (Or.inl ⟨by rfl,?_⟩) ?_
         rotate_left
         ·(intro w;go_simp;try with_reducible rfl)
         try simp only[Act.put,zA,zB,zC]
         refine wpAny_ready (rs:=[10]) (by kernel_rfl) (by simp) ?_;refine sR rfl (fun K hK=>?_) tC;go_simp;refine hK _ _ ?_;clear hK K;try simp only[Act.put,zA,zB,zC]
         refine wpAny_done (by kernel_rfl) ?_ _;obtain⟨F9,hB9,hF9,hC9⟩:=HBB.pushL (o:=_) ho9 hg9 hat9 hcD
         go_wp2_with fail
         go_meet
         case rel=>exact⟨_,F9,hB9,fun k hk=>(hF9 k hk).imp id fun h=>sY HW.o.drew.size h,(eH HW.o.drew).trans hC9 fun _ _ h=>h⟩
        ·skip
         go_simp;refine hK _ _ ?_;clear hK K;try simp only[Act.put,zA,zB,zC]
         refine wpAny_ready (rs:=[4,6]) (by kernel_rfl) (by simp) ?_;refine sR rfl (fun K hK=>?_) (sR rfl (fun K hK=>?_) tC)
         ·skip
          go_simp;refine hK _ _ ?_;clear hK K;try simp only[Act.put,zA,zB,zC]
          refine wpAny_ready (rs:=[6]) (by kernel_rfl) (by simp) ?_;refine sR rfl (fun K hK=>?_) tC;go_simp;refine hK _ _ ?_;clear hK K;try simp only[Act.put,zA,zB,zC]
          refine wpAny_ready (rs:=[7]) (by kernel_rfl) (by simp) ?_;refine sR rfl (fun K hK=>?_) tC;refine bA _ (by rfl) (.tmp 83) (.tmp 85) 23 (by rfl) 0 33 i0 _ 5 72 Tryz.underlying23 hi hz0 hz1 hz2 rfl (by omega) (.slice AL L.length cL) (L.length) (aW L) (by rfl) ((show World.ownsRow w5.drew 0 _ 5 _ (L.length) (aW L) from HBB.oL).alloc _) _ _ 1 1 (ChD.cells c) (by rfl) (cD (by exact Blk.new w5.drew _ #[.int .i64 c.a,.int .i64 c.s,.int .i64 c.st,.slice c.DA c.deps.length c.DC,.slice c.OA c.ops.length c.OC]) (n:=5) rfl) (by intro u hu;exact dY [c] u (by simpa[aW] using hu)) (by simp only[maxLen];omega) (by omega) (uU _) ?_;intro v9 w9 ho9 hg9 hat9;obtain⟨B9,C9,hv9,-⟩:=ho9.form (by omega)
          subst hv9;refine hK _ _ ?_;clear hK K;try simp only[Act.put,zA,zB,zC]
          have hb9:Blk w9 g 88 _:=(HBB.blk.keep (sM w5.drew _ _ HBB.blk.lt)).grown hg9 HBB.neg.1;have t1:=cZ hb9 0 rfl;have t2:w9.frozen? ⟨g,0,none⟩=false:=hb9.frozen 0;refine wpAny_take (i:=8) (v:=?_) rfl (by kernel_rfl) (by kernel_rfl) (by kernel_rfl) (fun _ _ _ h=>h) (Or.inl ⟨by rfl,?_⟩) ?_
          rotate_left
          ·(intro w;go_simp;try with_reducible rfl)
          try simp only[Act.put,zA,zB,zC]
          refine wpAny_take (i:=9) (v:=?_) rfl (by kernel_rfl) (by kernel_rfl) (by kernel_rfl) (fun _ _ _ h=>h) (Or.inl ⟨by rfl,?_⟩) ?_
          rotate_left
          ·(intro w;go_simp;try with_reducible rfl)
          try simp only[Act.put,zA,zB,zC]
          refine wpAny_ready (rs:=[10]) (by kernel_rfl) (by simp) ?_;refine sR rfl (fun K hK=>?_) tC;go_simp;refine hK _ _ ?_;clear hK K;try simp only[Act.put,zA,zB,zC]
          refine wpAny_done (by kernel_rfl) ?_ _;obtain⟨F9,hB9,hF9,hC9⟩:=HBB.pushL (o:=_) ho9 hg9 hat9 hcD
          go_wp2_with fail
          go_meet
          case rel=>exact⟨_,F9,hB9,fun k hk=>(hF9 k hk).imp id fun h=>sY HW.o.drew.size h,(eH HW.o.drew).trans hC9 fun _ _ h=>h⟩
         ·skip
          go_simp;refine hK _ _ ?_;clear hK K;try simp only[Act.put,zA,zB,zC]
          refine wpAny_ready (rs:=[4]) (by kernel_rfl) (by simp) ?_;refine sR rfl (fun K hK=>?_) tC;go_simp;refine hK _ _ ?_;clear hK K;try simp only[Act.put,zA,zB,zC]
          refine wpAny_ready (rs:=[7]) (by kernel_rfl) (by simp) ?_;refine sR rfl (fun K hK=>?_) tC;refine bA _ (by rfl) (.tmp 83) (.tmp 85) 23 (by rfl) 0 33 i0 _ 5 72 Tryz.underlying23 hi hz0 hz1 hz2 rfl (by omega) (.slice AL L.length cL) (L.length) (aW L) (by rfl) ((show World.ownsRow w5.drew 0 _ 5 _ (L.length) (aW L) from HBB.oL).alloc _) _ _ 1 1 (ChD.cells c) (by rfl) (cD (by exact Blk.new w5.drew _ #[.int .i64 c.a,.int .i64 c.s,.int .i64 c.st,.slice c.DA c.deps.length c.DC,.slice c.OA c.ops.length c.OC]) (n:=5) rfl) (by intro u hu;exact dY [c] u (by simpa[aW] using hu)) (by simp only[maxLen];omega) (by omega) (uU _) ?_;intro v9 w9 ho9 hg9 hat9;obtain⟨B9,C9,hv9,-⟩:=ho9.form (by omega)
          subst hv9;refine hK _ _ ?_;clear hK K;try simp only[Act.put,zA,zB,zC]
          have hb9:Blk w9 g 88 _:=(HBB.blk.keep (sM w5.drew _ _ HBB.blk.lt)).grown hg9 HBB.neg.1;have t1:=cZ hb9 0 rfl;have t2:w9.frozen? ⟨g,0,none⟩=false:=hb9.frozen 0;refine wpAny_take (i:=8) (v:=?_) rfl (by kernel_rfl) (by kernel_rfl) (by kernel_rfl) (fun _ _ _ h=>h) (Or.inl ⟨by rfl,?_⟩) ?_
          rotate_left
          ·(intro w;go_simp;try with_reducible rfl)
          try simp only[Act.put,zA,zB,zC]
          refine wpAny_take (i:=9) (v:=?_) rfl (by kernel_rfl) (by kernel_rfl) (by kernel_rfl) (fun _ _ _ h=>h) (Or.inl ⟨by rfl,?_⟩) ?_
          rotate_left
          ·(intro w;go_simp;try with_reducible rfl)
          try simp only[Act.put,zA,zB,zC]
          refine wpAny_ready (rs:=[10]) (by kernel_rfl) (by simp) ?_;refine sR rfl (fun K hK=>?_) tC;go_simp;refine hK _ _ ?_;clear hK K;try simp only[Act.put,zA,zB,zC]
          refine wpAny_done (by kernel_rfl) ?_ _;obtain⟨F9,hB9,hF9,hC9⟩:=HBB.pushL (o:=_) ho9 hg9 hat9 hcD
          go_wp2_with fail
          go_meet
          case rel=>exact⟨_,F9,hB9,fun k hk=>(hF9 k hk).imp id fun h=>sY HW.o.drew.size h,(eH HW.o.drew).trans hC9 fun _ _ h=>h⟩
       case rest =>
        obtain⟨VL0,F0,HB0,HF0,HC0⟩:=hcut
        clear HB HQ HW HRL HRW HI HRD HN1 HN2 hcD HBB g0 hglt hqlt c0 c1 c2 c3 c4 HC HV HE HE0;obtain⟨w9,hw9⟩:∃w9,w9=wc:=⟨_,rfl⟩
        subst hw9;go_wp2_with fail
        go_loopw [10,11,12,13,14] (fun _ _ _ _ _ wr=>∃(L1 W1:List ChD) (VL1 VW1:Value) (F1:Nat→Prop),Hid (BM D F1 wr g L1 W1 VL1 VW1)∧Hid (Inv L1 W1)∧Hid (bO W.length (L++[c]) W=bO W1.length L1 W1)∧Hid (∀k,F1 k→F k∨w.heap.size≤k)∧Hid (Chg F w wr)) (fun _ _ _ _ _ wr=>qJ wr g)
        case atStart=>exact⟨_,_,_,_,_,HB0,HI2,rfl,HF0,HC0⟩
        case round =>
         clear HB0 HF0 HC0 HI2;obtain⟨L1,W1,VL1,VW1,F1,HB1,HI1,HS1,HF1,HC1⟩:=hrel
         obtain⟨A1,k1,hv1,hnk,hkm,hr1⟩:=aC.of_own HB1.o.oW
         subst hv1;have HR1:Hid (aC (fun k=>k<wr.heap.size) wr 5 A1 W1.length (aW W1)):=hr1.more fun k hk=>(aD HB1.o.oW hk).2
         obtain⟨wo,hwo⟩:∃wo,wo=wr:=⟨_,rfl⟩
         subst hwo;have hml1:L1.length+W1.length≤120:=HI1.o.most;obtain⟨n,hn⟩:∃n,W1.length=n:=⟨_,rfl⟩
         have HN:=Hi hn;rw[hn]at hnk hml1;clear hr1 hn;go_wp2_with fail
         go_loopw [10,11,12] (fun _ s11 s12 wr=>∃(i:Nat) (best:Option (Nat×Rf)),s12=.int .i64 i∧i≤n∧s11=.int .i64 (atP best)∧Hid (fE (aU L1) W1 i best)∧Hid (Below wo.heap.size wo wr)) (fun _ _ s12 _=>n-(intOf s12).toNat)
         case atStart=>exact⟨0,none,rfl,by omega,rfl,fE.start _ _,sA _ _⟩
         case round =>
          obtain⟨i,best,rfl,hi,rfl,HSC,HWI⟩:=hrel
          have hBM:=HB1.o.below HWI.o;have g1:wr.cell? ⟨g,1,none⟩=some (.slice A1 n k1):=by rw[←HN.o];exact hBM.blk.cell 1
          by_cases hlt:i<n
          ·have hd:decide ((i:Int)<(n:Int))=true:=sH (by omega);have hd0:decide (0≤(i:Int))=true:=sH (by omega);obtain⟨y,hy⟩:∃y,W1[i]?=some y:=⟨_,sC (by rw[HN.o];exact hlt)⟩
           have HY:=Hi hy;obtain⟨b,o,rfl,-,hcy⟩:=(aA HR1.o HWI.o).at_ (by rw[HN.o];omega) (by omega)
           have y0:wr.cell? ⟨b,o+i*5,none⟩=some (.int .i64 y.a):=hcy _ _ (aI hy 0 (by omega));have y1:wr.cell? ⟨b,o+i*5+1,none⟩=some (.int .i64 y.s):=hcy _ _ (aI hy 1 (by omega));have y2:wr.cell? ⟨b,o+i*5+2,none⟩=some (.int .i64 y.st):=hcy _ _ (aI hy 2 (by omega));have y3:wr.cell? ⟨b,o+i*5+3,none⟩=some (.slice y.DA y.deps.length y.DC):=hcy _ _ (aI hy 3 (by omega));have y4:wr.cell? ⟨b,o+i*5+4,none⟩=some (.slice y.OA y.ops.length y.OC):=hcy _ _ (aI hy 4 (by omega));have C4:=qR L1 W1 y g wr hBM.br ((hBM.inW y (sJ hy)).more fun k hk=>(hBM.hD k hk).1) (by omega);unfold ChD.v at C4;clear hcy hy hBM;go_wp2_with fail
           go_at_call 79;refine C4.mono ?_;rintro e w6 ⟨rfl,hb⟩;replace HWI:Hid (Below wo.heap.size wo w6):=HWI.o.trans (hb.mono HWI.o.size);clear C4 hb y0 y1 y2 y3 y4 g1;generalize hrb:aU L1 y=rb;have HRB:=Hi hrb;clear hrb;go_upto_region 31 with fail
           go_cut [130] (fun s130 wc=>s130=.bool (rb&&eK best y.rf)∧Hid (Below wo.heap.size wo wc))
           case first =>
            cases rb with
            |false =>
             go_wp2_with fail
             go_quiet (fail)
             change Exit.then _ _ _ _ (w6.drewN nq);replace HWI:Hid (Below wo.heap.size wo (w6.drewN nq)):=aH HWI.o nq;go_wp2_with fail
             go_meet
             case rel=>exact⟨rfl,HWI⟩
            |true =>
             cases best with
             |none =>
              have ha:atP none=-1:=rfl;rw[ha];clear ha;go_wp2_with fail
              go_quiet (fail)
              change Exit.then _ _ _ _ (w6.drewN nq);replace HWI:Hid (Below wo.heap.size wo (w6.drewN nq)):=aH HWI.o nq;go_wp2_with fail
              go_meet
              case rel=>exact⟨rfl,HWI⟩
             |some jr =>
              obtain⟨j,r⟩:=jr
              obtain⟨z,hz,hzr⟩:=HSC.o.2 j r rfl
              subst hzr;have hjn:j<n:=by have:=(sE.1 hz).1;rwa [HN.o]at this
              have ha:atP (some (j,z.rf))=(j:Int):=rfl;rw[ha];have hd1:decide ((j:Int)<0)=false:=sI (by omega);have hd2:decide (0≤(j:Int))=true:=sH (by omega);have hd3:decide ((j:Int)<(n:Int))=true:=sH (by omega);have hBM:=HB1.o.below HWI.o;have g1:w6.cell? ⟨g,1,none⟩=some (.slice (some ⟨b,o,none⟩) n k1):=by rw[←HN.o];exact hBM.blk.cell 1
              have hgl:g<w6.heap.size:=hBM.blk.lt;obtain⟨b',o',hA,hbl,hcy⟩:=(aA HR1.o HWI.o).at_ (by rw[HN.o];omega) (by omega)
              simp only[tW,Addr.mk.injEq,and_true]at hA;obtain⟨rfl,rfl⟩:=hA
              have y0:w6.cell? ⟨b,o+i*5,none⟩=some (.int .i64 y.a):=hcy _ _ (aI HY.o 0 (by omega));have y1:w6.cell? ⟨b,o+i*5+1,none⟩=some (.int .i64 y.s):=hcy _ _ (aI HY.o 1 (by omega));have y2:w6.cell? ⟨b,o+i*5+2,none⟩=some (.int .i64 y.st):=hcy _ _ (aI HY.o 2 (by omega));have y3:w6.cell? ⟨b,o+i*5+3,none⟩=some (.slice y.DA y.deps.length y.DC):=hcy _ _ (aI HY.o 3 (by omega));have y4:w6.cell? ⟨b,o+i*5+4,none⟩=some (.slice y.OA y.ops.length y.OC):=hcy _ _ (aI HY.o 4 (by omega));have z0:w6.cell? ⟨b,o+j*5,none⟩=some (.int .i64 z.a):=hcy _ _ (aI hz 0 (by omega));have z1:w6.cell? ⟨b,o+j*5+1,none⟩=some (.int .i64 z.s):=hcy _ _ (aI hz 1 (by omega));have z2:w6.cell? ⟨b,o+j*5+2,none⟩=some (.int .i64 z.st):=hcy _ _ (aI hz 2 (by omega));have z3:w6.cell? ⟨b,o+j*5+3,none⟩=some (.slice z.DA z.deps.length z.DC):=hcy _ _ (aI hz 3 (by omega));have z4:w6.cell? ⟨b,o+j*5+4,none⟩=some (.slice z.OA z.ops.length z.OC):=hcy _ _ (aI hz 4 (by omega));have KS:∀V:World,Below w6.heap.size w6 V→V.cell? ⟨g,1,none⟩=some (.slice (some ⟨b,o,none⟩) n k1)∧V.cell? ⟨b,o+i*5,none⟩=some (.int .i64 y.a)∧V.cell? ⟨b,o+i*5+1,none⟩=some (.int .i64 y.s)∧V.cell? ⟨b,o+i*5+2,none⟩=some (.int .i64 y.st)∧V.cell? ⟨b,o+i*5+3,none⟩=some (.slice y.DA y.deps.length y.DC)∧V.cell? ⟨b,o+i*5+4,none⟩=some (.slice y.OA y.ops.length y.OC)∧V.cell? ⟨b,o+j*5,none⟩=some (.int .i64 z.a)∧V.cell? ⟨b,o+j*5+1,none⟩=some (.int .i64 z.s)∧V.cell? ⟨b,o+j*5+2,none⟩=some (.int .i64 z.st)∧V.cell? ⟨b,o+j*5+3,none⟩=some (.slice z.DA z.deps.length z.DC)∧V.cell? ⟨b,o+j*5+4,none⟩=some (.slice z.OA z.ops.length z.OC)∧Below w6.heap.size w6 V:=fun V hv=>by
               have e1:∀i,V.cell? ⟨g,i,none⟩=w6.cell? ⟨g,i,none⟩:=fun i=>sK (hv.block _ hgl)
               have e2:∀i,V.cell? ⟨b,i,none⟩=w6.cell? ⟨b,i,none⟩:=fun i=>sK (hv.block _ hbl)
               rw[e1];simp only[e2];exact⟨g1,y0,y1,y2,y3,y4,z0,z1,z2,z3,z4,hv⟩
              clear hcy hz hBM HY;go_wp2_with fail
              go_region_held3 (fun w'=>w'.cell? ⟨g,1,none⟩=some (.slice (some ⟨b,o,none⟩) n k1)∧w'.cell? ⟨b,o+i*5,none⟩=some (.int .i64 y.a)∧w'.cell? ⟨b,o+i*5+1,none⟩=some (.int .i64 y.s)∧w'.cell? ⟨b,o+i*5+2,none⟩=some (.int .i64 y.st)∧w'.cell? ⟨b,o+i*5+3,none⟩=some (.slice y.DA y.deps.length y.DC)∧w'.cell? ⟨b,o+i*5+4,none⟩=some (.slice y.OA y.ops.length y.OC)∧w'.cell? ⟨b,o+j*5,none⟩=some (.int .i64 z.a)∧w'.cell? ⟨b,o+j*5+1,none⟩=some (.int .i64 z.s)∧w'.cell? ⟨b,o+j*5+2,none⟩=some (.int .i64 z.st)∧w'.cell? ⟨b,o+j*5+3,none⟩=some (.slice z.DA z.deps.length z.DC)∧w'.cell? ⟨b,o+j*5+4,none⟩=some (.slice z.OA z.ops.length z.OC)∧Below w6.heap.size w6 w') (first|exact KS _ (sA _ w6).drew|exact q|go_keep)
               ((first
                 |(go_at_call 55;refine(eI _ _ _ _ _ _ (by rfl) (by rfl) (by rfl)).mono ?_;rintro e w7 ⟨rfl,hb7⟩;have q:=KS w7 (by first|exact bT q.2.2.2.2.2.2.2.2.2.2.2 (sB _) hb7|exact bT (sA _ w6).drew (sB _) hb7))
                 |(go_at_call 76;refine(pC (y.a,y.s) (z.a,z.s) _).mono ?_;rintro e w7 ⟨rfl,hb7⟩;have q:=KS w7 (by first|exact bT q.2.2.2.2.2.2.2.2.2.2.2 (sB _) hb7|exact bT (sA _ w6).drew (sB _) hb7))))
              all_goals
               replace HWI:Hid (Below wo.heap.size wo w7):=HWI.o.trans (Below.mono q.2.2.2.2.2.2.2.2.2.2.2 HWI.o.size);clear q y0 y1 y2 y3 y4 z0 z1 z2 z3 z4 g1 KS;go_wp2_with fail
               go_meet
               case rel=>exact⟨rfl,HWI⟩
           case rest =>
            obtain⟨rfl,HWI⟩:=hcut
            generalize htk:(rb&&eK best y.rf)=tk;have HTK:Hid ((aU L1 y&&eK best y.rf)=tk):=by show _=_;rw[HRB.o];exact htk
            clear htk;cases tk with
            |true =>
             have HS2:=Hi (HSC.o.take HY.o HTK.o);clear HSC HTK HRB;go_wp2_with fail
             go_roundw
             case rel=>exact⟨i+1,some (i,y.rf),by go_num,by omega,rfl,HS2,HWI⟩
             case measure=>simp[intOf];omega
            |false =>
             have HS2:=Hi (HSC.o.skip HY.o HTK.o);clear HSC HTK HRB;go_wp2_with fail
             go_roundw
             case rel=>exact⟨i+1,best,by go_num,by omega,rfl,HS2,HWI⟩
             case measure=>simp[intOf];omega
          ·have hd:decide ((i:Int)<(n:Int))=false:=sI (by omega);have hin:i=n:=by omega
           have HLA:Hid (bN (aU L1) W1=best):=fE.done (by rw[HN.o,←hin];exact HSC.o);clear hin;cases best with
           |none =>
            have ha:atP none=-1:=rfl;rw[ha];clear ha;go_wp2_with fail
            go_ret;exact⟨by rw[HT3.o];rfl,by rw[HT3.o,HS1.o,pH HLA.o];exact⟨F1,_,_,HB1.o.below HWI.o,HF1.o,HC1.o.trans (eH HWI.o) fun _ _ h=>h⟩⟩
           |some jr =>
            obtain⟨j,r⟩:=jr
            obtain⟨x,hx,hxr⟩:=HSC.o.2 j r rfl
            have HX:=Hi hx;have hjn:j<n:=by have:=(sE.1 hx).1;rwa [HN.o]at this
            have HS2:=Hi (oM HLA.o hx);have ha:atP (some (j,r))=(j:Int):=rfl;rw[ha];clear ha;have hd1:decide ((j:Int)<0)=false:=sI (by omega);have hd2:decide (0≤(j:Int))=true:=sH (by omega);have hd3:decide ((j:Int)<(n:Int))=true:=sH (by omega);obtain⟨b,cap,hA,-⟩:=HB1.o.oW.form (by rw[HN.o];omega)
            simp only[tS,true_and]at hA;obtain⟨rfl,rfl⟩:=hA
            obtain⟨b',o',hA,hbl,hcy⟩:=(aA HR1.o HWI.o).at_ (by rw[HN.o];omega) (by omega)
            simp only[tW,Addr.mk.injEq,and_true]at hA;obtain⟨rfl,rfl⟩:=hA
            have x0:wr.cell? ⟨b,j*5,none⟩=some (.int .i64 x.a):=by have:=hcy _ _ (aI hx 0 (by omega));rwa [uX]at this
            have x1:wr.cell? ⟨b,j*5+1,none⟩=some (.int .i64 x.s):=by have:=hcy _ _ (aI hx 1 (by omega));rwa [uX]at this
            have x2:wr.cell? ⟨b,j*5+2,none⟩=some (.int .i64 x.st):=by have:=hcy _ _ (aI hx 2 (by omega));rwa [uX]at this
            have x3:wr.cell? ⟨b,j*5+3,none⟩=some (.slice x.DA x.deps.length x.DC):=by have:=hcy _ _ (aI hx 3 (by omega));rwa [uX]at this
            have x4:wr.cell? ⟨b,j*5+4,none⟩=some (.slice x.OA x.ops.length x.OC):=by have:=hcy _ _ (aI hx 4 (by omega));rwa [uX]at this
            clear hcy hx hxr HSC;have hgl:g<wr.heap.size:=(HB1.o.below HWI.o).blk.lt;go_upto_region 37 with fail
            have HQX:Hid (Blk (wr.alloc (.cells #[.int .i64 x.a,.int .i64 x.s,.int .i64 x.st,.slice x.DA x.deps.length x.DC,.slice x.OA x.ops.length x.OC] 33)) wr.heap.size 33 #[.int .i64 x.a,.int .i64 x.s,.int .i64 x.st,.slice x.DA x.deps.length x.DC,.slice x.OA x.ops.length x.OC]):=Blk.new wr _ _;have HWO:Hid (Below wo.heap.size wo (wr.alloc (.cells #[.int .i64 x.a,.int .i64 x.s,.int .i64 x.st,.slice x.DA x.deps.length x.DC,.slice x.OA x.ops.length x.OC] 33))):=HWI.o.alloc HWI.o.size _;clear x0 x1 x2 x3 x4 hd hd1 hgl g1;generalize wr.alloc (.cells #[.int .i64 x.a,.int .i64 x.s,.int .i64 x.st,.slice x.DA x.deps.length x.DC,.slice x.OA x.ops.length x.OC] 33)=wx at HQX HWO ⊢;have hgB:g<wr.heap.size:=(HB1.o.below HWI.o).blk.lt;generalize wr.heap.size=B0 at HQX hgB ⊢;have HBX:=Hi (HB1.o.below HWO.o);have HT:Hid (aC (fun z=>z<wx.heap.size) wx 5 (some ⟨b,0,none⟩) j (aW (W1.take j))):=by
             have:=(aA HR1.o HWO.o).take (k:=j) (by rw[HN.o];omega)
             rwa [chsC_take]at this
            have g1:wx.cell? ⟨g,1,none⟩=some (.slice (some ⟨b,0,none⟩) n k1):=by rw[←HN.o];exact HBX.o.blk.cell 1
            obtain⟨i0,hi,hz0,hz1,hz2⟩:=info_parts infoCh
            go_wp2_with (at_builtin;refine aG _ rfl (.tmp 141) (.tmp 147) _ rfl (wx.heap.size) 33 i0 _ 5 72 Tryz.underlying23 hi hz0 hz1 hz2 rfl (by omega) (.slice none 0 0) (0) (aW []) rfl (bB _ _ _ _) _ (some ⟨b,0,none⟩) (j) (k1) (aW (W1.take j)) rfl (HT.o) (dY _) ?c1 ?c2 ?c3 ?_)
            try case c1=>simp only[maxLen];omega
            try case c2=>omega
            try case c3=>exact sB _
            intro v4 w4 ho4 hg4 _;have HB4:Hid (Below wx.heap.size wx w4):=(sA _ wx).grown hg4 (sB _) (fun g e=>by cases e);replace ho4:w4.ownsRow wx.heap.size 33 5 v4 j (aW (W1.take j)):=by simpa[aW] using ho4
            have HO4:=Hi ho4;clear ho4 hg4 g1 HT;have HF:Hid (∀(v':Value) (w':World),w'.ownsRow wx.heap.size 33 5 v' (j+(n-(j+1))) (aW (W1.take j)++aW (W1.drop (j+1)))→w'.ownsRow wx.heap.size 33 5 v' (W1.eraseIdx j).length (aW (W1.eraseIdx j))):=by
             intro v' w' h;have e1:(W1.eraseIdx j).length=j+(n-(j+1)):=by rw[uP (by rw[HN.o];exact hjn),HN.o];omega
             rw[e1,vV,gT];exact h
            go_upto_region 38 with fail
            go_cut [14] (fun s14 wc=>Hid (wc.ownsRow wx.heap.size 33 5 s14 (W1.eraseIdx j).length (aW (W1.eraseIdx j)))∧Hid (Below wx.heap.size wx wc))
            case first =>
             have HCR:Hid (aC (fun x=>x<w4.heap.size) w4 5 (if k1=j+1 then some ⟨b,0,none⟩ else Option.map (fun z:Addr=>z.add ((j+1)*5)) (some ⟨b,0,none⟩)) (n-(j+1)) (aW (W1.drop (j+1)))):=by
              have:=(aA HR1.o (HWO.o.trans (HB4.o.mono HWO.o.size))).cut (cap:=k1) (k:=j+1) (by rw[HN.o];omega) (by rw[HN.o];omega)
              rwa [chsC_drop,HN.o]at this
             have g1:w4.cell? ⟨g,1,none⟩=some (.slice (some ⟨b,0,none⟩) n k1):=by rw[←HN.o];exact(HBX.o.below HB4.o).blk.cell 1
             have hw1:IntKind.i64.wrap ((j:Int)+1)=(j:Int)+1:=tH _ (by omega);have hw2:((j:Int)+1).toNat=j+1:=by omega
             have hw3:decide (0≤(j:Int)+1)=true:=sH (by omega);have hw4:(j:Int)+1≤(n:Int):=by omega
             have hw5:j+1≤n:=by omega
             have hw6:(0:Int)≤(j:Int)+1:=by omega
             by_cases hck:k1=j+1
             ·rw[tA hck]at HCR;go_wp2_with (at_builtin;refine aG _ rfl (.tmp 149) (.tmp 156) _ rfl (wx.heap.size) 33 i0 _ 5 72 Tryz.underlying23 hi hz0 hz1 hz2 rfl (by omega) (v4) (j) (aW (W1.take j)) rfl (HO4.o) _ (_) (_) (_) (aW (W1.drop (j+1))) rfl ((by simpa using HCR.o)) (dY _) ?c1 ?c2 ?c3 ?_)
              try case c1=>simp only[maxLen];omega
              try case c2=>omega
              try case c3=>exact HB4.o.size
              intro v6 w6 ho6 hg6 _;have HB6:Hid (Below wx.heap.size wx w6):=HB4.o.grown hg6 HB4.o.size (fun g hg=>(aD HO4.o hg).1);have HO6:=Hi (HF.o _ _ (by simpa using ho6));clear ho6 hg6 HF HO4 HB4 g1;go_wp2_with fail
              go_meet
              case rel=>exact⟨HO6,HB6⟩
             ·rw[sT hck]at HCR;have HC2:Hid (aC (fun x=>x<w4.heap.size) w4 5 (some ⟨b,(j+1)*5,none⟩) (n-(j+1)) (aW (W1.drop (j+1)))):=by have:=HCR.o;rw[vC,addr0]at this;exact this
              go_wp2_with (at_builtin;refine aG _ rfl (.tmp 149) (.tmp 156) _ rfl (wx.heap.size) 33 i0 _ 5 72 Tryz.underlying23 hi hz0 hz1 hz2 rfl (by omega) (v4) (j) (aW (W1.take j)) rfl (HO4.o) _ (_) (_) (_) (aW (W1.drop (j+1))) rfl ((by simpa using HC2.o)) (dY _) ?c1 ?c2 ?c3 ?_)
              try case c1=>simp only[maxLen];omega
              try case c2=>omega
              try case c3=>exact HB4.o.size
              intro v6 w6 ho6 hg6 _;have HB6:Hid (Below wx.heap.size wx w6):=HB4.o.grown hg6 HB4.o.size (fun g hg=>(aD HO4.o hg).1);have HO6:=Hi (HF.o _ _ (by simpa using ho6));clear ho6 hg6 HF HO4 HB4 g1;go_wp2_with fail
              go_meet
              case rel=>exact⟨HO6,HB6⟩
            case rest =>
             clear HO4 HB4 HF;obtain⟨HO6,HB6⟩:=hcut
             obtain⟨w8,hw8⟩:∃w8,w8=wc:=⟨_,rfl⟩
             subst hw8;obtain⟨A2,k2,hv2,-,-,-⟩:=aC.of_own HO6.o
             subst hv2;obtain⟨AL1,cL1,hvl,-,-,-⟩:=aC.of_own HB1.o.oL
             subst hvl;have hxm:=sJ HX.o;have HGD:=Hi (HI1.o.good x hxm);have HS:=Hi (HBX.o.setW (V':=.slice A2 (W1.eraseIdx j).length k2) (W':=W1.eraseIdx j) HB6.o.size (fun k hk _=>HB6.o.block k hk) (bG HO6.o fun _ _=>uU _) (.inr fun k hk=>(aD HO6.o hk).1) (fun z hz=>HBX.o.inW z (dJ hz)));have HXD:Hid (ChIn D (w8.setCell ⟨g,1,none⟩ (.slice A2 (W1.eraseIdx j).length k2)) x):=(HBX.o.inW x hxm).keep fun k hk=>(sU w8 ⟨g,1,none⟩ _ k (fun e=>(HBX.o.hD k hk).2 ((HBX.o.hF k).2 (.inl e)))).trans (HB6.o.block k (HBX.o.hD k hk).1)
             have HQY:Hid (Blk (w8.setCell ⟨g,1,none⟩ (.slice A2 (W1.eraseIdx j).length k2)) B0 33 #[.int .i64 x.a,.int .i64 x.s,.int .i64 x.st,.slice x.DA x.deps.length x.DC,.slice x.OA x.ops.length x.OC]):=(HQX.o.keep (HB6.o.block _ HQX.o.lt)).far (p:=⟨g,1,none⟩) (by intro e;have e:B0=g:=e;omega) _;have HFy:Hid (∀k,(k=g∨(Value.slice AL1 L1.length cL1).ownBlock=some k∨(Value.slice A2 (W1.eraseIdx j).length k2).ownBlock=some k)→F k∨w.heap.size≤k):=by
              rintro k (e|e|e)
              ·exact HF1.o k ((HB1.o.hF k).2 (.inl e))
              ·exact HF1.o k ((HB1.o.hF k).2 (.inr (.inl e)))
              ·exact .inr (sY (sY HC1.o.size HWO.o.size) (aD HO6.o e).1)
             have HCy:Hid (Chg F w (w8.setCell ⟨g,1,none⟩ (.slice A2 (W1.eraseIdx j).length k2))):=(HC1.o.trans (eH (HWO.o.trans (HB6.o.mono HWO.o.size))) fun _ _ h=>h).setCell (p:=⟨g,1,none⟩) (HF1.o g ((HB1.o.hF g).2 (.inl rfl))) _;have t1:=cZ ((HBX.o.below HB6.o).blk) 1 rfl;have t2:w8.frozen? ⟨g,1,none⟩=false:=(HBX.o.below HB6.o).blk.frozen 1;clear HQX HBX HO6 HB6 HWO hxm HR1 HWI;go_upto_region 40 with fail
             clear t1 t2;generalize w8.setCell ⟨g,1,none⟩ (.slice A2 (W1.eraseIdx j).length k2)=wy at HS HXD HQY HCy ⊢;have hlen:(W1.eraseIdx j).length+1=n:=by rw[uP (by rw[HN.o];exact hjn),HN.o];omega
             have HLN:=Hi hlen;clear hlen;have C5:=sfits_any L1 (W1.eraseIdx j) x g wy HS.o.br (HXD.o.more fun k hk=>(HS.o.hD k hk).1) HI1.o.bk.top HI1.o.bk.nodup (fun z hz=>eE (HI1.o.bk.err z hz).1) (by omega) HGD.o.1;obtain⟨c0,c1,c2,c3,c4⟩:=ce5 HQY.o
             unfold ChD.v at C5;go_wp2_with fail
             go_at_call 80;refine C5.mono ?_;rintro e w7 ⟨rfl,hb⟩;have HQ7:=Hi (HQY.o.keep (hb.block _ HQY.o.lt));have HB7:=Hi (HS.o.below hb);have HC7:Hid (Chg F w w7):=HCy.o.trans (eH hb) fun _ _ h=>h
             have HX7:Hid (ChIn D w7 x):=HXD.o.keep fun k hk=>hb.block k (HS.o.hD k hk).1
             clear C5 hb c0 c1 c2 c3 c4 HQY HS HXD HCy;cases hft:bR L1 x with
             |false =>
              have HS3:Hid (bO W.length (L++[c]) W=bO (W1.eraseIdx j).length L1 (W1.eraseIdx j)):=HS1.o.trans (HS2.o.trans (sT (by rw[hft];simp)));clear hft;go_wp2_with fail
              go_roundw
              case rel=>exact⟨L1,W1.eraseIdx j,_,_,_,HB7,HI1.o.drop j,HS3,HFy,HC7⟩
              case measure =>
               have m1:=iO HB7.o;have m2:=iO HB1.o;have m3:=HN.o;have m4:=HLN.o;show qJ w7 g<qJ wo g;omega
             |true =>
              have HS3:Hid (bO W.length (L++[c]) W=bO (W1.eraseIdx j).length (L1++[x]) (W1.eraseIdx j)):=HS1.o.trans (HS2.o.trans (tA hft));have HI3:Hid (Inv (L1++[x]) (W1.eraseIdx j)):=HI1.o.move HX.o (by have:=(dL HLA.o);obtain⟨x',h1,-,h2,-⟩:=this;rw[HX.o]at h1;cases h1;exact h2) hft;clear hft;have g0:=cZ HB7.o.blk 0 rfl;have hglt:g<w7.heap.size:=HB7.o.blk.lt;have hqlt:B0<w7.heap.size:=HQ7.o.lt;obtain⟨c0,c1,c2,c3,c4⟩:=ce5 HQ7.o
              have HBB:=HB7.o.below (sA _ w7).drew;have hcD:ChIn D w7.drew x:=HX7.o.keep fun k hk=>(sA _ w7).drew.block k (HB7.o.hD k hk).1
              go_wp2_with fail
              skip
              refine wp_region_any (by kernel_rfl) ?_;change wpAny _ _ _ _ _ _ _ (World.drew _);refine wpAny_take (i:=0) (v:=?_) rfl (by kernel_rfl) (by kernel_rfl) (by kernel_rfl) (fun _ _ _ h=>h) (Or.inl ⟨by rfl,?_⟩) ?_
              rotate_left
              ·(intro w;go_simp;try with_reducible rfl)
              try simp only[Act.put,zA,zB,zC]
              refine wpAny_take (i:=1) (v:=?_) rfl (by kernel_rfl) (by kernel_rfl) (by kernel_rfl) (fun _ _ _ h=>h) (Or.inl ⟨by rfl,?_⟩) ?_
              rotate_left
              ·(intro w;go_simp;try with_reducible rfl)
              try simp only[Act.put,zA,zB,zC]
              refine wpAny_take (i:=2) (v:=?_) rfl (by kernel_rfl) (by kernel_rfl) (by kernel_rfl) (fun _ _ _ h=>h) (Or.inl ⟨by rfl,?_⟩) ?_
              rotate_left
              ·(intro w;go_simp;try with_reducible rfl)
              try simp only[Act.put,zA,zB,zC]
              refine wpAny_take (i:=3) (v:=?_) rfl (by kernel_rfl) (by kernel_rfl) (by kernel_rfl) (fun _ _ _ h=>h) (Or.inl ⟨by rfl,?_⟩) ?_
              rotate_left
              ·(intro w;go_simp;try with_reducible rfl)
              try simp only[Act.put,zA,zB,zC]
              refine wpAny_ready (rs:=[4,5]) (by kernel_rfl) (by simp) ?_;refine sR rfl (fun K hK=>?_) (sR rfl (fun K hK=>?_) tC)
              ·skip
               go_simp;refine hK _ _ ?_;clear hK K;try simp only[Act.put,zA,zB,zC]
               refine wpAny_ready (rs:=[5]) (by kernel_rfl) (by simp) ?_;refine sR rfl (fun K hK=>?_) tC;go_simp;refine hK _ _ ?_;clear hK K;try simp only[Act.put,zA,zB,zC]
               refine wpAny_ready (rs:=[6]) (by kernel_rfl) (by simp) ?_;refine sR rfl (fun K hK=>?_) tC;go_simp;refine hK _ _ ?_;clear hK K;try simp only[Act.put,zA,zB,zC]
               refine wpAny_ready (rs:=[7]) (by kernel_rfl) (by simp) ?_;refine sR rfl (fun K hK=>?_) tC;refine bA _ (by rfl) (.tmp 170) (.tmp 172) 23 (by rfl) 0 33 i0 _ 5 72 Tryz.underlying23 hi hz0 hz1 hz2 rfl (by omega) (.slice AL1 L1.length cL1) (L1.length) (aW L1) (by rfl) ((show World.ownsRow w7.drew 0 _ 5 _ (L1.length) (aW L1) from HBB.oL).alloc _) _ _ 1 1 (ChD.cells x) (by rfl) (cD (by exact Blk.new w7.drew _ #[.int .i64 x.a,.int .i64 x.s,.int .i64 x.st,.slice x.DA x.deps.length x.DC,.slice x.OA x.ops.length x.OC]) (n:=5) rfl) (by intro u hu;exact dY [x] u (by simpa[aW] using hu)) (by simp only[maxLen];omega) (by omega) (uU _) ?_;intro v9 w9 ho9 hg9 hat9;obtain⟨B9,C9,hv9,-⟩:=ho9.form (by omega)
               subst hv9;refine hK _ _ ?_;clear hK K;try simp only[Act.put,zA,zB,zC]
               have hb9:Blk w9 g 88 _:=(HBB.blk.keep (sM w7.drew _ _ HBB.blk.lt)).grown hg9 HBB.neg.1;have t1:=cZ hb9 0 rfl;have t2:w9.frozen? ⟨g,0,none⟩=false:=hb9.frozen 0;refine wpAny_take (i:=8) (v:=?_) rfl (by kernel_rfl) (by kernel_rfl) (by kernel_rfl) (fun _ _ _ h=>h) (Or.inl ⟨by rfl,?_⟩) ?_
               rotate_left
               ·(intro w;go_simp;try with_reducible rfl)
               try simp only[Act.put,zA,zB,zC]
               refine wpAny_take (i:=9) (v:=?_) rfl (by kernel_rfl) (by kernel_rfl) (by kernel_rfl) (fun _ _ _ h=>h) (Or.inl ⟨by rfl,?_⟩) ?_
               rotate_left
               ·(intro w;go_simp;try with_reducible rfl)
               try simp only[Act.put,zA,zB,zC]
               refine wpAny_ready (rs:=[10]) (by kernel_rfl) (by simp) ?_;refine sR rfl (fun K hK=>?_) tC;go_simp;refine hK _ _ ?_;clear hK K;try simp only[Act.put,zA,zB,zC]
               refine wpAny_done (by kernel_rfl) ?_ _;obtain⟨F9,hB9,hF9,hC9⟩:=HBB.pushL (o:=_) ho9 hg9 hat9 hcD
               have hF10:∀k,F9 k→F k∨w.heap.size≤k:=fun k hk=>(hF9 k hk).elim (HFy.o k) fun h=>.inr (sY HC7.o.size h)
               have hC10:=(HC7.o.trans (eH (sA _ w7).drew) fun _ _ h=>h).trans hC9 fun i hi hf=>(HFy.o i hf).resolve_right (by omega)
               go_wp2_with fail
               go_roundw
               case rel=>exact⟨L1++[x],W1.eraseIdx j,_,_,F9,hB9,HI3,HS3,hF10,hC10⟩
               case measure =>
                have m1:=iO hB9;have m2:=iO HB1.o;have m3:=HN.o;have m4:=HLN.o;show qJ (World.setCell w9 _ _) g<qJ wo g;omega
              ·skip
               go_simp;refine hK _ _ ?_;clear hK K;try simp only[Act.put,zA,zB,zC]
               refine wpAny_ready (rs:=[4,6]) (by kernel_rfl) (by simp) ?_;refine sR rfl (fun K hK=>?_) (sR rfl (fun K hK=>?_) tC)
               ·skip
                go_simp;refine hK _ _ ?_;clear hK K;try simp only[Act.put,zA,zB,zC]
                refine wpAny_ready (rs:=[6]) (by kernel_rfl) (by simp) ?_;refine sR rfl (fun K hK=>?_) tC;go_simp;refine hK _ _ ?_;clear hK K;try simp only[Act.put,zA,zB,zC]
                refine wpAny_ready (rs:=[7]) (by kernel_rfl) (by simp) ?_;refine sR rfl (fun K hK=>?_) tC;refine bA _ (by rfl) (.tmp 170) (.tmp 172) 23 (by rfl) 0 33 i0 _ 5 72 Tryz.underlying23 hi hz0 hz1 hz2 rfl (by omega) (.slice AL1 L1.length cL1) (L1.length) (aW L1) (by rfl) ((show World.ownsRow w7.drew 0 _ 5 _ (L1.length) (aW L1) from HBB.oL).alloc _) _ _ 1 1 (ChD.cells x) (by rfl) (cD (by exact Blk.new w7.drew _ #[.int .i64 x.a,.int .i64 x.s,.int .i64 x.st,.slice x.DA x.deps.length x.DC,.slice x.OA x.ops.length x.OC]) (n:=5) rfl) (by intro u hu;exact dY [x] u (by simpa[aW] using hu)) (by simp only[maxLen];omega) (by omega) (uU _) ?_;intro v9 w9 ho9 hg9 hat9;obtain⟨B9,C9,hv9,-⟩:=ho9.form (by omega)
                subst hv9;refine hK _ _ ?_;clear hK K;try simp only[Act.put,zA,zB,zC]
                have hb9:Blk w9 g 88 _:=(HBB.blk.keep (sM w7.drew _ _ HBB.blk.lt)).grown hg9 HBB.neg.1;have t1:=cZ hb9 0 rfl;have t2:w9.frozen? ⟨g,0,none⟩=false:=hb9.frozen 0;refine wpAny_take (i:=8) (v:=?_) rfl (by kernel_rfl) (by kernel_rfl) (by kernel_rfl) (fun _ _ _ h=>h) (Or.inl ⟨by rfl,?_⟩) ?_
                rotate_left
                ·(intro w;go_simp;try with_reducible rfl)
                try simp only[Act.put,zA,zB,zC]
                refine wpAny_take (i:=9) (v:=?_) rfl (by kernel_rfl) (by kernel_rfl) (by kernel_rfl) (fun _ _ _ h=>h) (Or.inl ⟨by rfl,?_⟩) ?_
                rotate_left
                ·(intro w;go_simp;try with_reducible rfl)
                try simp only[Act.put,zA,zB,zC]
                refine wpAny_ready (rs:=[10]) (by kernel_rfl) (by simp) ?_;refine sR rfl (fun K hK=>?_) tC;go_simp;refine hK _ _ ?_;clear hK K;try simp only[Act.put,zA,zB,zC]
                refine wpAny_done (by kernel_rfl) ?_ _;obtain⟨F9,hB9,hF9,hC9⟩:=HBB.pushL (o:=_) ho9 hg9 hat9 hcD
                have hF10:∀k,F9 k→F k∨w.heap.size≤k:=fun k hk=>(hF9 k hk).elim (HFy.o k) fun h=>.inr (sY HC7.o.size h)
                have hC10:=(HC7.o.trans (eH (sA _ w7).drew) fun _ _ h=>h).trans hC9 fun i hi hf=>(HFy.o i hf).resolve_right (by omega)
                go_wp2_with fail
                go_roundw
                case rel=>exact⟨L1++[x],W1.eraseIdx j,_,_,F9,hB9,HI3,HS3,hF10,hC10⟩
                case measure =>
                 have m1:=iO hB9;have m2:=iO HB1.o;have m3:=HN.o;have m4:=HLN.o;show qJ (World.setCell w9 _ _) g<qJ wo g;omega
               ·skip
                go_simp;refine hK _ _ ?_;clear hK K;try simp only[Act.put,zA,zB,zC]
                refine wpAny_ready (rs:=[4]) (by kernel_rfl) (by simp) ?_;refine sR rfl (fun K hK=>?_) tC;go_simp;refine hK _ _ ?_;clear hK K;try simp only[Act.put,zA,zB,zC]
                refine wpAny_ready (rs:=[7]) (by kernel_rfl) (by simp) ?_;refine sR rfl (fun K hK=>?_) tC;refine bA _ (by rfl) (.tmp 170) (.tmp 172) 23 (by rfl) 0 33 i0 _ 5 72 Tryz.underlying23 hi hz0 hz1 hz2 rfl (by omega) (.slice AL1 L1.length cL1) (L1.length) (aW L1) (by rfl) ((show World.ownsRow w7.drew 0 _ 5 _ (L1.length) (aW L1) from HBB.oL).alloc _) _ _ 1 1 (ChD.cells x) (by rfl) (cD (by exact Blk.new w7.drew _ #[.int .i64 x.a,.int .i64 x.s,.int .i64 x.st,.slice x.DA x.deps.length x.DC,.slice x.OA x.ops.length x.OC]) (n:=5) rfl) (by intro u hu;exact dY [x] u (by simpa[aW] using hu)) (by simp only[maxLen];omega) (by omega) (uU _) ?_;intro v9 w9 ho9 hg9 hat9;obtain⟨B9,C9,hv9,-⟩:=ho9.form (by omega)
                subst hv9;refine hK _ _ ?_;clear hK K;try simp only[Act.put,zA,zB,zC]
                have hb9:Blk w9 g 88 _:=(HBB.blk.keep (sM w7.drew _ _ HBB.blk.lt)).grown hg9 HBB.neg.1;have t1:=cZ hb9 0 rfl;have t2:w9.frozen? ⟨g,0,none⟩=false:=hb9.frozen 0;refine wpAny_take (i:=8) (v:=?_) rfl (by kernel_rfl) (by kernel_rfl) (by kernel_rfl) (fun _ _ _ h=>h) (Or.inl ⟨by rfl,?_⟩) ?_
                rotate_left
                ·(intro w;go_simp;try with_reducible rfl)
                try simp only[Act.put,zA,zB,zC]
                refine wpAny_take (i:=9) (v:=?_) rfl (by kernel_rfl) (by kernel_rfl) (by kernel_rfl) (fun _ _ _ h=>h) (Or.inl ⟨by rfl,?_⟩) ?_
                rotate_left
                ·(intro w;go_simp;try with_reducible rfl)
                try simp only[Act.put,zA,zB,zC]
                refine wpAny_ready (rs:=[10]) (by kernel_rfl) (by simp) ?_;refine sR rfl (fun K hK=>?_) tC;go_simp;refine hK _ _ ?_;clear hK K;try simp only[Act.put,zA,zB,zC]
                refine wpAny_done (by kernel_rfl) ?_ _;obtain⟨F9,hB9,hF9,hC9⟩:=HBB.pushL (o:=_) ho9 hg9 hat9 hcD
                have hF10:∀k,F9 k→F k∨w.heap.size≤k:=fun k hk=>(hF9 k hk).elim (HFy.o k) fun h=>.inr (sY HC7.o.size h)
                have hC10:=(HC7.o.trans (eH (sA _ w7).drew) fun _ _ h=>h).trans hC9 fun i hi hf=>(HFy.o i hf).resolve_right (by omega)
                go_wp2_with fail
                go_roundw
                case rel=>exact⟨L1++[x],W1.eraseIdx j,_,_,F9,hB9,HI3,HS3,hF10,hC10⟩
                case measure =>
                 have m1:=iO hB9;have m2:=iO HB1.o;have m3:=HN.o;have m4:=HLN.o;show qJ (World.setCell w9 _ _) g<qJ wo g;omega
 ·have HT:Hid (aS L W c=((L,W),c.err)):=by show _=_;unfold aS;rw[tA he]
  have he1:(c.err:Int)≠0:=by omega
  have he2:((c.err:Int) != 0)=true:=by simp;omega
  clear he;generalize c.err=er at *;go_wp2_with fail
  go_ret;exact⟨by rw[HT.o];rfl,by rw[HT.o];exact⟨F,_,_,HB.o.below HW.o,fun k hk=>.inl hk,eH HW.o⟩⟩
end Go.Proofs.YtjhkcbideddlgaaGreat
