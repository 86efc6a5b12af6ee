/- Contracts of the program's books: a change is put into a book. -/
import Derived.Test.YtjhkcbideddlgaaGreatP19
import Derived.Test.YtjhkcbideddlgaaGreatP14
import Derived.Test.YtjhkcbideddlgaaGreatP17
import Derived.ScopeJumps
import Derived.WalkMore
import Derived.Deep.MidRow
import Derived.Test.YtjhkcbideddlgaaGreatP15
set_option maxHeartbeats 16000000
set_option maxRecDepth 20000
set_option linter.unusedVariables false
set_option linter.unusedSimpArgs false
namespace Go.Proofs.YtjhkcbideddlgaaGreat
open Go.ChangeShapes Go.WideShapes Go.ChangeAt Go.RowKit
section
theorem back_out:∀(L:List ChD) {r:Rf},r∉aB L→dM L [r]=[]
 | [],_,_=>rfl
 |c::L,r,h=>by
  have h1:c.rf≠r:=fun e=>h (by rw[←e];exact tM ..)
  have h2:r∉aB L:=fun e=>h (uO _ e)
  rw[dM,sT (by simpa using h1),back_out L h2]
theorem behind_out{L:List ChD}{r:Rf}(h:r∉aB L):aP L [r]=[]:=back_out _ (by rw[dF];simpa using h)
theorem iU(L:List ChD)(hs:List Rf)(r:Rf):r∈aP L hs↔∃h∈hs,r∈aP L [h]:=pB _ _ _
theorem behind_new{L:List ChD}{c:ChD}(hn:c.rf∉aB L)(r:Rf):r∈aP (L++[c]) [c.rf]↔r=c.rf∨r∈aP L c.deps:=by
 rw[iT,tA (sP.2 rfl),sO,iU L ([c.rf]++c.deps),iU L c.deps];constructor
 ·rintro(h|⟨h,h1,h2⟩)
  ·exact .inl h
  ·rcases sG.1 h1 with h1|h1
   ·rw[sP.1 h1,behind_out hn]at h2;cases h2
   ·exact .inr ⟨h,h1,h2⟩
 ·rintro(h|⟨h,h1,h2⟩)
  ·exact .inl h
  ·exact .inr ⟨h,tX _ h1,h2⟩
structure UB(w:World)(g bh bw bb mk:Nat)(X:List (ChD×Nat×List Rf)):Prop where
 blk:Blk w g 93 #[.map (some bh),.map (some bw),.map (some bb)]
 mb:aJ w 45 bb (X.map fun x=>(dB x.1.rf,.map (some x.2.1)))
 sets:∀x∈X,fD w x.2.1 x.2.2∧x.2.1≠mk∧∀r,r∈x.2.2↔r∈aP (X.map Prod.fst) [x.1.rf]
 ne:g≠mk∧bb≠mk
theorem UB.chg{w w':World}{g bh bw bb mk:Nat}{X:List (ChD×Nat×List Rf)}(h:UB w g bh bw bb mk X)(hc:Chg (fun k=>k=mk) w w'):UB w' g bh bw bb mk X :=
 ⟨h.blk.keep (hc.block _ h.blk.lt h.ne.1),aJ.keep h.mb (hc.block _ (aJ.lt h.mb) h.ne.2),
  fun x hx=>⟨(h.sets x hx).1.keep (hc.block _ (aJ.lt (h.sets x hx).1) (h.sets x hx).2.1),(h.sets x hx).2⟩,h.ne⟩
theorem mB{X:List (ChD×Nat×List Rf)}{r:Rf}(h:r∈aB (X.map Prod.fst)):∃x,x∈X∧x.1.rf=r:=by
 unfold aB at h;rw[List.map_map]at h;obtain⟨x,hx,e⟩:=sW.1 h
 exact⟨x,hx,e⟩
theorem zero_mapb(w:World):(zeroValue 102).run Tryz.prog w=.ok (.map none) w:=by kernel_rfl
theorem UB.look{w:World}{g bh bw bb mk:Nat}{X:List (ChD×Nat×List Rf)}(h:UB w g bh bw bb mk X){x:ChD×Nat×List Rf}(hx:x∈X)(r1 r2:Int)(he:x.1.rf=(r1,r2)):
 (Instr.lookup 91 (.map (some bb)) (.agg #[.int .i64 r1,.int .i64 r2]) false).run Tryz.prog w=.ok (.map (some x.2.1)) w :=
 aJ.hit h.mb eM Tryz.underlying91 (zero_mapb w) (sW.2 ⟨x,hx,by rw[he];rfl⟩) false
theorem pX{L:List ChD}{l:List Rf}{k:Nat}{d:Rf}(h:l[k]?=some d)(r:Rf):r∈aP L (l.take (k+1))↔r∈aP L (l.take k)∨r∈aP L [d]:=by
 rw[sQ,h,uH,iU L (_++_),iU L (l.take k)];constructor
 ·rintro⟨x,h1,h2⟩
  rcases sG.1 h1 with h1|h1
  ·exact .inl ⟨x,h1,h2⟩
  ·rw[sP.1 h1]at h2;exact .inr h2
 ·rintro(⟨x,h1,h2⟩|h2)
  ·exact⟨x,tI _ h1,h2⟩
  ·exact⟨d,tX _ (sP.2 rfl),h2⟩
def eT(w:World)(b r:Nat):Nat:=match w.heap[r]?,w.heap[b]? with
 |some (.mapIter _ _ seen _),some (.map es _)=>(leftOf es seen).size
 |_,_=>0
theorem bC.left{w:World}{k:TypeId}{b r:Nat}{l todo:List (Value×Value)}(h:bC w k b r l todo):eT w b r=todo.length:=by
 obtain⟨es,clock,since,seen,c0,hb,F,hp,hr,hold,htodo,hsc,hsk⟩:=h
 have:=htodo.length_eq
 simp only[mP,tF,vB]at this;unfold eT;simp only[hr,hb];exact this
theorem set_less(U:List Rf){S:List Rf}{L:List ChD}(hn:S.Nodup)(hl:L.length≤1000)(h:∀r∈S,r∈U∨r∈aB L)(hu:U.length≤1000):S.length<maxLen:=by
 have h1:=kR (m:=U++aB L) hn fun r hr=>sG.2 (h r hr)
 have h2:(aB L).length=L.length:=by simp[aB]
 rw[sF,h2]at h1;simp only[maxLen];omega
theorem PB.gne{w:World}{g bh bw bb:Nat}{X:List (ChD×Nat×List Rf)}{W:List ChD}(h:PB w g bh bw bb X W):g≠bh∧g≠bw∧g≠bb :=
 ⟨fun e=>aJ.no_cells h.mh _ _ (e▸h.blk),fun e=>aJ.no_cells h.mw _ _ (e▸h.blk),fun e=>aJ.no_cells h.mb _ _ (e▸h.blk)⟩
theorem UB.of{w w':World}{g bh bw bb mk:Nat}{X:List (ChD×Nat×List Rf)}{W:List ChD}(h:PB w g bh bw bb X W)(hc:Chg (fun k=>k=bh) w w')(hm:w.heap.size≤mk):UB w' g bh bw bb mk X :=
 ⟨h.blk.keep (hc.block _ h.blk.lt h.gne.1),aJ.keep h.mb (hc.block _ (aJ.lt h.mb) (fun e=>h.ne.2.1 e.symm)),
  fun x hx=>⟨(h.sets x hx).1.keep (hc.block _ (h.sets x hx).2.1.1 (h.sets x hx).2.1.2.1),(by have:=(h.sets x hx).2.1.1;omega),(h.sets x hx).2.2⟩,
  (by have:=h.blk.lt;omega),(by have:=aJ.lt h.mb;omega)⟩
theorem PB.put{w w':World}{g bh bw bb mk:Nat}{X:List (ChD×Nat×List Rf)}{W:List ChD}{c:ChD}{S:List Rf}(h:PB w g bh bw bb X W)(hc:Chg (fun k=>k=bh∨k=bb) w w')(hch:ChIn (NF w bh bw bb) w c)
 (hn:c.rf∉aB (X.map Prod.fst)) (h1:dS w' bh (X.map Prod.fst++[c])) (h2:aJ w' 45 bb (X.map (fun x=>(dB x.1.rf,.map (some x.2.1)))++[(dB c.rf,.map (some mk))]))
 (h3:fD w' mk S) (h4:w.heap.size≤mk) (h5:∀r,r∈S↔r∈[c.rf]∨r∈aP (X.map Prod.fst) c.deps):PB w' g bh bw bb (X++[(c,mk,S)]) W:=by
 have hg:=h.gne;have hk:lD (NF w bh bw bb) w w':=hc.keeps fun k hk=>⟨hk.1,fun e=>e.elim hk.2.1 hk.2.2.2⟩
 have lh:=aJ.lt h.mh;have lw:=aJ.lt h.mw;have lb:=aJ.lt h.mb;refine⟨h.blk.keep (hc.block _ h.blk.lt (fun e=>e.elim hg.1 hg.2.2)),by rw[tN];exact h1,aJ.keep h.mw (hc.block _ lw (fun e=>e.elim (fun e=>h.ne.1 e.symm) h.ne.2.2)),by rw[tN];exact h2,h.ne,fun x hx=>?_,fun x hx=>?_,fun x hx=>((h.inW x hx).keep hk).more fun k hk=>hk.more hc.size⟩
 ·rcases sG.1 hx with hx|hx
  ·obtain⟨a1,a2,a3⟩:=h.sets x hx
   refine⟨a1.keep (hk _ a2),a2.more hc.size,fun r=>?_⟩
   rw[a3 r,tN,tU,wY,iT,sT];intro e;have:x.1.rf=c.rf:=(sP.1 e).symm
   exact hn (by rw[←this];exact bX (sW.2 ⟨x,hx,rfl⟩))
  ·rw[sP.1 hx];refine⟨h3,⟨aJ.lt h3,(by show mk≠bh;omega),(by show mk≠bw;omega),(by show mk≠bb;omega)⟩,fun r=>?_⟩
   show r∈S↔_;rw[tN,tU,wY,h5 r,behind_new hn r,sP]
 ·rcases sG.1 hx with hx|hx
  ·exact((h.inL x hx).keep hk).more fun k hk=>hk.more hc.size
  ·rw[sP.1 hx];exact(hch.keep hk).more fun k hk=>hk.more hc.size
theorem dS.add{w:World}{b:Nat}{L:List ChD}(h:dS w b L){c:ChD}(hr:eL c.rf)(hn:c.rf∉aB L)(hl:L.length≤1000):
 ∃w',(Instr.mapUpdate 90 (.map (some b)) (dB c.rf) c.v).run Tryz.prog w=.ok () w'∧dS w' b (L++[c])∧w.mapTurned w' b:=by
 obtain⟨kl,hk⟩:=jL hr
 obtain⟨w',h1,h2,h3⟩:=aJ.store (v:=c.v) h eM Tryz.underlying90 (by rw[tF];simp only[maxLen];omega) hk (fun p hp e=>by
  obtain⟨q,hq,rfl⟩:=sW.1 hp
  exact hn (by rw[←gP e];exact bX hq))
 exact⟨w',h1,by unfold dS;rw[tN];exact h2,h3⟩
theorem behind_add{w:World}{bb:Nat}{X:List (ChD×Nat×List Rf)}(h:aJ w 45 bb (X.map fun x=>(dB x.1.rf,.map (some x.2.1)))){c:ChD}(hr:eL c.rf)(hn:c.rf∉aB (X.map Prod.fst))(hl:X.length≤1000)(mk:Nat):
 ∃w',(Instr.mapUpdate 91 (.map (some bb)) (dB c.rf) (.map (some mk))).run Tryz.prog w=.ok () w'∧aJ w' 45 bb (X.map (fun x=>(dB x.1.rf,.map (some x.2.1)))++[(dB c.rf,.map (some mk))])∧w.mapTurned w' bb:=by
 obtain⟨kl,hk⟩:=jL hr
 exact aJ.store (v:=.map (some mk)) h eM Tryz.underlying91 (by rw[tF];simp only[maxLen];omega) hk (fun p hp e=>by
  obtain⟨q,hq,rfl⟩:=sW.1 hp
  exact hn (by rw[←gP e];exact bX (sW.2 ⟨q,hq,rfl⟩)))
theorem bk_i64{L:List ChD}(hk:Bk L){r:Rf}(h:r∈aB L):eL r:=by
 obtain⟨c,hc,rfl⟩:=sW.1 h
 have:=eU (iX (hk.err c hc).1).1
 exact⟨by omega,by omega⟩
theorem mF{c:ChD}(he:c.err=0):eL c.rf:=by
 have:=eU (iX he).1
 exact⟨by omega,by omega⟩
theorem put_any(X:List (ChD×Nat×List Rf))(W:List ChD)(c:ChD)(g bh bw bb:Nat)(w:World)(hB:PB w g bh bw bb X W)(hk:Bk (X.map Prod.fst))(hl:X.length≤1000)(hc:ChIn (NF w bh bw bb) w c)(he:c.err=0)
 (hr:aU (X.map Prod.fst) c=true) (hn:c.rf∉aB (X.map Prod.fst)) :
 Calls Tryz.prog 43 #[.pointer (some ⟨g,0,none⟩),c.v] w fun e w'=>e=.returned (.tuple #[])∧(∃mk S,PB w' g bh bw bb (X++[(c,mk,S)]) W∧w.heap.size≤mk)∧Chg (fun k=>k=bh∨k=bb) w w':=by
 obtain⟨hst1,hst2,hop,hdp⟩:=eE he
 obtain⟨L,hL⟩:∃L,X.map Prod.fst=L:=⟨_,rfl⟩
 have HLL2:=Hi hl;have HLL:Hid (L.length≤1000):=by show _≤_;rw[←hL,tF];exact hl
 obtain⟨nd,hnd⟩:∃n,c.deps.length=n:=⟨_,rfl⟩
 have HND:=Hi hnd;have HB:=Hi hB;have HCI:=Hi hc;have HRI:=Hi (mF he);have HRY:Hid (∀d∈c.deps,∃x,x∈X∧x.1.rf=d):=fun d hd=>mB (eZ hr d hd)
 have HK:=Hi hk;have HN:=Hi hn;have HLX:=Hi hL;rw[hL]at hn hk;have HW:Hid (Below w.heap.size w (w.alloc (.cells #[.int .i64 c.a,.int .i64 c.s,.int .i64 c.st,.slice c.DA c.deps.length c.DC,.slice c.OA c.ops.length c.OC] 33))):=(sA _ w).alloc (sB _) _;have HQ:=Hi (Blk.new w 33 #[.int .i64 c.a,.int .i64 c.s,.int .i64 c.st,.slice c.DA c.deps.length c.DC,.slice c.OA c.ops.length c.OC]);clear hB hc he hr hk hn hL hst1 hst2 hop;unfold ChD.v;rw[hnd]at HW HQ hdp ⊢;clear hnd;go_enter Tryz.func43,Tryz.ntmps43;go_wp2_with fail
 generalize w.alloc (.cells #[.int .i64 c.a,.int .i64 c.s,.int .i64 c.st,.slice c.DA nd c.DC,.slice c.OA c.ops.length c.OC] 33)=V at *;obtain⟨c0,c1,c2,c3,c4⟩:=ce5 HQ.o
 have C1:=chref_any c.a c.s (.int .i64 c.st) (.slice c.DA nd c.DC) (.slice c.OA c.ops.length c.OC) V rfl rfl rfl;go_wp2_with fail
 go_at_call 38;refine C1.mono ?_;rintro e w2 ⟨rfl,hb⟩;replace HQ:=Hi (HQ.o.keep (hb.block _ HQ.o.lt));replace HW:Hid (Below w.heap.size w w2):=HW.o.trans (hb.mono HW.o.size);clear hb;clear C1 c0 c1 c2 c3 c4;have HQ2:=Hi (Blk.new w2 45 #[.int .i64 c.a,.int .i64 c.s]);have HW2:Hid (Below w.heap.size w (w2.alloc (.cells #[.int .i64 c.a,.int .i64 c.s] 45))):=HW.o.alloc HW.o.size _;have HQ1:=Hi (HQ.o.keep (w':=w2.alloc (.cells #[.int .i64 c.a,.int .i64 c.s] 45)) (((sA _ w2).alloc (sB _) _).block _ HQ.o.lt));have hws:w.heap.size<w2.heap.size:=HQ.o.lt;clear HQ HW;go_upto_region 2 with fail
 generalize w2.alloc (.cells #[.int .i64 c.a,.int .i64 c.s] 45)=w3 at HQ2 HW2 HQ1 ⊢;generalize w2.heap.size=q2 at HQ2 hws ⊢;have HP3:=Hi (HB.o.below HW2.o);have g0:=cZ HP3.o.blk 0 rfl;obtain⟨q0,q1⟩:=ce2 HQ2.o
 obtain⟨c0,c1,c2,c3,c4⟩:=ce5 HQ1.o
 refine wp_region_still_tail 6 (by kernel_rfl) (by kernel_rfl) ?_;simp only[tE,tO,tG,tT];repeat (first|(refine aQ rfl (fun K hK=>?_);go_simp;refine hK _ ?_;clear hK K)|(refine wpStill_skip rfl ?_;go_frame))
 refine wpStill_nil ?_;change wpList _ _ _ _ _ w3.drew;have HP4:Hid (PB w3.drew g bh bw bb X W):=HP3.o.below (sA _ w3).drew;have HQ4:Hid (Blk w3.drew q2 45 #[.int .i64 c.a,.int .i64 c.s]):=HQ2;have HB4:Hid (Blk w3.drew w.heap.size 33 #[.int .i64 c.a,.int .i64 c.s,.int .i64 c.st,.slice c.DA nd c.DC,.slice c.OA c.ops.length c.OC]):=HQ1;have HW4:Hid (Below w.heap.size w w3.drew):=HW2.o.drew;clear g0 q0 q1 c0 c1 c2 c3 c4 HP3 HQ2 HQ1 HW2;generalize w3.drew=w4 at HP4 HQ4 HB4 HW4 ⊢;have hst:=HP4.o.mh.add HRI.o HN.o (by rw[HLX.o];exact HLL.o);rw[HLX.o]at hst;unfold ChD.v at hst;rw[HND.o]at hst;have hmm:∀(t:TypeId) (w:World),(Instr.makeMap t none).run Tryz.prog w=.ok (.map (some w.heap.size)) (w.alloc (.map #[] 0)):=fun _ _=>rfl
 go_wp2_with (first
  |(refine eX _ rfl (.tmp 14) (.tmp 15) (.tmp 16) 90 (.inl rfl) bh _ _ rfl rfl rfl _ hst ?_;rintro w5 ⟨hh5,ht5⟩;have hg5:=ht5.grown;have HH5:=Hi hh5;have HC5:Hid (Chg (fun k=>k=bh) w4 w5):=(Chg.refl w4).grown hg5 (fun q hq=>by cases hq;exact .inl rfl);have HGN:=Hi HP4.o.gne;have HLH:=Hi (aJ.lt HP4.o.mh);have HQN:Hid (q2≠bh):=fun e=>aJ.no_cells HP4.o.mh _ _ (e▸HQ4.o)
    have HQ5:=Hi (HQ4.o.keep (HC5.o.block _ HQ4.o.lt HQN.o));have HBN:Hid (w.heap.size≠bh):=fun e=>aJ.no_cells HP4.o.mh _ _ (e▸HB4.o)
    have HB5:=Hi (HB4.o.keep (HC5.o.block _ HB4.o.lt HBN.o));clear hh5 ht5 hg5 hst HQ4 HB4;obtain⟨q0,q1⟩:=ce2 HQ5.o
    have hq2:q2<w5.heap.size:=HQ5.o.lt;have HST:=Hi ((fD.made w5).add HRI.o (by simp[maxLen])))
  |(refine eX _ rfl (.tmp 17) (.tmp 18) _ 102 (.inr rfl) _ _ _ rfl rfl rfl _ HST.o ?_;rintro w6 ⟨⟨S0,hs6,hm6,-⟩,ht6⟩;have hg6:=ht6.grown;have HS6:=Hi hs6;have HM6:=Hi hm6;have HC6:Hid (Chg (fun k=>k=bh) w4 w6):=(HC5.o.alloc _).grown hg6 (fun q hq=>by cases hq;exact .inr HC5.o.size);have HH6:=Hi (aJ.keep (aJ.keep HH5.o (sM w5 (.map #[] 0) _ (aJ.lt HH5.o))) (hg6.block _ (by have:=aJ.lt HH5.o;simp;omega) (fun e=>by have:=aJ.lt HH5.o;have:=tK e;omega)));have HQ6:=Hi ((HQ5.o.keep (sM w5 (.map #[] 0) _ HQ5.o.lt)).grown hg6 (fun e=>by have:=HQ5.o.lt;have:=tK e;omega));have HB6:=Hi ((HB5.o.keep (sM w5 (.map #[] 0) _ HB5.o.lt)).grown hg6 (fun e=>by have:=HB5.o.lt;have:=tK e;omega));have HMK:Hid (w4.heap.size≤w5.heap.size∧q2<w5.heap.size∧w.heap.size<w5.heap.size∧bh<w5.heap.size):=⟨HC5.o.size,hq2,HB5.o.lt,aJ.lt HH5.o⟩;have c3:=cZ HB6.o 3 rfl;clear hs6 hm6 ht6 hg6 HST HH5 HQ5 HB5 HC5 q0 q1 hq2;generalize w5.heap.size=mk at HS6 HMK ⊢))
 clear hmm;obtain⟨V0,hV0⟩:∃V,V=w6:=⟨_,rfl⟩
 subst hV0;have HU:=Hi (UB.of HP4.o HC6.o HMK.o.1);have HRD:Hid (aC (fun j=>j<V0.heap.size∧¬j=mk) V0 2 c.DA c.deps.length (aF c.deps)) :=
  (HCI.o.hd.keep (fun k hk=>(HC6.o.block k (sD hk.1 HW4.o.size) hk.2.1).trans (HW4.o.block k hk.1))).more
    fun k hk=>⟨sD (sD hk.1 HW4.o.size) HC6.o.size,fun e=>by have:=hk.1;have:=HW4.o.size;have:=HMK.o.1;omega⟩
 rw[HND.o]at HRD;have HM0:Hid (∀r,r∈S0↔r∈[c.rf]∨r∈aP L (c.deps.take 0)):=fun r=>by
  rw[HM6.o r,tO];unfold aP;rw[oA];simp
 have HS0:=HS6;clear HM6 HS6 c3;go_loopw [7,8,23] (fun _ _ s wr=>∃(k:Nat) (S:List Rf),s=.int .i64 k∧k≤nd∧Hid (fD wr mk S)∧Hid (∀r,r∈S↔r∈[c.rf]∨r∈aP L (c.deps.take k))∧Hid (Chg (fun j=>j=mk) V0 wr)) (fun _ _ s _=>nd-(intOf s).toNat)
 case atStart=>exact⟨0,_,rfl,by omega,HS0,HM0,Hi (Chg.refl _)⟩
 case round =>
  clear HS0 HM0;obtain⟨k,S,rfl,hk,HS,HM,HC⟩:=hrel
  by_cases hlt:k<nd
  ·obtain⟨d,hd⟩:∃d,c.deps[k]?=some d:=⟨_,sC (by rw[HND.o];exact hlt)⟩
   have HDM:Hid (∀r,r∈aP L (c.deps.take (k+1))↔r∈aP L (c.deps.take k)∨r∈aP L [d]):=fun r=>pX hd r
   obtain⟨x,hx,hxr⟩:=HRY.o d (sJ hd)
   have HX:=Hi hx;have HLT:=Hi hlt;have HXR:=Hi hxr;obtain⟨bd,od,hA,hbl,hcd⟩:=(HRD.o.keep (HC.o.keeps fun j hj=>hj)).at_ (by omega) (by omega)
   have p1:wr.cell? ⟨bd,od+k*2,none⟩=some (.int .i64 d.1):=hcd _ _ (aN hd).1;have p2:wr.cell? ⟨bd,od+k*2+1,none⟩=some (.int .i64 d.2):=hcd _ _ (aN hd).2;have hbl2:bd<wr.heap.size:=sD hbl.1 HC.o.size;have HSX:=Hi (HU.o.sets x hx);rw[hA];clear hcd hd hx hxr hbl;have HUa:=Hi ((HU.o.chg HC.o).chg ((Chg.refl wr).alloc (.cells #[.int .i64 d.1,.int .i64 d.2] 45)));have HQa:=Hi (Blk.new wr 45 #[.int .i64 d.1,.int .i64 d.2]);have HSa:=Hi (HS.o.keep (w':=wr.alloc (.cells #[.int .i64 d.1,.int .i64 d.2] 45)) (sM _ _ _ (aJ.lt HS.o)));have HCa:=Hi (HC.o.alloc (.cells #[.int .i64 d.1,.int .i64 d.2] 45));clear HS HC;go_upto_region 7 with fail
   generalize wr.alloc (.cells #[.int .i64 d.1,.int .i64 d.2] 45)=wa at HUa HQa HSa HCa ⊢;generalize wr.heap.size=qa at HQa ⊢;clear p1 p2;have g2:=cZ HUa.o.blk 2 rfl;obtain⟨d1,d2⟩:=ce2 HQa.o
   have hlk:=(HUa.o.chg (Chg.refl wa).drew).look HX.o d.1 d.2 HXR.o;refine wp_region_still_tail 6 (by kernel_rfl) (by kernel_rfl) ?_;simp only[tE,tO,tG,tT];repeat (first|(refine aQ rfl (fun K hK=>?_);go_simp;refine hK _ ?_;clear hK K)|(refine wpStill_skip rfl ?_;go_frame))
   refine wpStill_nil ?_;change wpList _ _ _ _ _ wa.drew;have HSb:Hid (fD wa.drew mk S):=HSa;have HCb:Hid (Chg (fun j=>j=mk) V0 wa.drew):=HCa.o.drew;have HXb:Hid (fD wa.drew x.2.1 x.2.2):=((HUa.o.sets x HX.o).1.keep rfl);clear g2 d1 d2 hlk HUa HQa HSa HCa;generalize wa.drew=wb at HSb HCb HXb ⊢;go_wp2_with (refine lE _ rfl (.tmp 32) 102 rfl 45 4 Tryz.underlying102 x.2.1 _ rfl HXb.o ?_;intro w1 hI1 hb1 hs1)
   have HI1:Hid (fK w1 x.2.1 wb.heap.size x.2.2 x.2.2):=hI1;have HS1:=Hi (HSb.o.keep (hb1.block _ (aJ.lt HSb.o)));have HC1:Hid (Chg (fun j=>j=mk) V0 w1):=HCb.o.trans (Chg.of_below hb1) fun _ _ h=>h
   have HIT:Hid (V0.heap.size≤wb.heap.size∧mk<wb.heap.size):=⟨HCb.o.size,aJ.lt HSb.o⟩;clear hI1 hb1 hs1 HSb HCb HXb;generalize wb.heap.size=it at HI1 HIT ⊢;try simp only[Act.put,zA,zB,zC]
   go_loopw [8] (fun _ wr=>∃S1 todo:List Rf,Hid (fD wr mk S1)∧Hid (fK wr x.2.1 it x.2.2 todo)∧Hid (∀r,(r∈S1∨r∈todo)↔(r∈S∨r∈x.2.2))∧Hid (Chg (fun j=>j=mk) V0 wr)) (fun _ wr=>eT wr x.2.1 it)
   case atStart=>exact⟨S,x.2.2,HS1,HI1,Hi fun r=>Iff.rfl,HC1⟩
   case round =>
    clear HS1 HI1 HC1;obtain⟨S1,todo,HS1,HI,HE,HC⟩:=hrel
    go_wp2_with (refine qH _ rfl (.tmp 33) rfl x.2.1 it x.2.2 todo rfl HI.o ?_ ?_)
    ·intro ht;subst ht;have HM2:Hid (∀r,r∈S1↔r∈[c.rf]∨r∈aP L (c.deps.take (k+1))):=fun r=>by
      have e:=HE.o r;simp only[uB,or_false]at e;rw[e,HM.o r,HDM.o r,HSX.o.2.2 r,HXR.o,or_assoc];first|rfl|(rw[HLX.o])
     clear HI HE HM HDM;go_wp2_with fail
     go_roundw
     case rel=>exact⟨k+1,S1,by go_num,by have:=HLT.o;omega,HS1,HM2,HC⟩
     case measure=>have:=HLT.o;simp[intOf];omega
    ·intro ya yb todo' w2 hp hI2 hg2 hs2 hen;have HEY:Hid (∀r,r∈todo↔r=(ya,yb)∨r∈todo'):=fun r=>by rw[hp.mem_iff,sO]
     have HYS:Hid ((ya,yb)∈x.2.2):=HI.o.sub (ya,yb) (hp.mem_iff.2 (tM ..));have HLE:Hid (eT wr x.2.1 it=todo'.length+1):=by show _=_;rw[bC.left HI.o,tF,hp.length_eq];rfl
     have HLM:=Hi (aJ.lt HS1.o);have HIL:=Hi (bC.lt HI.o);have HIN:Hid (it≠mk):=fun e=>by have:=HIT.o.2;omega
     have HS2:=Hi (HS1.o.keep (hg2.block _ HLM.o (fun e=>HIN.o (tK e).symm)));have HC2:=Hi (HC.o.grown hg2 (fun q hq=>by cases hq;exact .inr HIT.o.1));have HI2:=Hi hI2;have hmk2:mk<w2.heap.size:=aJ.lt HS2.o;have hit2:it<w2.heap.size:=bC.lt hI2;have hxb2:x.2.1<w2.heap.size:=aJ.lt (bC.map hI2);clear hp hI2 hg2 hs2 HI HS1 HC;have HS3:=Hi (HS2.o.keep (w':=w2.alloc (.cells #[.int .i64 ya,.int .i64 yb] 45)) (sM _ _ _ hmk2));have HI3:Hid (fK (w2.alloc (.cells #[.int .i64 ya,.int .i64 yb] 45)) x.2.1 it x.2.2 todo'):=bC.keep HI2.o (sM _ _ _ hxb2) (sM _ _ _ hit2);have HC3:=Hi (HC2.o.alloc (.cells #[.int .i64 ya,.int .i64 yb] 45));have HQy:=Hi (Blk.new w2 45 #[.int .i64 ya,.int .i64 yb]);have hst:=HS3.o.add (r:=(ya,yb)) (bk_i64 HK.o (bL ((HSX.o.2.2 (ya,yb)).1 HYS.o))) (set_less [c.rf] HS3.o.nodup HLL.o (fun r hr=>by
      rcases(HE.o r).1 (.inl hr) with h|h
      ·rcases(HM.o r).1 h with h|h
       ·exact .inl h
       ·exact .inr (bL h)
      ·have:=bL ((HSX.o.2.2 r).1 h);exact .inr (by rw[HLX.o]at this;exact this)) (by simp))
     go_upto_region 10 with fail
     generalize w2.alloc (.cells #[.int .i64 ya,.int .i64 yb] 45)=w3 at HS3 HI3 HC3 HQy hst ⊢;generalize w2.heap.size=qy at HQy ⊢;obtain⟨y1,y2⟩:=ce2 HQy.o
     clear HQy HS2 HC2 HI2 hen hmk2 hit2 hxb2;go_wp2_with (refine eX _ rfl (.tmp 38) (.tmp 39) (.const (.bool true)) 102 (.inl rfl) mk (.agg #[.int .i64 ya,.int .i64 yb]) (.bool true) rfl rfl rfl _ hst ?_;rintro w4 ⟨⟨S2,hs4,hm4,-⟩,ht4⟩)
     have hg4:=ht4.grown;have HS4:=Hi hs4;have HXM:Hid (x.2.1≠mk):=HSX.o.2.1;have HI4:Hid (fK w4 x.2.1 it x.2.2 todo'):=bC.keep HI3.o (hg4.block _ (aJ.lt (bC.map HI3.o)) (fun e=>HXM.o (tK e))) (hg4.block _ (bC.lt HI3.o) (fun e=>HIN.o (tK e)));have HC4:=Hi (HC3.o.grown hg4 (fun q hq=>by cases hq;exact .inl rfl));have HE4:Hid (∀r,(r∈S2∨r∈todo')↔(r∈S∨r∈x.2.2)):=fun r=>by
      rw[←HE.o r,HEY.o r,hm4 r,or_assoc]
     have HL4:Hid (eT w4 x.2.1 it=todo'.length):=by show _=_;rw[bC.left HI4.o,tF]
     clear hs4 hm4 ht4 hg4 hst y1 y2 HS3 HI3 HC3 HE HEY;try simp only[Act.put,zA,zB,zC]
     go_wp2_with fail
     go_roundw
     case rel=>exact⟨S2,todo',HS4,HI4,HE4,HC4⟩
     case measure=>show eT w4 x.2.1 it<eT _ x.2.1 it;rw[HL4.o,HLE.o];omega
  ·have HMD:Hid (∀r,r∈S↔r∈[c.rf]∨r∈aP L c.deps):=fun r=>by
    rw[HM.o r,sL (by rw[HND.o];omega)]
   clear HM;have g2:=cZ ((HU.o.chg HC.o).blk) 2 rfl;have HQ7:=Hi (HQ6.o.keep (HC.o.block _ HQ6.o.lt (by have:=HMK.o;omega)));obtain⟨q0,q1⟩:=ce2 HQ7.o
   go_upto_region 12 with fail
   refine wp_region_still_tail 6 (by kernel_rfl) (by kernel_rfl) ?_;simp only[tE,tO,tG,tT];repeat (first|(refine aQ rfl (fun K hK=>?_);go_simp;refine hK _ ?_;clear hK K)|(refine wpStill_skip rfl ?_;go_frame))
   refine wpStill_nil ?_;change wpList _ _ _ _ _ wr.drew;have HS7:Hid (fD wr.drew mk S):=HS;have HC7:Hid (Chg (fun j=>j=mk) V0 wr.drew):=HC.o.drew;clear HS HC g2 q0 q1 HQ7;generalize wr.drew=w7 at HS7 HC7 ⊢;have hst:=behind_add (HU.o.chg HC7.o).mb HRI.o HN.o HLL2.o mk;go_wp2_with (refine eX _ rfl (.tmp 44) (.tmp 45) (.tmp 46) 91 (.inl rfl) bb _ _ rfl rfl rfl _ hst ?_;rintro w8 ⟨hm8,ht8⟩)
   have hg8:=ht8.grown;have hmkw:w.heap.size≤mk:=sY HW4.o.size HMK.o.1;have hbb:bb<w.heap.size:=aJ.lt HB.o.mb;have hbh:bh<w.heap.size:=aJ.lt HB.o.mh;refine bodyPost_end (results_none rfl _ _ _) rfl ?_;have hC:Chg (fun k=>k=bh∨k=bb) w w8:=((((Chg.of_below HW4.o).trans HC6.o (fun _ _ h=>.inl h)).trans HC7.o (fun i hi e=>by omega))).grown hg8 (fun q hq=>by cases hq;exact .inl (.inr rfl));refine⟨rfl,⟨mk,⟨S,PB.put HB.o hC HCI.o HN.o ?_ hm8 (HS7.o.keep (hg8.block _ (aJ.lt HS7.o) (fun e=>by have:=tK e;omega))) hmkw (by rw[HLX.o];exact HMD.o)⟩,hmkw⟩,hC⟩
   have hh7:=aJ.keep HH6.o (HC7.o.block _ (aJ.lt HH6.o) (by omega));rw[HLX.o];exact aJ.keep hh7 (hg8.block _ (aJ.lt hh7) (fun e=>HB.o.ne.2.1 (tK e)))
end
section
theorem PB.waits{w w':World}{g bh bw bb:Nat}{X:List (ChD×Nat×List Rf)}{W W':List ChD}(h:PB w g bh bw bb X W)(hc:Chg (fun k=>k=bw) w w')(h1:dS w' bw W')
 (hs:∀c∈W',c∈W∨ChIn (NF w bh bw bb) w c):PB w' g bh bw bb X W':=by
 have hg:=h.gne;have hk:lD (NF w bh bw bb) w w':=hc.keeps fun k hk=>⟨hk.1,fun e=>hk.2.2.1 e⟩
 refine⟨h.blk.keep (hc.block _ h.blk.lt hg.2.1),aJ.keep h.mh (hc.block _ (aJ.lt h.mh) h.ne.1),h1,aJ.keep h.mb (hc.block _ (aJ.lt h.mb) (fun e=>h.ne.2.2 e.symm)),h.ne,fun x hx=>?_,fun x hx=>((h.inL x hx).keep hk).more fun k hk=>hk.more hc.size,fun c hc'=>?_⟩
 ·obtain⟨a1,a2,a3⟩:=h.sets x hx
  exact⟨a1.keep (hk _ a2),a2.more hc.size,a3⟩
 ·rcases hs c hc' with h2|h2
  ·exact((h.inW c h2).keep hk).more fun k hk=>hk.more hc.size
  ·exact(h2.keep hk).more fun k hk=>hk.more hc.size
theorem dS.drop{w:World}{b:Nat}{W:List ChD}(h:dS w b W){j:Nat}{x:ChD}(hx:W[j]?=some x)(ty:TypeId):
 ∃w',(Builtin.delete_ #[90,45] ty #[.map (some b),dB x.rf]).run Tryz.prog w=.ok (.tuple #[]) w'∧(dS w' b (W.eraseIdx j)∧w.mapTurned w' b):=by
 obtain⟨w',h1,h2,h3⟩:=aJ.drop h eM Tryz.underlying90 (v0:=x.v) ((iC W j x hx).map (fun c:ChD=>(dB c.rf,c.v))) ty
 exact⟨w',h1,h2,h3⟩
def mlen(w:World)(b:Nat):Nat:=match w.heap[b]? with
 |some (.map es _)=>es.size
 |_=>0
theorem aJ.mlen{w:World}{k:TypeId}{b:Nat}{l:List (Value×Value)}(h:aJ w k b l):mlen w b=l.length:=by
 obtain⟨es,c,hb,F,hp⟩:=h
 unfold Go.Proofs.YtjhkcbideddlgaaGreat.mlen;rw[hb,←hp.length_eq];simp[mP]
theorem dS.mlen{w:World}{b:Nat}{L:List ChD}(h:dS w b L):mlen w b=L.length:=by
 rw[aJ.mlen h,tF]
theorem base_same{c c':ChD}(h:c'.base=c.base):c'.err=c.err∧c'.rf=c.rf∧((∀o∈c.ops,(Lit.int .i64 o.vn).wf=true)→∀o∈c'.ops,(Lit.int .i64 o.vn).wf=true):=by
 refine⟨by rw[←iJ c',h,iJ],by rw[←gF c',h,gF],fun hw o ho=>?_⟩
 have e:c'.ops.map Go.Proofs.YtjhkcbideddlgaaGreat.base=c.ops.map Go.Proofs.YtjhkcbideddlgaaGreat.base:=congrArg ChD.ops h;have h1:Go.Proofs.YtjhkcbideddlgaaGreat.base o∈c.ops.map Go.Proofs.YtjhkcbideddlgaaGreat.base:=by rw[←e];exact vQ ho
 obtain⟨o2,h2,e2⟩:=sW.1 h1
 have e3:(Go.Proofs.YtjhkcbideddlgaaGreat.base o2).vn=(Go.Proofs.YtjhkcbideddlgaaGreat.base o).vn:=congrArg OpD.vn e2;have e4:o2.vn=o.vn:=e3;rw[←e4];exact hw o2 h2
theorem aC.both{D D':Nat→Prop}{w w':World}{size n:Nat}{A:Option Addr}{xs:List Value}(h:aC D w size A n xs)(h':aC D' w' size A n xs):aC (fun k=>D k∧D' k) w' size A n xs :=
 ⟨h.1,fun h0=>by
  obtain⟨a,e1,d1,_⟩:=h.2 h0
  obtain⟨a',e2,d2,c2⟩:=h'.2 h0
  rw[e1]at e2;cases e2;exact⟨a,e1,⟨d1,d2⟩,c2⟩⟩
theorem ChIn.both{D D':Nat→Prop}{w w':World}{c:ChD}(h:ChIn D w c)(h':ChIn D' w' c):ChIn (fun k=>D k∧D' k) w' c :=
 ⟨h.hd.both h'.hd,h.hdl,h.ho.both h'.ho,h.hol,fun o ho=>⟨(h.hp o ho).1.both (h'.hp o ho).1,(h.hp o ho).2⟩⟩
theorem take_fresh{w':World}{B g bh bw bb:Nat}{X':List (ChD×Nat×List Rf)}{L L' W W2:List ChD}{c':ChD}(hp:PB w' g bh bw bb X' W2)(hl:X'.map Prod.fst=L')(hy:∀y,y∈L'∨y∈W2→y∈L∨y∈W∨y=c')
 (hc:∃V,ChIn (fun k=>B≤k) V c'):∀y,y∈L'∨y∈W2→y∈L∨y∈W∨ChIn (fun k=>B≤k) w' y:=fun y h=>by
 rcases hy y h with h1|h1|rfl
 ·exact .inl h1
 ·exact .inr (.inl h1)
 ·obtain⟨V,hc⟩:=hc
  refine .inr (.inr ?_);rcases h with h|h
  ·rw[←hl]at h;obtain⟨x,hx,e⟩:=sW.1 h
   exact(hc.both (e▸hp.inL x hx)).more fun k hk=>hk.1
  ·exact(hc.both (hp.inW y h)).more fun k hk=>hk.1
theorem Blk.there{w:World}{g:Nat}{t:TypeId}{cs:Array Value}(h:Blk w g t cs){n:Nat}(hn:cs.size=n):w.there g 0 n:=fun j hj=>by
 rw[uX];refine⟨?_,h.frozen j⟩
 rw[h.cell j,Array.getElem?_eq_getElem (by omega)];rfl
theorem nI:(Tryz.prog.info? 33).map (·.size)=some 5:=by kernel_rfl
theorem ch_one(a s st:Int)(A:Option Addr)(n c:Nat)(A':Option Addr)(n' c':Nat):(#[.int .i64 a,.int .i64 s,.int .i64 st,.slice A n c,.slice A' n' c']:Array Value).all (fun v=>v.oneCell')=true:=by
 refine Array.all_eq_true_iff_forall_mem.2 fun v hv=>?_
 simp only[List.mem_toArray,sO,uB,or_false]at hv;rcases hv with rfl|rfl|rfl|rfl|rfl<;>rfl
theorem Blk.range{w:World}{g:Nat}{t:TypeId}{cs:List Value}(h:Blk w g t cs.toArray):w.rangeAt g 0 cs:=fun j u hj=>by
 rw[uX,h.cell j];simpa using hj
theorem Blk.set5{w:World}{g:Nat}{t:TypeId}{a0 a1 a2 a3 a4:Value}(h:Blk w g t #[a0,a1,a2,a3,a4])(b0 b1 b2 b3 b4:Value):
 Blk (((((w.setCell ⟨g,0,none⟩ b0).setCell ⟨g,1,none⟩ b1).setCell ⟨g,2,none⟩ b2).setCell ⟨g,3,none⟩ b3).setCell ⟨g,4,none⟩ b4) g t #[b0,b1,b2,b3,b4] :=
 ((((h.set_ 0 b0).set_ 1 b1).set_ 2 b2).set_ 3 b3).set_ 4 b4
theorem Below.set5{B:Nat}{w w':World}{g:Nat}(h:Below B w w')(hg:B≤g)(b0 b1 b2 b3 b4:Value):
 Below B w (((((w'.setCell ⟨g,0,none⟩ b0).setCell ⟨g,1,none⟩ b1).setCell ⟨g,2,none⟩ b2).setCell ⟨g,3,none⟩ b3).setCell ⟨g,4,none⟩ b4) :=
 ((((h.setCell (p:=⟨g,0,none⟩) hg b0).setCell (p:=⟨g,1,none⟩) hg b1).setCell (p:=⟨g,2,none⟩) hg b2).setCell (p:=⟨g,3,none⟩) hg b3).setCell (p:=⟨g,4,none⟩) hg b4
def AllL:Nat→(List Value→Prop)→Prop
 |0,P=>P []
 |n+1,P=>∀u,AllL n (fun l=>P (u::l))
theorem all_frames:∀(n:Nat) (P:List Value→Prop),AllL n P→∀l:List Value,l.length=n→P l
 |0,P,h,[],_=>h
 |n+1,P,h,u::l,hl=>all_frames n (fun l=>P (u::l)) (h u) l (by simpa using hl)
theorem frame_of(n:Nat){a:Act}(P:Act→Prop)(hs:a.tmps.size=n)(hd:a.defers=[])(h:AllL n (fun l=>P ⟨l.toArray,[]⟩)):P a:=by
 obtain⟨⟨l⟩,d⟩:=a
 simp only at hd;subst hd;exact all_frames n _ h l (by simpa using hs)
theorem qG{P:Program}{a:Act}{w:World}{Q:Exit→Act→World→Prop}{c X:Code}(l:Nat)(J:Act→World→Prop)(μ:Act→World→Nat)(hf:findLabel c l=some (Code.skip.seq X))
 (pass:∀a w,J a w→X.wp P (Exit.jump l (fun a' w'=>J a' w'∧μ a' w'<μ a w) Q) a w)
 (first:(∀a w,J a w→X.wp P (Exit.jump l J Q) a w)→c.wp P (Exit.jump l J Q) a w):(Code.scope c).wp P Q a w:=by
 refine wp_scope_jumps l J μ hf (first fun a w h=>?_) fun a w h=>wp_seq (wp_skip (pass a w h))
 refine Code.wp_mono (fun e a' w' h'=>?_) (pass a w h);cases e with
 |goto k=>exact⟨h'.1,h'.2.1⟩
 |_=>exact h'
end
section
def kvC(c:ChD):Rf×Value:=(c.rf,c.v)
theorem dS.kv{w:World}{b:Nat}{L:List ChD}(h:dS w b L):aJ w 45 b ((L.map kvC).map kv):=by
 rw[List.map_map];exact h
theorem kvC_fst(L:List ChD):(L.map kvC).map Prod.fst=aB L:=by rw[List.map_map];rfl
theorem row_reads{w w':World}{A:Option Addr}{S:List Rf}{P:Prop}{c:Nat}(h:S=[]∨∃g,w.heap.size≤g∧g<w'.heap.size∧A=some ⟨g,0,none⟩∧bY w' g S∧S.length≤c∧P):aC (fun k=>k<w'.heap.size) w' 2 A S.length (aF S):=by
 rcases h with rfl|⟨g,h1,h2,rfl,hr,_⟩
 ·exact⟨rfl,fun h=>absurd h (by simp)⟩
 ·exact hr.reads.more fun k hk=>by rw[hk];exact h2
theorem waiting_any(W:List ChD)(g bh bw bb:Nat)(w:World)(hB:Blk w g 93 #[.map (some bh),.map (some bw),.map (some bb)])(hm:dS w bw W)(hn:(aB W).Nodup)(hl:W.length≤1000000):
 Calls Tryz.prog 12 #[.pointer (some ⟨g,0,none⟩)] w fun e w'=>∃A c,e=.returned (.slice A (eJ W).length c)∧aC (fun k=>k<w'.heap.size) w' 2 A (eJ W).length (aF (eJ W))∧Below w.heap.size w w':=by
 have g1:=cZ hB 1 rfl;have C1:=mE (W.map kvC) bw w hm.kv (by rw[tF];exact hl);have HN:=Hi hn;rw[kvC_fst]at C1;clear hB hm hn;go_enter Tryz.func12,Tryz.ntmps12;go_wp2_with fail
 go_at_call 44;refine C1.mono ?_;rintro e w2 ⟨A,c,S,rfl,hp,ha,hrow,hb⟩;have HS:Hid (S=eJ W):=waits_eq HN.o hp ha;have HR:=Hi (row_reads hrow);rw[HS.o]at HR ⊢;clear hrow C1 hp ha;go_wp2_with fail
 go_ret;exact⟨A,c,rfl,HR.o,hb⟩
end
section
structure PBD(P:Nat→Prop)(w:World)(g bh bw bb:Nat)(X:List (ChD×Nat×List Rf))(W:List ChD):Prop where
 pb:PB w g bh bw bb X W
 pg:P g∧P bh∧P bw∧P bb
 px:∀x∈X,P x.2.1∧ChIn P w x.1
 pw:∀c∈W,ChIn P w c
theorem PBD.keep{P:Nat→Prop}{w w':World}{g bh bw bb:Nat}{X:List (ChD×Nat×List Rf)}{W:List ChD}(h:PBD P w g bh bw bb X W)(hs:w.heap.size≤w'.heap.size)(hk:∀k,P k→k<w.heap.size→w'.heap[k]?=w.heap[k]?):PBD P w' g bh bw bb X W:=by
 have hkk:∀ {c:ChD},ChIn P w c→ChIn (NF w bh bw bb) w c→ChIn (fun k=>P k∧NF w bh bw bb k) w' c:=fun h1 h2=>(h1.both h2).keep fun k hk'=>hk k hk'.1 hk'.2.1
 refine⟨⟨h.pb.blk.keep (hk _ h.pg.1 h.pb.blk.lt),aJ.keep h.pb.mh (hk _ h.pg.2.1 (aJ.lt h.pb.mh)),aJ.keep h.pb.mw (hk _ h.pg.2.2.1 (aJ.lt h.pb.mw)),aJ.keep h.pb.mb (hk _ h.pg.2.2.2 (aJ.lt h.pb.mb)),h.pb.ne,fun x hx=>?_,fun x hx=>?_,fun c hc=>?_⟩,h.pg,fun x hx=>⟨(h.px x hx).1,?_⟩,fun c hc=>?_⟩
 ·obtain⟨a1,a2,a3⟩:=h.pb.sets x hx
  exact⟨a1.keep (hk _ (h.px x hx).1 a2.1),a2.more hs,a3⟩
 ·exact(hkk (h.px x hx).2 (h.pb.inL x hx)).more fun k hk=>hk.2.more hs
 ·exact(hkk (h.pw c hc) (h.pb.inW c hc)).more fun k hk=>hk.2.more hs
 ·exact(hkk (h.px x hx).2 (h.pb.inL x hx)).more fun k hk=>hk.1
 ·exact(hkk (h.pw c hc) (h.pb.inW c hc)).more fun k hk=>hk.1
theorem PBD.take{P:Nat→Prop}{w w':World}{g bh bw bb:Nat}{X X':List (ChD×Nat×List Rf)}{W W':List ChD}(h:PBD P w g bh bw bb X W)(h':PB w' g bh bw bb X' W')(hc:Chg (fun k=>k=bh∨k=bw∨k=bb) w w')
 (hx:∀x∈X',x∈X∨w.heap.size≤x.2.1) (hy:∀y,y∈X'.map Prod.fst∨y∈W'→y∈X.map Prod.fst∨y∈W∨ChIn (fun k=>w.heap.size≤k) w' y):PBD (fun k=>P k∨w.heap.size≤k∧k<w'.heap.size) w' g bh bw bb X' W':=by
 have old:∀ {c:ChD},ChIn P w c→ChIn (NF w bh bw bb) w c→ChIn (fun k=>P k∨w.heap.size≤k∧k<w'.heap.size) w' c:=fun h1 h2 =>
  ((h1.both h2).keep fun k hk=>hc.block k hk.2.1 (fun e=>e.elim hk.2.2.1 fun e=>e.elim hk.2.2.2.1 hk.2.2.2.2)).more fun k hk=>.inl hk.1
 have each:∀y,y∈X'.map Prod.fst∨y∈W'→ChIn (NF w' bh bw bb) w' y→ChIn (fun k=>P k∨w.heap.size≤k∧k<w'.heap.size) w' y:=fun y hm hn=>by
  rcases hy y hm with h1|h1|h1
  ·obtain⟨x,hx,rfl⟩:=sW.1 h1
   exact old (h.px x hx).2 (h.pb.inL x hx)
  ·exact old (h.pw y h1) (h.pb.inW y h1)
  ·exact(h1.both hn).more fun k hk=>.inr ⟨hk.1,hk.2.1⟩
 refine⟨h',⟨.inl h.pg.1,.inl h.pg.2.1,.inl h.pg.2.2.1,.inl h.pg.2.2.2⟩,fun x hm=>⟨?_,each _ (.inl (vQ hm)) (h'.inL x hm)⟩,fun c hm=>each _ (.inr hm) (h'.inW c hm)⟩
 rcases hx x hm with h1|h1
 ·exact .inl (h.px x h1).1
 ·exact .inr ⟨h1,(h'.sets x hm).2.1.1⟩
section
variable{B:Nat}{D F:Nat→Prop}{w w':World}{g bh bw bb gs:Nat}{X:List (ChD×Nat×List Rf)}{W L Wr:List ChD}
end
end
section
theorem next_pred{L out:List ChD}{S Sd:List Rf}(hn:(aB L).Nodup)(he:∀c∈L,c.err=0)(hs:∀r∈S,r∈aB L)(hm:∀r,r∈Sd↔r∈aB out){g bh q q2 m:Nat}{V2 V3:Value}{w:World}(hB:HB w g bh V2 V3 L)(hin:∀c∈L,ChIn (fun k=>k<w.heap.size) w c)
 (hq:w.cell? ⟨q,0,none⟩=some (.pointer (some ⟨g,0,none⟩))) (hql:q<w.heap.size) (hS:SetV w q2 m Sd):PredB 46 #[.pointer (some ⟨q,0,none⟩),.pointer (some ⟨q2,0,none⟩)] S (gA L out) w:=by
 intro W r hr hb;obtain⟨x,hx,rfl⟩:=sW.1 (hs r hr)
 have hf:=dQ hn hx;have e:gA L out x.rf=x.deps.all fun d=>decide (d∈Sd):=by
  unfold gA;rw[hf];simp only[hm]
 rw[e];exact all1_any L x hf (mF (he x hx)) (err_deps (he x hx)) Sd g bh q q2 m V2 V3 W (hB.below hb) (((hin x hx).keep fun k hk=>hb.block k hk).more fun k hk=>sD hk hb.size) ((sK (hb.block _ hql)).trans hq) (sD hql hb.size) (hS.below hb)
theorem all_any(L:List ChD)(g bh:Nat)(V2 V3:Value)(w:World)(hB:HB w g bh V2 V3 L)(hk:Bk L)(hl:L.length≤1000)(hin:∀c∈L,ChIn (fun k=>k<w.heap.size) w c):
 Calls Tryz.prog 9 #[.pointer (some ⟨g,0,none⟩)] w fun e w'=>∃(A:Option Addr) (c:Nat) (Lr:List ChD),e=.returned (.slice A Lr.length c)∧Lr.map ChD.base=(dU L).map ChD.base∧ChsIn (fun k=>k<w'.heap.size) w' A Lr∧Below w.heap.size w w':=by
 have HBB:=Hi hB;have HK:=Hi hk;have HIN:=Hi hin;have HLL:=Hi hl;clear hB hk hin hl;have hmm:∀(t:TypeId) (w:World),(Instr.makeMap t none).run Tryz.prog w=.ok (.map (some w.heap.size)) (w.alloc (.map #[] 0)):=fun _ _=>rfl
 have hW1:Below w.heap.size w (w.alloc (.cells #[.pointer (some ⟨g,0,none⟩)] 25)):=(sA _ w).alloc (sB _) _;have hQ1:=Blk.new w 25 #[.pointer (some ⟨g,0,none⟩)];have hz1:(w.alloc (.cells #[.pointer (some ⟨g,0,none⟩)] 25)).heap.size=w.heap.size+1:=by simp
 generalize hV1:w.alloc (.cells #[.pointer (some ⟨g,0,none⟩)] 25)=V1 at hW1 hQ1 hz1;have hS2:fD (V1.alloc (.map #[] 0)) V1.heap.size []:=fD.made V1;have hb2:Below V1.heap.size V1 (V1.alloc (.map #[] 0)):=(sA _ V1).alloc (sB _) _;have hz2:(V1.alloc (.map #[] 0)).heap.size=V1.heap.size+1:=by simp
 generalize hV2:V1.alloc (.map #[] 0)=V2' at hS2 hb2 hz2;have hQ3:=Blk.new V2' 102 #[.map (some V1.heap.size)];have hb3:Below V2'.heap.size V2' (V2'.alloc (.cells #[.map (some V1.heap.size)] 102)):=(sA _ V2').alloc (sB _) _;generalize hV3:V2'.alloc (.cells #[.map (some V1.heap.size)] 102)=V0 at hQ3 hb3;have HS0:=Hi (hS2.keep (hb3.block _ (aJ.lt hS2)));have HQ1:=Hi ((hQ1.keep (hb2.block _ hQ1.lt)).keep (hb3.block _ (by rw[hz2];have:=hQ1.lt;omega)));have HQ4:=Hi hQ3;have HW0:Hid (Below w.heap.size w V0):=(hW1.trans (hb2.mono (by omega))).trans (hb3.mono (by omega));have HSZ:Hid (w.heap.size<V0.heap.size∧V1.heap.size<V0.heap.size∧V2'.heap.size<V0.heap.size∧w.heap.size<V1.heap.size∧V1.heap.size<V2'.heap.size):=by
  have:=hb3.size;have:=HQ4.o.lt;show _∧_;omega
 clear hW1 hQ1 hz1 hS2 hb2 hz2 hQ3 hb3;go_enter Tryz.func9,Tryz.ntmps9;go_upto_region 3 with fail
 clear hmm hV1 hV2 hV3;generalize V1.heap.size=m at HS0 HQ4 HSZ ⊢;generalize V2'.heap.size=q4 at HQ4 HSZ ⊢;have hb0:=HBB.o.below HW0.o;have g0:=cZ hb0.blk 0 rfl;have b1:=cZ HQ1.o 0 rfl;have C1:=mE (L.map kvC) bh V0 hb0.mh.kv (by rw[tF];have:=HLL.o;omega);rw[kvC_fst]at C1;clear hb0;go_wp2_with fail
 go_at_call 44;refine C1.mono ?_;rintro e w1 ⟨A,cc,S0,rfl,hp,ha,hrow,hb⟩;have HA0:Hid (AllG L S0 []):=AllG.start HK.o.nodup hp ha;have HROW:Hid (S0=[]∨∃gS,A=some ⟨gS,0,none⟩∧V0.heap.size≤gS∧gS<w1.heap.size∧bY w1 gS S0∧S0.length≤cc∧cc≤9223372036854775807):=by
  rcases hrow with h|⟨gS,h1,h2,h3,h4,h5,h6⟩
  ·exact .inl h
  ·exact .inr ⟨gS,h3,h1,h2,h4,h5,h6⟩
 have HS1:=Hi (HS0.o.keep (hb.block _ (aJ.lt HS0.o)));have HR1:=Hi (HQ1.o.keep (hb.block _ HQ1.o.lt));have HR4:=Hi (HQ4.o.keep (hb.block _ HQ4.o.lt));have HW1:Hid (Below w.heap.size w w1):=HW0.o.trans (hb.mono HW0.o.size);have HSZ1:Hid (V0.heap.size≤w1.heap.size):=hb.size;clear C1 hp ha hrow hb g0 b1 HS0 HQ1 HQ4 HW0;have EG:∀args w,(callFunc 46 args).run Tryz.prog w=.ok (.enter 46 args) w:=enters_of Tryz.func46 (by kernel_rfl) (wV (show Tryz.f46.body.isSome=true by kernel_rfl)).symm;have HEG:=Hi EG;have HHE:Hid (∀c∈L,c.err=0):=fun c hc=>(HK.o.err c hc).1
 clear EG;go_wp2_with fail
 go_loopw [3,5,6] (fun s3 s5 _ wr=>∃(S Sd:List Rf) (out outr:List ChD) (D:Nat→Prop),s5=.slice A S.length cc∧Hid (AllG L S out)∧Hid (outr.map ChD.base=out.map ChD.base)∧Hid (wr.ownsRow w1.heap.size 33 5 s3 outr.length (aW outr))∧Hid (∀c∈outr,ChIn D wr c)∧Hid (∀k,D k→w1.heap.size≤k∧k<wr.heap.size∧s3.ownBlock≠some k)∧Hid (fD wr m Sd)∧Hid (∀r,r∈Sd↔r∈aB out) ∧
  Hid (S=[]∨∃gS,A=some ⟨gS,0,none⟩∧V0.heap.size≤gS∧gS<w1.heap.size∧bY wr gS S∧S.length≤cc∧cc≤9223372036854775807)∧Hid (Chg (fun k=>k=m∨V0.heap.size≤k∧k<w1.heap.size) w1 wr)) (fun _ s5 _ _=>slen s5)
 case atStart=>exact⟨S0,[],[],[],fun _=>False,rfl,HA0,rfl,bB _ _ _ _,(by intro c hc;cases hc),(by intro k hk;cases hk),HS1,Hi (by simp[aB]),HROW,Hi (Chg.refl _)⟩
 case round =>
  clear HA0 HROW HS1;obtain⟨S,Sd,out,outr,D,rfl,HA,HBE,HO,HCH,HD,HS,HM,HROW,HC⟩:=hrel
  have HWr:Hid (Below w.heap.size w wr):=HW1.o.trans (HC.o.below HW1.o.size (fun k hk=>by have:=HSZ.o;omega));obtain⟨n,hn⟩:∃n,S.length=n:=⟨_,rfl⟩
  have HN:=Hi hn;rw[hn];clear hn;by_cases hn0:n=0
  ·have HAP:Hid (dU L=out):=HA.o.done (by rw[HN.o];exact hn0);obtain⟨Ao,co,hv,-,-,hro⟩:=aC.of_own HO.o
   have HRO:Hid (ChsIn (fun k=>k<wr.heap.size) wr Ao outr):=⟨hro.more fun k hk=>(aD HO.o hk).2,fun c hc=>(HCH.o c hc).more fun k hk=>(HD.o k hk).2.1⟩;subst hv hn0;clear hro;go_wp2_with fail
   go_ret;exact⟨Ao,co,outr,rfl,by rw[HAP.o];exact HBE.o,HRO.o,HWr.o⟩
  ·obtain⟨k,hk,hkl⟩:=HA.o.more HK.o (by rw[HN.o];omega)
   obtain⟨r,hr⟩:∃r,S[k]?=some r:=⟨_,sC hkl⟩
   obtain⟨x,hfx,hxL,hxr,hA2⟩:=HA.o.step HK.o hk hr
   rcases HROW.o with h|⟨gS,hA1,hg1,hg2,hrw,hcl,hcm⟩
   ·rw[h]at hkl;simp at hkl
   subst hA1;have HG:Hid (V0.heap.size≤gS∧gS<w1.heap.size∧S.length≤cc∧cc≤9223372036854775807):=⟨hg1,hg2,hcl,hcm⟩;have HRW:=Hi hrw;have HA2:=Hi hA2;have HXL:=Hi hxL;have HXR:=Hi hxr;have HR:=Hi hr;have hkn:k<n:=by rw[←HN.o];exact hkl
   have HQr1:=Hi (HR1.o.keep (HC.o.block _ HR1.o.lt (by have:=HSZ.o;omega)));have HQr4:=Hi (HR4.o.keep (HC.o.block _ HR4.o.lt (by have:=HSZ.o;omega)));have hsv:SetV wr q4 m Sd:=⟨HQr4.o.cell 0,HQr4.o.lt,HS.o⟩;have C2:=rT S (some ⟨gS,0,none⟩) cc wr (hrw.reads.more fun k hk=>by rw[hk];exact sD hg2 HC.o.size) (by have:=HG.o;omega) 46 #[.pointer (some ⟨w.heap.size,0,none⟩),.pointer (some ⟨q4,0,none⟩)] (gA L out) HEG.o
    (next_pred HK.o.nodup HHE.o (fun r hr=>((HA.o.mem r).1 hr).1) HM.o (HBB.o.below HWr.o) (fun c hc=>((HIN.o c hc).keep fun k hk=>HWr.o.block k hk).more fun k hk=>sD hk HWr.o.size) (HQr1.o.cell 0) HQr1.o.lt hsv)
   have hix:rU (gA L out) S=(k:Int):=by unfold rU;rw[hk]
   rw[hix,HN.o]at C2;clear hk hkl hfx hxL hxr hA2 hrw hcl hcm hsv hix hr HROW;go_wp2_with fail
   go_at_call 45;refine C2.mono ?_;rintro e w2 ⟨rfl,hb⟩;have HS2:=Hi (HS.o.keep (hb.block _ (aJ.lt HS.o)));have HO2:=Hi (aO HO.o hb);have HCH2:Hid (∀c∈outr,ChIn D w2 c):=fun c hc=>(HCH.o c hc).keep fun k hk=>hb.block k (HD.o k hk).2.1
   have HD2:Hid (∀k,D k→w1.heap.size≤k∧k<w2.heap.size∧u3.ownBlock≠some k):=fun k hk=>⟨(HD.o k hk).1,sD (HD.o k hk).2.1 hb.size,(HD.o k hk).2.2⟩
   have HRW2:=Hi (HRW.o.keep (hb.block _ (sD HG.o.2.1 HC.o.size)));have HC2:Hid (Chg (fun k=>k=m∨V0.heap.size≤k∧k<w1.heap.size) w1 w2):=HC.o.trans (Chg.of_below hb) fun _ _ h=>h
   have HX1:=Hi (HQr1.o.keep (hb.block _ HQr1.o.lt));have HX4:=Hi (HQr4.o.keep (hb.block _ HQr4.o.lt));have HW2:Hid (Below w.heap.size w w2):=HWr.o.trans (hb.mono HWr.o.size);clear C2 hb HS HO HCH HD HRW HC HQr1 HQr4 HWr;have hb2:=HBB.o.below HW2.o;have g0:=cZ hb2.blk 0 rfl;have b1:=cZ HX1.o 0 rfl;have x1:w2.cell? ⟨gS,k*2,none⟩=some (.int .i64 r.1):=HRW2.o.cell1 HR.o;have x2:w2.cell? ⟨gS,k*2+1,none⟩=some (.int .i64 r.2):=HRW2.o.cell2 HR.o;have hlk:=(hb2.below (sA _ w2).drew).mh.look (r:=r) (by rw[←HXR.o];exact mF (HHE.o x HXL.o)) false;have hlv:hN L r=x.v:=by unfold hN;rw[←HXR.o,dQ HK.o.nodup HXL.o]
   rw[hlv]at hlk;simp only[uT,if_false]at hlk;have hxo:=eE (HHE.o x HXL.o);have C3:=clone_any x w2.drew ((((HIN.o x HXL.o).keep fun k hk=>HW2.o.block k hk).more fun k hk=>sD hk HW2.o.size).keep fun k hk=>rfl) (by have:=hxo.2.2.2;omega) (by have:=hxo.2.2.1;omega) (fun o ho=>by have:=err_ll (HHE.o x HXL.o) o ho;omega);unfold ChD.v at hlk C3;clear hb2 hlv hxo;go_upto_region 6 with fail
   refine eB 10 (u3) (by kernel_rfl) (by kernel_rfl) (fun _ _ _ h=>h) (Or.inl ⟨by rfl,?_⟩) ?_
   ·(intro w;go_simp;try with_reducible rfl)
   simp only[tE,tO,tG,tT];go_frame;repeat (first|(refine aQ rfl (fun K hK=>?_);go_simp;refine hK _ ?_;clear hK K)|(refine wpStill_skip rfl ?_;go_frame))
   refine wpStill_nil ?_;change wpList _ _ _ _ _ w2.drew;have hol:outr.length≤1000:=by
    have h1:=HA.o.len;have h2:=congrArg List.length HBE.o;have h3:=HLL.o;simp only[tF]at h2;omega
   go_wp2_with fail
   go_at_call 40;refine C3.mono ?_;rintro e w3 ⟨c',rfl,hcb,hci,hb⟩;have hb3:Below w2.heap.size w2 w3:=(sA _ w2).drew.trans hb;have HCB:=Hi hcb;have HCI:Hid (ChIn (fun k=>w2.heap.size≤k∧k<w3.heap.size) w3 c'):=hci;have HS3:=Hi (HS2.o.keep (hb3.block _ (aJ.lt HS2.o)));have HO3:=Hi (aO HO2.o hb3);have HCH3:Hid (∀c∈outr,ChIn D w3 c):=fun c hc=>(HCH2.o c hc).keep fun k hk=>hb3.block k (HD2.o k hk).2.1
   have HRW3:=Hi (HRW2.o.keep (hb3.block _ (sD HG.o.2.1 HC2.o.size)));have HC3:Hid (Chg (fun k=>k=m∨V0.heap.size≤k∧k<w1.heap.size) w1 w3):=HC2.o.trans (Chg.of_below hb3) fun _ _ h=>h
   have HX3:=Hi (HX4.o.keep (hb3.block _ HX4.o.lt));have HD3:Hid (∀k,D k∨(w2.heap.size≤k∧k<w3.heap.size)→w1.heap.size≤k∧k<w3.heap.size∧u3.ownBlock≠some k):=fun k hk=>by
    rcases hk with hk|hk
    ·exact⟨(HD2.o k hk).1,sD (HD2.o k hk).2.1 hb3.size,(HD2.o k hk).2.2⟩
    ·exact⟨sY HC2.o.size hk.1,hk.2,fun e=>by have:=(aD HO2.o e).2;omega⟩
   clear C3 hcb hci hb hb3 g0 b1 x1 x2 hlk HX1 HX4 HS2 HO2 HCH2 HD2 HRW2 HC2 HW2;obtain⟨i0,hi,hz0,hz1,hz2⟩:=info_parts infoCh
   have hws:w1.heap.size≤w3.heap.size:=HC3.o.size;go_wp2_with (at_builtin;refine aG _ rfl (.tmp 19) (.tmp 30) _ rfl (w1.heap.size) 33 i0 _ 5 72 Tryz.underlying23 hi hz0 hz1 hz2 rfl (by omega) (_) (outr.length) (aW outr) rfl (HO3.o.alloc _) _ (some ⟨w3.heap.size,0,none⟩) (1) (1) (ChD.cells c') rfl ((cD (by exact Blk.new w3 _ #[.int .i64 c'.a,.int .i64 c'.s,.int .i64 c'.st,.slice c'.DA c'.deps.length c'.DC,.slice c'.OA c'.ops.length c'.OC]) (n:=5) rfl)) ((by intro u hu;exact dY [c'] u (by simpa[aW] using hu))) ?c1 ?c2 ?c3 ?_)
   try case c1=>simp only[maxLen];omega
   try case c2=>omega
   try case c3=>simp;omega
   intro v4 w4 ho4 hg4 hat4;have hown:∀k,u3.ownBlock=some k→w1.heap.size≤k∧k<w3.heap.size:=fun k hk=>aD HO3.o hk
   have hk4:∀k,k<w3.heap.size→u3.ownBlock≠some k→w4.heap[k]?=w3.heap[k]?:=fun k hk hne=>(hg4.block k (by simp;omega) (fun e=>hne e.symm)).trans (sM _ _ _ hk)
   have hlo:∀k,k<w1.heap.size→w4.heap[k]?=w3.heap[k]?:=fun k hk=>hk4 k (by omega) (fun e=>by have:=hown k e;omega)
   have HSG:Hid (w3.heap.size<w4.heap.size):=by have:=hg4.size;rw[tB]at this;show _<_;omega
   have HO4:Hid (w4.ownsRow w1.heap.size 33 5 v4 (outr++[c']).length (aW (outr++[c']))):=by show World.ownsRow _ _ _ _ _ _ _;rw[sF,gT];simpa[aW] using ho4
   have HD4:Hid (∀k,D k∨(w2.heap.size≤k∧k<w3.heap.size)→w1.heap.size≤k∧k<w4.heap.size∧v4.ownBlock≠some k):=fun k hk=>by
    have h3:=HD3.o k hk;refine⟨h3.1,Nat.lt_trans h3.2.1 HSG.o,fun e=>?_⟩
    rcases hat4 with h|h
    ·rw[h]at e;exact h3.2.2 e
    ·rw[h]at e;have h7:=tK e;exact absurd h3.2.1 (by rw[←h7];exact Nat.not_lt.2 (Nat.le_succ _))
   have HCH4:Hid (∀c∈outr++[c'],ChIn (fun k=>D k∨(w2.heap.size≤k∧k<w3.heap.size)) w4 c):=fun c hc=>by
    have hkp:lD (fun k=>D k∨(w2.heap.size≤k∧k<w3.heap.size)) w3 w4:=fun k hk=>hk4 k (HD3.o k hk).2.1 (HD3.o k hk).2.2
    rcases sG.1 hc with h|h
    ·exact((HCH3.o c h).more fun k hk=>.inl hk).keep hkp
    ·rw[sP.1 h];exact(HCI.o.more fun k hk=>.inr hk).keep hkp
   have hmlt:m<w1.heap.size:=by have:=HSZ.o;have:=HSZ1.o;omega
   have HS4:=Hi (HS3.o.keep (hlo m hmlt));have HRW4:=Hi (HRW3.o.keep (hlo gS HG.o.2.1));have HX5:=Hi (HX3.o.keep (hlo q4 (by have:=HSZ.o;have:=HSZ1.o;omega)));have HC4:Hid (Chg (fun k=>k=m∨V0.heap.size≤k∧k<w1.heap.size) w1 w4):=(HC3.o.alloc _).grown hg4 (fun q hq=>.inr (hown q hq).1);clear ho4 hg4 hat4 hown hk4 hlo HS3 HO3 HCH3 HRW3 HC3 HX3 HD3 HCI hws hi hz0 hz1 hz2;have v0:=cZ HX5.o 0 rfl;have x1:w4.cell? ⟨gS,k*2,none⟩=some (.int .i64 r.1):=HRW4.o.cell1 HR.o;have x2:w4.cell? ⟨gS,k*2+1,none⟩=some (.int .i64 r.2):=HRW4.o.cell2 HR.o;go_upto_region 7 with fail
   refine wp_region_still_tail 5 (by kernel_rfl) (by kernel_rfl) ?_;simp only[tE,tO,tG,tT];repeat (first|(refine aQ rfl (fun K hK=>?_);go_simp;refine hK _ ?_;clear hK K)|(refine wpStill_skip rfl ?_;go_frame))
   refine wpStill_nil ?_;change wpList _ _ _ _ _ w4.drew;have HSN:Hid (Sd.length<maxLen):=by
    have h1:=kR HS4.o.nodup (fun q hq=>(HM.o q).1 hq);have h2:(aB out).length=out.length:=by simp[aB]
    have h3:=HA.o.len;have h4:=HLL.o;show _<_;simp only[maxLen];omega
   have HS6:Hid (fD w4.drew m Sd):=HS4;have HRW6:Hid (bY w4.drew gS S):=HRW4.o.keep (w':=w4.drew) rfl;have HO6:Hid (w4.drew.ownsRow w1.heap.size 33 5 v4 (outr++[c']).length (aW (outr++[c']))):=aO HO4.o (sA _ w4).drew;have HCH6:Hid (∀c∈outr++[c'],ChIn (fun k=>D k∨(w2.heap.size≤k∧k<w3.heap.size)) w4.drew c):=fun c hc=>(HCH4.o c hc).keep fun k hk=>rfl
   have HD6:Hid (∀k,D k∨(w2.heap.size≤k∧k<w3.heap.size)→w1.heap.size≤k∧k<w4.drew.heap.size∧v4.ownBlock≠some k):=HD4;have HC6:Hid (Chg (fun k=>k=m∨V0.heap.size≤k∧k<w1.heap.size) w1 w4.drew):=HC4.o.drew;clear HS4 HRW4 HO4 HCH4 HD4 HC4 HSG v0 x1 x2 HX5;generalize w4.drew=w5 at HS6 HRW6 HO6 HCH6 HD6 HC6 ⊢;have hst:=HS6.o.add (r:=r) (by rw[←HXR.o];exact mF (HHE.o x HXL.o)) HSN.o;go_wp2_with (refine eX _ rfl (.tmp 32) (.tmp 36) (.const (.bool true)) 102 (.inl rfl) m (.agg #[.int .i64 r.1,.int .i64 r.2]) (.bool true) rfl rfl rfl _ hst ?_;rintro w6 ⟨⟨Sd2,hs6,hm6,-⟩,ht6⟩)
   have hg6:=ht6.grown;have HS7:=Hi hs6;have HM7:Hid (∀q,q∈Sd2↔q∈aB (out++[x])):=fun q=>by
    rw[hm6 q,HM.o q,bZ,sG];simp[aB,HXR.o]
   have hk6:∀k,k<w5.heap.size→k≠m→w6.heap[k]?=w5.heap[k]?:=fun k hk hne=>hg6.block k hk (fun e=>hne (tK e))
   have HRW7:=Hi (HRW6.o.keep (hk6 gS (sD HG.o.2.1 HC6.o.size) (fun e=>by have:=HG.o;have:=HSZ.o;omega)));have HO7:Hid (w6.ownsRow w1.heap.size 33 5 v4 (outr++[c']).length (aW (outr++[c']))):=aT HO6.o (fun k hk=>hk6 k (aD HO6.o hk).2 (fun e=>by have:=(aD HO6.o hk).1;omega));have HCH7:Hid (∀c∈outr++[c'],ChIn (fun k=>D k∨(w2.heap.size≤k∧k<w3.heap.size)) w6 c):=fun c hc=>(HCH6.o c hc).keep fun k hk=>hk6 k (HD6.o k hk).2.1 (fun e=>by have:=(HD6.o k hk).1;omega)
   have HD7:Hid (∀k,D k∨(w2.heap.size≤k∧k<w3.heap.size)→w1.heap.size≤k∧k<w6.heap.size∧v4.ownBlock≠some k):=fun k hk=>⟨(HD6.o k hk).1,sD (HD6.o k hk).2.1 hg6.size,(HD6.o k hk).2.2⟩
   have HC7:=Hi (HC6.o.grown hg6 (fun q hq=>by cases hq;exact .inl (.inl rfl)));clear hst hs6 hm6 ht6 hg6 hk6 HS6 HRW6 HO6 HCH6 HD6 HC6;obtain⟨m',hm'⟩:∃m',k+1+m'=n:=⟨n-(k+1),by omega⟩
   have C5:=delete_any gS cc k n m' S w6 HRW7.o HN.o hm' (by have:=HA.o.len;have:=HLL.o;have:=HN.o;omega) (by have:=HG.o.2.2.1;rw[HN.o]at this;exact this) HG.o.2.2.2;try simp only[Act.put,zA,zB,zC]
   have hwk:wrap64 ((k:Int)+1)=(k:Int)+1:=by have:=HA.o.len;have:=HLL.o;have:=HN.o;simp only[wrap64];omega
   go_wp2_with fail
   go_at_call 49;rw[hwk];refine C5.mono ?_;rintro e w7 ⟨rfl,hrw,hch⟩;have hgm:gS≠m:=fun e=>by have:=HG.o;have:=HSZ.o;omega
   have HS8:=Hi (HS7.o.keep (hch.block _ (aJ.lt HS7.o) (fun e=>hgm e.symm)));have HO8:Hid (w7.ownsRow w1.heap.size 33 5 v4 (outr++[c']).length (aW (outr++[c']))):=aT HO7.o (fun k hk=>hch.block k (aD HO7.o hk).2 (fun e=>by have:=(aD HO7.o hk).1;have:=HG.o;omega));have HCH8:Hid (∀c∈outr++[c'],ChIn (fun k=>D k∨(w2.heap.size≤k∧k<w3.heap.size)) w7 c):=fun c hc=>(HCH7.o c hc).keep fun k hk=>hch.block k (HD7.o k hk).2.1 (fun e=>by have:=(HD7.o k hk).1;have:=HG.o;omega)
   have HD8:Hid (∀k,D k∨(w2.heap.size≤k∧k<w3.heap.size)→w1.heap.size≤k∧k<w7.heap.size∧v4.ownBlock≠some k):=fun k hk=>⟨(HD7.o k hk).1,sD (HD7.o k hk).2.1 hch.size,(HD7.o k hk).2.2⟩
   have HC8:Hid (Chg (fun k=>k=m∨V0.heap.size≤k∧k<w1.heap.size) w1 w7):=HC7.o.trans hch fun i _ e=>Or.inr (by have e:i=gS:=e;have:=HG.o;omega)
   have HLN:Hid ((S.eraseIdx k).length=k+m'):=by show _=_;rw[uP (by rw[HN.o];omega),HN.o];omega
   have HB8:Hid ((outr++[c']).map ChD.base=(out++[x]).map ChD.base):=by show _=_;rw[tN,tN,HBE.o];simp[HCB.o]
   have HROW8:Hid (S.eraseIdx k=[]∨∃gS',some (⟨gS,0,none⟩:Addr)=some ⟨gS',0,none⟩∧V0.heap.size≤gS'∧gS'<w1.heap.size∧bY w7 gS' (S.eraseIdx k)∧(S.eraseIdx k).length≤cc∧cc≤9223372036854775807) :=
    .inr ⟨gS,rfl,HG.o.1,HG.o.2.1,hrw,by rw[HLN.o];have:=HG.o.2.2.1;rw[HN.o]at this;omega,HG.o.2.2.2⟩
   have hlt:k+m'<n:=by omega
   clear C5 hrw hch HS7 HM HRW7 HO7 HCH7 HD7 HC7 HA hgm hm';go_wp2_with fail
   go_roundw
   case rel=>exact⟨S.eraseIdx k,Sd2,out++[x],outr++[c'],_,by rw[HLN.o],HA2,HB8,HO8,HCH8,HD8,HS8,HM7,HROW8,HC8⟩
   case measure=>show k+m'<n;exact hlt
end
end Go.Proofs.YtjhkcbideddlgaaGreat
