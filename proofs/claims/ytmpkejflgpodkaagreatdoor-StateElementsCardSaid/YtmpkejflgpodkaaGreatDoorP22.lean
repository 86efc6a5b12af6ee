/- Contracts of the program's books: a change is put into a book. -/
import Derived.Test.YtmpkejflgpodkaaGreatDoorP21
import Derived.Test.YtmpkejflgpodkaaGreatDoorP15
import Derived.Test.YtmpkejflgpodkaaGreatDoorP18
import Derived.ScopeJumps
import Derived.WalkMore
import Derived.Deep.MidRow
import Derived.Test.YtmpkejflgpodkaaGreatDoorP16
set_option linter.unusedVariables false
set_option linter.unusedSimpArgs false
namespace Go.Proofs.YtmpkejflgpodkaaGreatDoor
open Go.ChangeShapes Go.WideShapes Go.ChangeAt Go.RowKit
theorem back_out : ∀ (L : List ChD) {r : Rf},r∉refsOf L→back L [r]=[]
 | [],_,_=>rfl
 | c::L,r,h=>by
   have h1 : c.rf≠r:=fun e=>h (by rw [← e];exact List.mem_cons_self ..)
   have h2 : r∉refsOf L:=fun e=>h (List.mem_cons_of_mem _ e)
   rw [back,if_neg (by simpa using h1),back_out L h2]
theorem behind_out {L : List ChD} {r : Rf} (h : r∉refsOf L) : behindP L [r]=[]:=back_out _ (by rw [refsOf_reverse];simpa using h)
theorem behind_each (L : List ChD) (hs : List Rf) (r : Rf) : r∈behindP L hs↔∃ h∈hs,r∈behindP L [h]:=back_each _ _ _
theorem behind_new {L : List ChD} {c : ChD} (hn : c.rf∉refsOf L) (r : Rf) : r∈behindP (L++[c]) [c.rf]↔r=c.rf∨r∈behindP L c.deps:=by
 rw [behind_snoc,if_pos (List.mem_singleton.2 rfl),List.mem_cons,behind_each L ([c.rf]++c.deps),behind_each L c.deps]
 constructor
 · rintro (h | ⟨h,h1,h2⟩)
   · exact .inl h
   · rcases List.mem_append.1 h1 with h1 | h1
     · rw [List.mem_singleton.1 h1,behind_out hn] at h2;cases h2
     · exact .inr ⟨h,h1,h2⟩
 · rintro (h | ⟨h,h1,h2⟩)
   · exact .inl h
   · exact .inr ⟨h,List.mem_append_right _ h1,h2⟩
structure UB (w : World) (g bh bw bb mk : Nat) (X : List (ChD × Nat × List Rf)) : Prop where
 blk : Blk w g 162 #[.map (some bh),.map (some bw),.map (some bb)]
 mb : MapL w 77 bb (X.map fun x=>(refV x.1.rf,.map (some x.2.1)))
 sets : ∀ x∈X,SetM w x.2.1 x.2.2∧x.2.1≠mk∧∀ r,r∈x.2.2↔r∈behindP (X.map Prod.fst) [x.1.rf]
 ne : g≠mk∧bb≠mk
theorem UB.chg {w w' : World} {g bh bw bb mk : Nat} {X : List (ChD × Nat × List Rf)} (h : UB w g bh bw bb mk X) (hc : Chg (fun k=>k=mk) w w') : UB w' g bh bw bb mk X :=
 ⟨h.blk.keep (hc.block _ h.blk.lt h.ne.1),MapL.keep h.mb (hc.block _ (MapL.lt h.mb) h.ne.2),
  fun x hx=>⟨(h.sets x hx).1.keep (hc.block _ (MapL.lt (h.sets x hx).1) (h.sets x hx).2.1),(h.sets x hx).2⟩,h.ne⟩
theorem setAt_some {X : List (ChD × Nat × List Rf)} {r : Rf} (h : r∈refsOf (X.map Prod.fst)) : ∃ x,x∈X∧x.1.rf=r:=by
 unfold refsOf at h
 rw [List.map_map] at h
 obtain ⟨x,hx,e⟩:=List.mem_map.1 h
 exact ⟨x,hx,e⟩
theorem zero_mapb (w : World) : (zeroValue 157).run Tryz.prog w=.ok (.map none) w:=by kernel_rfl
theorem UB.look {w : World} {g bh bw bb mk : Nat} {X : List (ChD × Nat × List Rf)} (h : UB w g bh bw bb mk X) {x : ChD × Nat × List Rf} (hx : x∈X) (r1 r2 : Int) (he : x.1.rf=(r1,r2)) :
 (Instr.lookup 160 (.map (some bb)) (.agg #[.int .i64 r1,.int .i64 r2]) false).run Tryz.prog w=.ok (.map (some x.2.1)) w :=
 MapL.hit h.mb keyed_ref Tryz.underlying160 (zero_mapb w) (List.mem_map.2 ⟨x,hx,by rw [he];rfl⟩) false
theorem behind_take {L : List ChD} {l : List Rf} {k : Nat} {d : Rf} (h : l[k]?=some d) (r : Rf) : r∈behindP L (l.take (k+1))↔r∈behindP L (l.take k)∨r∈behindP L [d]:=by
 rw [List.take_add_one,h,Option.toList_some,behind_each L (_++_),behind_each L (l.take k)]
 constructor
 · rintro ⟨x,h1,h2⟩
   rcases List.mem_append.1 h1 with h1 | h1
   · exact .inl ⟨x,h1,h2⟩
   · rw [List.mem_singleton.1 h1] at h2;exact .inr h2
 · rintro (⟨x,h1,h2⟩ | h2)
   · exact ⟨x,List.mem_append_left _ h1,h2⟩
   · exact ⟨d,List.mem_append_right _ (List.mem_singleton.2 rfl),h2⟩
def itLeft (w : World) (b r : Nat) : Nat:=match w.heap[r]?,w.heap[b]? with
 | some (.mapIter _ _ seen _),some (.map es _)=>(leftOf es seen).size
 | _,_=>0
theorem IterL.left {w : World} {k : TypeId} {b r : Nat} {l todo : List (Value × Value)} (h : IterL w k b r l todo) : itLeft w b r=todo.length:=by
 obtain ⟨es,clock,since,seen,c0,hb,F,hp,hr,hold,htodo,hsc,hsk⟩:=h
 have:=htodo.length_eq
 simp only [ents,List.length_map,Array.length_toList] at this
 unfold itLeft
 simp only [hr,hb]
 exact this
theorem set_less (U : List Rf) {S : List Rf} {L : List ChD} (hn : S.Nodup) (hl : L.length≤1000) (h : ∀ r∈S,r∈U∨r∈refsOf L) (hu : U.length≤1000) : S.length < maxLen:=by
 have h1:=nodup_le (m:=U++refsOf L) hn fun r hr=>List.mem_append.2 (h r hr)
 have h2 : (refsOf L).length=L.length:=by simp [refsOf]
 rw [List.length_append,h2] at h1
 simp only [maxLen]
 omega
theorem PB.gne {w : World} {g bh bw bb : Nat} {X : List (ChD × Nat × List Rf)} {W : List ChD} (h : PB w g bh bw bb X W) : g≠bh∧g≠bw∧g≠bb :=
 ⟨fun e=>MapL.no_cells h.mh _ _ (e▸h.blk),fun e=>MapL.no_cells h.mw _ _ (e▸h.blk),fun e=>MapL.no_cells h.mb _ _ (e▸h.blk)⟩
theorem UB.of {w w' : World} {g bh bw bb mk : Nat} {X : List (ChD × Nat × List Rf)} {W : List ChD} (h : PB w g bh bw bb X W) (hc : Chg (fun k=>k=bh) w w') (hm : w.heap.size≤mk) : UB w' g bh bw bb mk X :=
 ⟨h.blk.keep (hc.block _ h.blk.lt h.gne.1),MapL.keep h.mb (hc.block _ (MapL.lt h.mb) (fun e=>h.ne.2.1 e.symm)),
  fun x hx=>⟨(h.sets x hx).1.keep (hc.block _ (h.sets x hx).2.1.1 (h.sets x hx).2.1.2.1),(by have:=(h.sets x hx).2.1.1;omega),(h.sets x hx).2.2⟩,
  (by have:=h.blk.lt;omega),(by have:=MapL.lt h.mb;omega)⟩
theorem PB.put {w w' : World} {g bh bw bb mk : Nat} {X : List (ChD × Nat × List Rf)} {W : List ChD} {c : ChD} {S : List Rf} (h : PB w g bh bw bb X W) (hc : Chg (fun k=>k=bh∨k=bb) w w') (hch : ChIn (NF w bh bw bb) w c)
 (hn : c.rf∉refsOf (X.map Prod.fst)) (h1 : HasL w' bh (X.map Prod.fst++[c])) (h2 : MapL w' 77 bb (X.map (fun x=>(refV x.1.rf,.map (some x.2.1)))++[(refV c.rf,.map (some mk))]))
 (h3 : SetM w' mk S) (h4 : w.heap.size≤mk) (h5 : ∀ r,r∈S↔r∈[c.rf]∨r∈behindP (X.map Prod.fst) c.deps) : PB w' g bh bw bb (X++[(c,mk,S)]) W:=by
 have hg:=h.gne
 have hk : Keeps (NF w bh bw bb) w w':=hc.keeps fun k hk=>⟨hk.1,fun e=>e.elim hk.2.1 hk.2.2.2⟩
 have lh:=MapL.lt h.mh
 have lw:=MapL.lt h.mw
 have lb:=MapL.lt h.mb
 refine ⟨h.blk.keep (hc.block _ h.blk.lt (fun e=>e.elim hg.1 hg.2.2)),by rw [List.map_append];exact h1,MapL.keep h.mw (hc.block _ lw (fun e=>e.elim (fun e=>h.ne.1 e.symm) h.ne.2.2)),by rw [List.map_append];exact h2,h.ne,fun x hx=>?_,fun x hx=>?_,fun x hx=>((h.inW x hx).keep hk).more fun k hk=>hk.more hc.size⟩
 · rcases List.mem_append.1 hx with hx | hx
   · obtain ⟨a1,a2,a3⟩:=h.sets x hx
     refine ⟨a1.keep (hk _ a2),a2.more hc.size,fun r=>?_⟩
     rw [a3 r,List.map_append,List.map_cons,List.map_nil,behind_snoc,if_neg]
     intro e
     have : x.1.rf=c.rf:=(List.mem_singleton.1 e).symm
     exact hn (by rw [← this];exact mem_refs (List.mem_map.2 ⟨x,hx,rfl⟩))
   · rw [List.mem_singleton.1 hx]
     refine ⟨h3,⟨MapL.lt h3,(by show mk≠bh;omega),(by show mk≠bw;omega),(by show mk≠bb;omega)⟩,fun r=>?_⟩
     show r∈S↔_
     rw [List.map_append,List.map_cons,List.map_nil,h5 r,behind_new hn r,List.mem_singleton]
 · rcases List.mem_append.1 hx with hx | hx
   · exact ((h.inL x hx).keep hk).more fun k hk=>hk.more hc.size
   · rw [List.mem_singleton.1 hx];exact (hch.keep hk).more fun k hk=>hk.more hc.size
theorem HasL.add {w : World} {b : Nat} {L : List ChD} (h : HasL w b L) {c : ChD} (hr : I64R c.rf) (hn : c.rf∉refsOf L) (hl : L.length≤1000) :
 ∃ w',(Instr.mapUpdate 159 (.map (some b)) (refV c.rf) c.v).run Tryz.prog w=.ok () w'∧HasL w' b (L++[c])∧w.mapTurned w' b:=by
 obtain ⟨kl,hk⟩:=keyOf_ref hr
 obtain ⟨w',h1,h2,h3⟩:=MapL.store (v:=c.v) h keyed_ref Tryz.underlying159 (by rw [List.length_map];simp only [maxLen];omega) hk (fun p hp e=>by
  obtain ⟨q,hq,rfl⟩:=List.mem_map.1 hp
  exact hn (by rw [← refV_inj e];exact mem_refs hq))
 exact ⟨w',h1,by unfold HasL;rw [List.map_append];exact h2,h3⟩
theorem behind_add {w : World} {bb : Nat} {X : List (ChD × Nat × List Rf)} (h : MapL w 77 bb (X.map fun x=>(refV x.1.rf,.map (some x.2.1)))) {c : ChD} (hr : I64R c.rf) (hn : c.rf∉refsOf (X.map Prod.fst)) (hl : X.length≤1000) (mk : Nat) :
 ∃ w',(Instr.mapUpdate 160 (.map (some bb)) (refV c.rf) (.map (some mk))).run Tryz.prog w=.ok () w'∧MapL w' 77 bb (X.map (fun x=>(refV x.1.rf,.map (some x.2.1)))++[(refV c.rf,.map (some mk))])∧w.mapTurned w' bb:=by
 obtain ⟨kl,hk⟩:=keyOf_ref hr
 exact MapL.store (v:=.map (some mk)) h keyed_ref Tryz.underlying160 (by rw [List.length_map];simp only [maxLen];omega) hk (fun p hp e=>by
  obtain ⟨q,hq,rfl⟩:=List.mem_map.1 hp
  exact hn (by rw [← refV_inj e];exact mem_refs (List.mem_map.2 ⟨q,hq,rfl⟩)))
theorem bk_i64 {L : List ChD} (hk : Bk L) {r : Rf} (h : r∈refsOf L) : I64R r:=by
 obtain ⟨c,hc,rfl⟩:=List.mem_map.1 h
 have:=isRef_bd (err_rf (hk.err c hc).1).1
 exact ⟨by omega,by omega⟩
theorem rf_i64 {c : ChD} (he : c.err=0) : I64R c.rf:=by
 have:=isRef_bd (err_rf he).1
 exact ⟨by omega,by omega⟩
set_option maxHeartbeats 16000000 in
set_option maxRecDepth 20000 in
theorem put_any (X : List (ChD × Nat × List Rf)) (W : List ChD) (c : ChD) (g bh bw bb : Nat) (w : World) (hB : PB w g bh bw bb X W) (hk : Bk (X.map Prod.fst)) (hl : X.length≤1000) (hc : ChIn (NF w bh bw bb) w c) (he : c.err=0)
 (hr : readyP (X.map Prod.fst) c=true) (hn : c.rf∉refsOf (X.map Prod.fst)) :
 Calls Tryz.prog 130 #[.pointer (some ⟨g,0,none⟩),c.v] w fun e w'=>e=.returned (.tuple #[])∧(∃ mk S,PB w' g bh bw bb (X++[(c,mk,S)]) W∧w.heap.size≤mk)∧Chg (fun k=>k=bh∨k=bb) w w':=by
 obtain ⟨hst1,hst2,hop,hdp⟩:=err_ok he
 obtain ⟨L,hL⟩ : ∃ L,X.map Prod.fst=L:=⟨_,rfl⟩
 have HLL2:=Lib.hid hl
 have HLL : Hid (L.length≤1000):=by show _≤_;rw [← hL,List.length_map];exact hl
 obtain ⟨nd,hnd⟩ : ∃ n,c.deps.length=n:=⟨_,rfl⟩
 have HND:=Lib.hid hnd
 have HB:=Lib.hid hB
 have HCI:=Lib.hid hc
 have HRI:=Lib.hid (rf_i64 he)
 have HRY : Hid (∀ d∈c.deps,∃ x,x∈X∧x.1.rf=d):=fun d hd=>setAt_some (ready_mem hr d hd)
 have HK:=Lib.hid hk
 have HN:=Lib.hid hn
 have HLX:=Lib.hid hL
 rw [hL] at hn hk
 have HW : Hid (Below w.heap.size w (w.alloc (.cells #[.int .i64 c.a,.int .i64 c.s,.int .i64 c.st,.slice c.DA c.deps.length c.DC,.slice c.OA c.ops.length c.OC] 82))):=(Below.refl _ w).alloc (Nat.le_refl _) _
 have HQ:=Lib.hid (Blk.new w 82 #[.int .i64 c.a,.int .i64 c.s,.int .i64 c.st,.slice c.DA c.deps.length c.DC,.slice c.OA c.ops.length c.OC])
 clear hB hc he hr hk hn hL hst1 hst2 hop
 unfold ChD.v
 rw [hnd] at HW HQ hdp ⊢
 clear hnd
 go_enter Tryz.func130,Tryz.ntmps130
 go_wp2_with fail
 generalize w.alloc (.cells #[.int .i64 c.a,.int .i64 c.s,.int .i64 c.st,.slice c.DA nd c.DC,.slice c.OA c.ops.length c.OC] 82)=V at *
 have c0 : V.cell? ⟨w.heap.size,0,none⟩=some (.int .i64 c.a):=HQ.out.cell 0
 have c1 : V.cell? ⟨w.heap.size,1,none⟩=some (.int .i64 c.s):=HQ.out.cell 1
 have c2 : V.cell? ⟨w.heap.size,2,none⟩=some (.int .i64 c.st):=HQ.out.cell 2
 have c3 : V.cell? ⟨w.heap.size,3,none⟩=some (.slice c.DA nd c.DC):=HQ.out.cell 3
 have c4 : V.cell? ⟨w.heap.size,4,none⟩=some (.slice c.OA c.ops.length c.OC):=HQ.out.cell 4
 have C1:=chref_any c.a c.s (.int .i64 c.st) (.slice c.DA nd c.DC) (.slice c.OA c.ops.length c.OC) V rfl rfl rfl
 go_wp2_with fail
 go_at_call 126
 refine C1.mono ?_
 rintro e w2 ⟨rfl,hb⟩
 replace HQ:=Lib.hid (HQ.out.keep (hb.block _ HQ.out.lt))
 replace HW : Hid (Below w.heap.size w w2):=HW.out.trans (hb.mono HW.out.size)
 clear hb
 clear C1 c0 c1 c2 c3 c4
 have HQ2:=Lib.hid (Blk.new w2 77 #[.int .i64 c.a,.int .i64 c.s])
 have HW2 : Hid (Below w.heap.size w (w2.alloc (.cells #[.int .i64 c.a,.int .i64 c.s] 77))):=HW.out.alloc HW.out.size _
 have HQ1:=Lib.hid (HQ.out.keep (w':=w2.alloc (.cells #[.int .i64 c.a,.int .i64 c.s] 77)) (((Below.refl _ w2).alloc (Nat.le_refl _) _).block _ HQ.out.lt))
 have hws : w.heap.size < w2.heap.size:=HQ.out.lt
 clear HQ HW
 go_upto_region 2 with fail
 generalize w2.alloc (.cells #[.int .i64 c.a,.int .i64 c.s] 77)=w3 at HQ2 HW2 HQ1 ⊢
 generalize w2.heap.size=q2 at HQ2 hws ⊢
 have HP3:=Lib.hid (HB.out.below HW2.out)
 have g0 : w3.cell? ⟨g,0,none⟩=some (.map (some bh)):=HP3.out.blk.cell 0
 have q0 : w3.cell? ⟨q2,0,none⟩=some (.int .i64 c.a):=HQ2.out.cell 0
 have q1 : w3.cell? ⟨q2,1,none⟩=some (.int .i64 c.s):=HQ2.out.cell 1
 have c0 : w3.cell? ⟨w.heap.size,0,none⟩=some (.int .i64 c.a):=HQ1.out.cell 0
 have c1 : w3.cell? ⟨w.heap.size,1,none⟩=some (.int .i64 c.s):=HQ1.out.cell 1
 have c2 : w3.cell? ⟨w.heap.size,2,none⟩=some (.int .i64 c.st):=HQ1.out.cell 2
 have c3 : w3.cell? ⟨w.heap.size,3,none⟩=some (.slice c.DA nd c.DC):=HQ1.out.cell 3
 have c4 : w3.cell? ⟨w.heap.size,4,none⟩=some (.slice c.OA c.ops.length c.OC):=HQ1.out.cell 4
 refine wp_region_still_tail 6 (by kernel_rfl) (by kernel_rfl) ?_
 simp only [List.take_succ_cons,List.take_zero,List.drop_succ_cons,List.drop_zero]
 repeat (first | (refine wpStill_want rfl (fun K hK=>?_);go_simp;refine hK _ ?_;clear hK K) | (refine wpStill_skip rfl ?_;go_frame))
 refine wpStill_nil ?_
 change wpList _ _ _ _ _ w3.drew
 have HP4 : Hid (PB w3.drew g bh bw bb X W):=HP3.out.below (Below.refl _ w3).drew
 have HQ4 : Hid (Blk w3.drew q2 77 #[.int .i64 c.a,.int .i64 c.s]):=HQ2
 have HB4 : Hid (Blk w3.drew w.heap.size 82 #[.int .i64 c.a,.int .i64 c.s,.int .i64 c.st,.slice c.DA nd c.DC,.slice c.OA c.ops.length c.OC]):=HQ1
 have HW4 : Hid (Below w.heap.size w w3.drew):=HW2.out.drew
 clear g0 q0 q1 c0 c1 c2 c3 c4 HP3 HQ2 HQ1 HW2
 generalize w3.drew=w4 at HP4 HQ4 HB4 HW4 ⊢
 have hst:=HP4.out.mh.add HRI.out HN.out (by rw [HLX.out];exact HLL.out)
 rw [HLX.out] at hst
 unfold ChD.v at hst
 rw [HND.out] at hst
 have hmm : ∀ (t : TypeId) (w : World),(Instr.makeMap t none).run Tryz.prog w=.ok (.map (some w.heap.size)) (w.alloc (.map #[] 0)):=fun _ _=>rfl
 go_wp2_with (first
  | (refine wpL_store _ rfl (.tmp 14) (.tmp 15) (.tmp 16) 159 (.inl rfl) bh _ _ rfl rfl rfl _ hst ?_
     rintro w5 ⟨hh5,ht5⟩
     have hg5:=ht5.grown
     have HH5:=Lib.hid hh5
     have HC5 : Hid (Chg (fun k=>k=bh) w4 w5):=(Chg.refl w4).grown hg5 (fun q hq=>by cases hq;exact .inl rfl)
     have HGN:=Lib.hid HP4.out.gne
     have HLH:=Lib.hid (MapL.lt HP4.out.mh)
     have HQN : Hid (q2≠bh):=fun e=>MapL.no_cells HP4.out.mh _ _ (e▸HQ4.out)
     have HQ5:=Lib.hid (HQ4.out.keep (HC5.out.block _ HQ4.out.lt HQN.out))
     have HBN : Hid (w.heap.size≠bh):=fun e=>MapL.no_cells HP4.out.mh _ _ (e▸HB4.out)
     have HB5:=Lib.hid (HB4.out.keep (HC5.out.block _ HB4.out.lt HBN.out))
     clear hh5 ht5 hg5 hst HQ4 HB4
     have q0 : w5.cell? ⟨q2,0,none⟩=some (.int .i64 c.a):=HQ5.out.cell 0
     have q1 : w5.cell? ⟨q2,1,none⟩=some (.int .i64 c.s):=HQ5.out.cell 1
     have hq2 : q2 < w5.heap.size:=HQ5.out.lt
     have HST:=Lib.hid ((SetM.made w5).add HRI.out (by simp [maxLen])))
  | (refine wpL_store _ rfl (.tmp 17) (.tmp 18) _ 157 (.inr rfl) _ _ _ rfl rfl rfl _ HST.out ?_
     rintro w6 ⟨⟨S0,hs6,hm6,-⟩,ht6⟩
     have hg6:=ht6.grown
     have HS6:=Lib.hid hs6
     have HM6:=Lib.hid hm6
     have HC6 : Hid (Chg (fun k=>k=bh) w4 w6):=(HC5.out.alloc _).grown hg6 (fun q hq=>by cases hq;exact .inr HC5.out.size)
     have HH6:=Lib.hid (MapL.keep (MapL.keep HH5.out (Below.heap_alloc w5 (.map #[] 0) _ (MapL.lt HH5.out))) (hg6.block _ (by have:=MapL.lt HH5.out;simp;omega) (fun e=>by have:=MapL.lt HH5.out;have:=Option.some.inj e;omega)))
     have HQ6:=Lib.hid ((HQ5.out.keep (Below.heap_alloc w5 (.map #[] 0) _ HQ5.out.lt)).grown hg6 (fun e=>by have:=HQ5.out.lt;have:=Option.some.inj e;omega))
     have HB6:=Lib.hid ((HB5.out.keep (Below.heap_alloc w5 (.map #[] 0) _ HB5.out.lt)).grown hg6 (fun e=>by have:=HB5.out.lt;have:=Option.some.inj e;omega))
     have HMK : Hid (w4.heap.size≤w5.heap.size∧q2 < w5.heap.size∧w.heap.size < w5.heap.size∧bh < w5.heap.size):=⟨HC5.out.size,hq2,HB5.out.lt,MapL.lt HH5.out⟩
     have c3 : w6.cell? ⟨w.heap.size,3,none⟩=some (.slice c.DA nd c.DC):=HB6.out.cell 3
     clear hs6 hm6 ht6 hg6 HST HH5 HQ5 HB5 HC5 q0 q1 hq2
     generalize w5.heap.size=mk at HS6 HMK ⊢))
 clear hmm
 obtain ⟨V0,hV0⟩ : ∃ V,V=w6:=⟨_,rfl⟩
 subst hV0
 have HU:=Lib.hid (UB.of HP4.out HC6.out HMK.out.1)
 have HRD : Hid (Reads (fun j=>j < V0.heap.size∧¬ j=mk) V0 2 c.DA c.deps.length (refC c.deps)) :=
  (HCI.out.hd.keep (fun k hk=>(HC6.out.block k (Nat.lt_of_lt_of_le hk.1 HW4.out.size) hk.2.1).trans (HW4.out.block k hk.1))).more
    fun k hk=>⟨Nat.lt_of_lt_of_le (Nat.lt_of_lt_of_le hk.1 HW4.out.size) HC6.out.size,fun e=>by have:=hk.1;have:=HW4.out.size;have:=HMK.out.1;omega⟩
 rw [HND.out] at HRD
 have HM0 : Hid (∀ r,r∈S0↔r∈[c.rf]∨r∈behindP L (c.deps.take 0)):=fun r=>by
  rw [HM6.out r,List.take_zero]
  unfold behindP
  rw [back_nil]
  simp
 have HS0:=HS6
 clear HM6 HS6 c3
 go_loopw [7,8,23] (fun _ _ s wr=>∃ (k : Nat) (S : List Rf),s=.int .i64 k∧k≤nd∧Hid (SetM wr mk S)∧Hid (∀ r,r∈S↔r∈[c.rf]∨r∈behindP L (c.deps.take k))∧Hid (Chg (fun j=>j=mk) V0 wr)) (fun _ _ s _=>nd - (intOf s).toNat)
 case atStart=>exact ⟨0,_,rfl,by omega,HS0,HM0,Lib.hid (Chg.refl _)⟩
 case round =>
  clear HS0 HM0
  obtain ⟨k,S,rfl,hk,HS,HM,HC⟩:=hrel
  by_cases hlt : k < nd
  · obtain ⟨d,hd⟩ : ∃ d,c.deps[k]?=some d:=⟨_,List.getElem?_eq_getElem (by rw [HND.out];exact hlt)⟩
    have HDM : Hid (∀ r,r∈behindP L (c.deps.take (k+1))↔r∈behindP L (c.deps.take k)∨r∈behindP L [d]):=fun r=>behind_take hd r
    obtain ⟨x,hx,hxr⟩:=HRY.out d (List.mem_of_getElem? hd)
    have HX:=Lib.hid hx
    have HLT:=Lib.hid hlt
    have HXR:=Lib.hid hxr
    obtain ⟨bd,od,hA,hbl,hcd⟩:=(HRD.out.keep (HC.out.keeps fun j hj=>hj)).at_ (by omega) (by omega)
    have p1 : wr.cell? ⟨bd,od+k*2,none⟩=some (.int .i64 d.1):=hcd _ _ (refC_at hd).1
    have p2 : wr.cell? ⟨bd,od+k*2+1,none⟩=some (.int .i64 d.2):=hcd _ _ (refC_at hd).2
    have hbl2 : bd < wr.heap.size:=Nat.lt_of_lt_of_le hbl.1 HC.out.size
    have HSX:=Lib.hid (HU.out.sets x hx)
    rw [hA]
    clear hcd hd hx hxr hbl
    have HUa:=Lib.hid ((HU.out.chg HC.out).chg ((Chg.refl wr).alloc (.cells #[.int .i64 d.1,.int .i64 d.2] 77)))
    have HQa:=Lib.hid (Blk.new wr 77 #[.int .i64 d.1,.int .i64 d.2])
    have HSa:=Lib.hid (HS.out.keep (w':=wr.alloc (.cells #[.int .i64 d.1,.int .i64 d.2] 77)) (Below.heap_alloc _ _ _ (MapL.lt HS.out)))
    have HCa:=Lib.hid (HC.out.alloc (.cells #[.int .i64 d.1,.int .i64 d.2] 77))
    clear HS HC
    go_upto_region 7 with fail
    generalize wr.alloc (.cells #[.int .i64 d.1,.int .i64 d.2] 77)=wa at HUa HQa HSa HCa ⊢
    generalize wr.heap.size=qa at HQa ⊢
    clear p1 p2
    have g2 : wa.cell? ⟨g,2,none⟩=some (.map (some bb)):=HUa.out.blk.cell 2
    have d1 : wa.cell? ⟨qa,0,none⟩=some (.int .i64 d.1):=HQa.out.cell 0
    have d2 : wa.cell? ⟨qa,1,none⟩=some (.int .i64 d.2):=HQa.out.cell 1
    have hlk:=(HUa.out.chg (Chg.refl wa).drew).look HX.out d.1 d.2 HXR.out
    refine wp_region_still_tail 6 (by kernel_rfl) (by kernel_rfl) ?_
    simp only [List.take_succ_cons,List.take_zero,List.drop_succ_cons,List.drop_zero]
    repeat (first | (refine wpStill_want rfl (fun K hK=>?_);go_simp;refine hK _ ?_;clear hK K) | (refine wpStill_skip rfl ?_;go_frame))
    refine wpStill_nil ?_
    change wpList _ _ _ _ _ wa.drew
    have HSb : Hid (SetM wa.drew mk S):=HSa
    have HCb : Hid (Chg (fun j=>j=mk) V0 wa.drew):=HCa.out.drew
    have HXb : Hid (SetM wa.drew x.2.1 x.2.2):=((HUa.out.sets x HX.out).1.keep rfl)
    clear g2 d1 d2 hlk HUa HQa HSa HCa
    generalize wa.drew=wb at HSb HCb HXb ⊢
    go_wp2_with (refine wpL_range _ rfl (.tmp 32) 157 rfl 77 4 Tryz.underlying157 x.2.1 _ rfl HXb.out ?_;intro w1 hI1 hb1 hs1)
    have HI1 : Hid (IterS w1 x.2.1 wb.heap.size x.2.2 x.2.2):=hI1
    have HS1:=Lib.hid (HSb.out.keep (hb1.block _ (MapL.lt HSb.out)))
    have HC1 : Hid (Chg (fun j=>j=mk) V0 w1):=HCb.out.trans (Chg.of_below hb1) fun _ _ h=>h
    have HIT : Hid (V0.heap.size≤wb.heap.size∧mk < wb.heap.size):=⟨HCb.out.size,MapL.lt HSb.out⟩
    clear hI1 hb1 hs1 HSb HCb HXb
    generalize wb.heap.size=it at HI1 HIT ⊢
    try simp only [Act.put,List.setIfInBounds_toArray,List.set_cons_zero,List.set_cons_succ]
    go_loopw [8] (fun _ wr=>∃ S1 todo : List Rf,Hid (SetM wr mk S1)∧Hid (IterS wr x.2.1 it x.2.2 todo)∧Hid (∀ r,(r∈S1∨r∈todo)↔(r∈S∨r∈x.2.2))∧Hid (Chg (fun j=>j=mk) V0 wr)) (fun _ wr=>itLeft wr x.2.1 it)
    case atStart=>exact ⟨S,x.2.2,HS1,HI1,Lib.hid fun r=>Iff.rfl,HC1⟩
    case round =>
     clear HS1 HI1 HC1
     obtain ⟨S1,todo,HS1,HI,HE,HC⟩:=hrel
     go_wp2_with (refine wpS_next _ rfl (.tmp 33) rfl x.2.1 it x.2.2 todo rfl HI.out ?_ ?_)
     · intro ht
       subst ht
       have HM2 : Hid (∀ r,r∈S1↔r∈[c.rf]∨r∈behindP L (c.deps.take (k+1))):=fun r=>by
        have e:=HE.out r
        simp only [List.not_mem_nil,or_false] at e
        rw [e,HM.out r,HDM.out r,HSX.out.2.2 r,HXR.out,or_assoc]
        first | rfl | (rw [HLX.out])
       clear HI HE HM HDM
       go_wp2_with fail
       go_roundw
       case rel=>exact ⟨k+1,S1,by go_num,by have:=HLT.out;omega,HS1,HM2,HC⟩
       case measure=>have:=HLT.out;simp [intOf];omega
     · intro ya yb todo' w2 hp hI2 hg2 hs2 hen
       have HEY : Hid (∀ r,r∈todo↔r=(ya,yb)∨r∈todo'):=fun r=>by rw [hp.mem_iff,List.mem_cons]
       have HYS : Hid ((ya,yb)∈x.2.2):=HI.out.sub (ya,yb) (hp.mem_iff.2 (List.mem_cons_self ..))
       have HLE : Hid (itLeft wr x.2.1 it=todo'.length+1):=by show _=_;rw [IterL.left HI.out,List.length_map,hp.length_eq];rfl
       have HLM:=Lib.hid (MapL.lt HS1.out)
       have HIL:=Lib.hid (IterL.lt HI.out)
       have HIN : Hid (it≠mk):=fun e=>by have:=HIT.out.2;omega
       have HS2:=Lib.hid (HS1.out.keep (hg2.block _ HLM.out (fun e=>HIN.out (Option.some.inj e).symm)))
       have HC2:=Lib.hid (HC.out.grown hg2 (fun q hq=>by cases hq;exact .inr HIT.out.1))
       have HI2:=Lib.hid hI2
       have hmk2 : mk < w2.heap.size:=MapL.lt HS2.out
       have hit2 : it < w2.heap.size:=IterL.lt hI2
       have hxb2 : x.2.1 < w2.heap.size:=MapL.lt (IterL.map hI2)
       clear hp hI2 hg2 hs2 HI HS1 HC
       have HS3:=Lib.hid (HS2.out.keep (w':=w2.alloc (.cells #[.int .i64 ya,.int .i64 yb] 77)) (Below.heap_alloc _ _ _ hmk2))
       have HI3 : Hid (IterS (w2.alloc (.cells #[.int .i64 ya,.int .i64 yb] 77)) x.2.1 it x.2.2 todo'):=IterL.keep HI2.out (Below.heap_alloc _ _ _ hxb2) (Below.heap_alloc _ _ _ hit2)
       have HC3:=Lib.hid (HC2.out.alloc (.cells #[.int .i64 ya,.int .i64 yb] 77))
       have HQy:=Lib.hid (Blk.new w2 77 #[.int .i64 ya,.int .i64 yb])
       have hst:=HS3.out.add (r:=(ya,yb)) (bk_i64 HK.out (behind_sub ((HSX.out.2.2 (ya,yb)).1 HYS.out))) (set_less [c.rf] HS3.out.nodup HLL.out (fun r hr=>by
        rcases (HE.out r).1 (.inl hr) with h | h
        · rcases (HM.out r).1 h with h | h
          · exact .inl h
          · exact .inr (behind_sub h)
        · have:=behind_sub ((HSX.out.2.2 r).1 h);exact .inr (by rw [HLX.out] at this;exact this)) (by simp))
       go_upto_region 10 with fail
       generalize w2.alloc (.cells #[.int .i64 ya,.int .i64 yb] 77)=w3 at HS3 HI3 HC3 HQy hst ⊢
       generalize w2.heap.size=qy at HQy ⊢
       have y1 : w3.cell? ⟨qy,0,none⟩=some (.int .i64 ya):=HQy.out.cell 0
       have y2 : w3.cell? ⟨qy,1,none⟩=some (.int .i64 yb):=HQy.out.cell 1
       clear HQy HS2 HC2 HI2 hen hmk2 hit2 hxb2
       go_wp2_with (refine wpL_store _ rfl (.tmp 38) (.tmp 39) (.const (.bool true)) 157 (.inl rfl) mk (.agg #[.int .i64 ya,.int .i64 yb]) (.bool true) rfl rfl rfl _ hst ?_;rintro w4 ⟨⟨S2,hs4,hm4,-⟩,ht4⟩)
       have hg4:=ht4.grown
       have HS4:=Lib.hid hs4
       have HXM : Hid (x.2.1≠mk):=HSX.out.2.1
       have HI4 : Hid (IterS w4 x.2.1 it x.2.2 todo'):=IterL.keep HI3.out (hg4.block _ (MapL.lt (IterL.map HI3.out)) (fun e=>HXM.out (Option.some.inj e))) (hg4.block _ (IterL.lt HI3.out) (fun e=>HIN.out (Option.some.inj e)))
       have HC4:=Lib.hid (HC3.out.grown hg4 (fun q hq=>by cases hq;exact .inl rfl))
       have HE4 : Hid (∀ r,(r∈S2∨r∈todo')↔(r∈S∨r∈x.2.2)):=fun r=>by
        rw [← HE.out r,HEY.out r,hm4 r,or_assoc]
       have HL4 : Hid (itLeft w4 x.2.1 it=todo'.length):=by show _=_;rw [IterL.left HI4.out,List.length_map]
       clear hs4 hm4 ht4 hg4 hst y1 y2 HS3 HI3 HC3 HE HEY
       try simp only [Act.put,List.setIfInBounds_toArray,List.set_cons_zero,List.set_cons_succ]
       go_wp2_with fail
       go_roundw
       case rel=>exact ⟨S2,todo',HS4,HI4,HE4,HC4⟩
       case measure=>show itLeft w4 x.2.1 it < itLeft _ x.2.1 it;rw [HL4.out,HLE.out];omega
  · have HMD : Hid (∀ r,r∈S↔r∈[c.rf]∨r∈behindP L c.deps):=fun r=>by
     rw [HM.out r,List.take_of_length_le (by rw [HND.out];omega)]
    clear HM
    have g2 : wr.cell? ⟨g,2,none⟩=some (.map (some bb)):=(HU.out.chg HC.out).blk.cell 2
    have HQ7:=Lib.hid (HQ6.out.keep (HC.out.block _ HQ6.out.lt (by have:=HMK.out;omega)))
    have q0 : wr.cell? ⟨q2,0,none⟩=some (.int .i64 c.a):=HQ7.out.cell 0
    have q1 : wr.cell? ⟨q2,1,none⟩=some (.int .i64 c.s):=HQ7.out.cell 1
    go_upto_region 12 with fail
    refine wp_region_still_tail 6 (by kernel_rfl) (by kernel_rfl) ?_
    simp only [List.take_succ_cons,List.take_zero,List.drop_succ_cons,List.drop_zero]
    repeat (first | (refine wpStill_want rfl (fun K hK=>?_);go_simp;refine hK _ ?_;clear hK K) | (refine wpStill_skip rfl ?_;go_frame))
    refine wpStill_nil ?_
    change wpList _ _ _ _ _ wr.drew
    have HS7 : Hid (SetM wr.drew mk S):=HS
    have HC7 : Hid (Chg (fun j=>j=mk) V0 wr.drew):=HC.out.drew
    clear HS HC g2 q0 q1 HQ7
    generalize wr.drew=w7 at HS7 HC7 ⊢
    have hst:=behind_add (HU.out.chg HC7.out).mb HRI.out HN.out HLL2.out mk
    go_wp2_with (refine wpL_store _ rfl (.tmp 44) (.tmp 45) (.tmp 46) 160 (.inl rfl) bb _ _ rfl rfl rfl _ hst ?_;rintro w8 ⟨hm8,ht8⟩)
    have hg8:=ht8.grown
    have hmkw : w.heap.size≤mk:=Nat.le_trans HW4.out.size HMK.out.1
    have hbb : bb < w.heap.size:=MapL.lt HB.out.mb
    have hbh : bh < w.heap.size:=MapL.lt HB.out.mh
    refine bodyPost_end (results_none rfl _ _ _) rfl ?_
    have hC : Chg (fun k=>k=bh∨k=bb) w w8:=((((Chg.of_below HW4.out).trans HC6.out (fun _ _ h=>.inl h)).trans HC7.out (fun i hi e=>by omega))).grown hg8 (fun q hq=>by cases hq;exact .inl (.inr rfl))
    refine ⟨rfl,⟨mk,⟨S,PB.put HB.out hC HCI.out HN.out ?_ hm8 (HS7.out.keep (hg8.block _ (MapL.lt HS7.out) (fun e=>by have:=Option.some.inj e;omega))) hmkw (by rw [HLX.out];exact HMD.out)⟩,hmkw⟩,hC⟩
    have hh7:=MapL.keep HH6.out (HC7.out.block _ (MapL.lt HH6.out) (by omega))
    rw [HLX.out]
    exact MapL.keep hh7 (hg8.block _ (MapL.lt hh7) (fun e=>HB.out.ne.2.1 (Option.some.inj e)))
end Go.Proofs.YtmpkejflgpodkaaGreatDoor
namespace Go.Proofs.YtmpkejflgpodkaaGreatDoor
open Go.ChangeShapes Go.WideShapes Go.ChangeAt Go.RowKit
def kvC (c : ChD) : Rf × Value:=(c.rf,c.v)
theorem HasL.kv {w : World} {b : Nat} {L : List ChD} (h : HasL w b L) : MapL w 77 b ((L.map kvC).map kv):=by
 rw [List.map_map];exact h
theorem kvC_fst (L : List ChD) : (L.map kvC).map Prod.fst=refsOf L:=by rw [List.map_map];rfl
end Go.Proofs.YtmpkejflgpodkaaGreatDoor
namespace Go.Proofs.YtmpkejflgpodkaaGreatDoor
open Go.ChangeShapes Go.WideShapes Go.ChangeAt Go.RowKit
theorem next_pred {L out : List ChD} {S Sd : List Rf} (hn : (refsOf L).Nodup) (he : ∀ c∈L,c.err=0) (hs : ∀ r∈S,r∈refsOf L) (hm : ∀ r,r∈Sd↔r∈refsOf out) {g bh q q2 m : Nat} {V2 V3 : Value} {w : World} (hB : HB w g bh V2 V3 L) (hin : ∀ c∈L,ChIn (fun k=>k < w.heap.size) w c)
 (hq : w.cell? ⟨q,0,none⟩=some (.pointer (some ⟨g,0,none⟩))) (hql : q < w.heap.size) (hS : SetV w q2 m Sd) : PredB 89 #[.pointer (some ⟨q,0,none⟩),.pointer (some ⟨q2,0,none⟩)] S (mayNext L out) w:=by
 intro W r hr hb
 obtain ⟨x,hx,rfl⟩:=List.mem_map.1 (hs r hr)
 have hf:=findC_is hn hx
 have e : mayNext L out x.rf=x.deps.all fun d=>decide (d∈Sd):=by
  unfold mayNext
  rw [hf]
  simp only [hm]
 rw [e]
 exact all1_any L x hf (rf_i64 (he x hx)) (err_deps (he x hx)) Sd g bh q q2 m V2 V3 W (hB.below hb) (((hin x hx).keep fun k hk=>hb.block k hk).more fun k hk=>Nat.lt_of_lt_of_le hk hb.size) ((World.cell?_of_block (hb.block _ hql)).trans hq) (Nat.lt_of_lt_of_le hql hb.size) (hS.below hb)
set_option maxHeartbeats 8000000 in
set_option maxRecDepth 20000 in
theorem all_any (L : List ChD) (g bh : Nat) (V2 V3 : Value) (w : World) (hB : HB w g bh V2 V3 L) (hk : Bk L) (hl : L.length≤1000) (hin : ∀ c∈L,ChIn (fun k=>k < w.heap.size) w c) :
 Calls Tryz.prog 59 #[.pointer (some ⟨g,0,none⟩)] w fun e w'=>∃ (A : Option Addr) (c : Nat) (Lr : List ChD),e=.returned (.slice A Lr.length c)∧Lr.map ChD.base=(allP L).map ChD.base∧ChsIn (fun k=>k < w'.heap.size) w' A Lr∧Below w.heap.size w w':=by
 have HBB:=Lib.hid hB
 have HK:=Lib.hid hk
 have HIN:=Lib.hid hin
 have HLL:=Lib.hid hl
 clear hB hk hin hl
 have hmm : ∀ (t : TypeId) (w : World),(Instr.makeMap t none).run Tryz.prog w=.ok (.map (some w.heap.size)) (w.alloc (.map #[] 0)):=fun _ _=>rfl
 have hW1 : Below w.heap.size w (w.alloc (.cells #[.pointer (some ⟨g,0,none⟩)] 119)):=(Below.refl _ w).alloc (Nat.le_refl _) _
 have hQ1:=Blk.new w 119 #[.pointer (some ⟨g,0,none⟩)]
 have hz1 : (w.alloc (.cells #[.pointer (some ⟨g,0,none⟩)] 119)).heap.size=w.heap.size+1:=by simp
 generalize hV1 : w.alloc (.cells #[.pointer (some ⟨g,0,none⟩)] 119)=V1 at hW1 hQ1 hz1
 have hS2 : SetM (V1.alloc (.map #[] 0)) V1.heap.size []:=SetM.made V1
 have hb2 : Below V1.heap.size V1 (V1.alloc (.map #[] 0)):=(Below.refl _ V1).alloc (Nat.le_refl _) _
 have hz2 : (V1.alloc (.map #[] 0)).heap.size=V1.heap.size+1:=by simp
 generalize hV2 : V1.alloc (.map #[] 0)=V2' at hS2 hb2 hz2
 have hQ3:=Blk.new V2' 157 #[.map (some V1.heap.size)]
 have hb3 : Below V2'.heap.size V2' (V2'.alloc (.cells #[.map (some V1.heap.size)] 157)):=(Below.refl _ V2').alloc (Nat.le_refl _) _
 generalize hV3 : V2'.alloc (.cells #[.map (some V1.heap.size)] 157)=V0 at hQ3 hb3
 have HS0:=Lib.hid (hS2.keep (hb3.block _ (MapL.lt hS2)))
 have HQ1:=Lib.hid ((hQ1.keep (hb2.block _ hQ1.lt)).keep (hb3.block _ (by rw [hz2];have:=hQ1.lt;omega)))
 have HQ4:=Lib.hid hQ3
 have HW0 : Hid (Below w.heap.size w V0):=(hW1.trans (hb2.mono (by omega))).trans (hb3.mono (by omega))
 have HSZ : Hid (w.heap.size < V0.heap.size∧V1.heap.size < V0.heap.size∧V2'.heap.size < V0.heap.size∧w.heap.size < V1.heap.size∧V1.heap.size < V2'.heap.size):=by
  have:=hb3.size;have:=HQ4.out.lt;show _∧_;omega
 clear hW1 hQ1 hz1 hS2 hb2 hz2 hQ3 hb3
 go_enter Tryz.func59,Tryz.ntmps59
 go_upto_region 3 with fail
 clear hmm hV1 hV2 hV3
 generalize V1.heap.size=m at HS0 HQ4 HSZ ⊢
 generalize V2'.heap.size=q4 at HQ4 HSZ ⊢
 have hb0:=HBB.out.below HW0.out
 have g0 : V0.cell? ⟨g,0,none⟩=some (.map (some bh)):=hb0.blk.cell 0
 have b1 : V0.cell? ⟨w.heap.size,0,none⟩=some (.pointer (some ⟨g,0,none⟩)):=HQ1.out.cell 0
 have C1:=rising_any (L.map kvC) bh V0 hb0.mh.kv (by rw [List.length_map];have:=HLL.out;omega)
 rw [kvC_fst] at C1
 clear hb0
 go_wp2_with fail
 go_at_call 87
 refine C1.mono ?_
 rintro e w1 ⟨A,cc,S0,rfl,hp,ha,hrow,hb⟩
 have HA0 : Hid (AllG L S0 []):=AllG.start HK.out.nodup hp ha
 have HROW : Hid (S0=[]∨∃ gS,A=some ⟨gS,0,none⟩∧V0.heap.size≤gS∧gS < w1.heap.size∧RefRow w1 gS S0∧S0.length≤cc∧cc≤9223372036854775807):=by
  rcases hrow with h | ⟨gS,h1,h2,h3,h4,h5,h6⟩
  · exact .inl h
  · exact .inr ⟨gS,h3,h1,h2,h4,h5,h6⟩
 have HS1:=Lib.hid (HS0.out.keep (hb.block _ (MapL.lt HS0.out)))
 have HR1:=Lib.hid (HQ1.out.keep (hb.block _ HQ1.out.lt))
 have HR4:=Lib.hid (HQ4.out.keep (hb.block _ HQ4.out.lt))
 have HW1 : Hid (Below w.heap.size w w1):=HW0.out.trans (hb.mono HW0.out.size)
 have HSZ1 : Hid (V0.heap.size≤w1.heap.size):=hb.size
 clear C1 hp ha hrow hb g0 b1 HS0 HQ1 HQ4 HW0
 have EG : ∀ args w,(callFunc 89 args).run Tryz.prog w=.ok (.enter 89 args) w:=enters_of Tryz.func89 (by kernel_rfl) (Option.some_get (show Tryz.f89.body.isSome=true by kernel_rfl)).symm
 have HEG:=Lib.hid EG
 have HHE : Hid (∀ c∈L,c.err=0):=fun c hc=>(HK.out.err c hc).1
 clear EG
 go_wp2_with fail
 go_loopw [3,5,6] (fun s3 s5 _ wr=>∃ (S Sd : List Rf) (out outr : List ChD) (D : Nat→Prop),s5=.slice A S.length cc∧Hid (AllG L S out)∧Hid (outr.map ChD.base=out.map ChD.base)∧Hid (wr.ownsRow w1.heap.size 82 5 s3 outr.length (chsC outr))∧Hid (∀ c∈outr,ChIn D wr c)∧Hid (∀ k,D k→w1.heap.size≤k∧k < wr.heap.size∧s3.ownBlock≠some k)∧Hid (SetM wr m Sd)∧Hid (∀ r,r∈Sd↔r∈refsOf out) ∧
  Hid (S=[]∨∃ gS,A=some ⟨gS,0,none⟩∧V0.heap.size≤gS∧gS < w1.heap.size∧RefRow wr gS S∧S.length≤cc∧cc≤9223372036854775807)∧Hid (Chg (fun k=>k=m∨V0.heap.size≤k∧k < w1.heap.size) w1 wr)) (fun _ s5 _ _=>slen s5)
 case atStart=>exact ⟨S0,[],[],[],fun _=>False,rfl,HA0,rfl,own_nil _ _ _ _,(by intro c hc;cases hc),(by intro k hk;cases hk),HS1,Lib.hid (by simp [refsOf]),HROW,Lib.hid (Chg.refl _)⟩
 case round =>
  clear HA0 HROW HS1
  obtain ⟨S,Sd,out,outr,D,rfl,HA,HBE,HO,HCH,HD,HS,HM,HROW,HC⟩:=hrel
  have HWr : Hid (Below w.heap.size w wr):=HW1.out.trans (HC.out.below HW1.out.size (fun k hk=>by have:=HSZ.out;omega))
  obtain ⟨n,hn⟩ : ∃ n,S.length=n:=⟨_,rfl⟩
  have HN:=Lib.hid hn
  rw [hn]
  clear hn
  by_cases hn0 : n=0
  · have HAP : Hid (allP L=out):=HA.out.done (by rw [HN.out];exact hn0)
    obtain ⟨Ao,co,hv,-,-,hro⟩:=Reads.of_own HO.out
    have HRO : Hid (ChsIn (fun k=>k < wr.heap.size) wr Ao outr):=⟨hro.more fun k hk=>(own_lt HO.out hk).2,fun c hc=>(HCH.out c hc).more fun k hk=>(HD.out k hk).2.1⟩
    subst hv hn0
    clear hro
    go_wp2_with fail
    go_ret
    exact ⟨Ao,co,outr,rfl,by rw [HAP.out];exact HBE.out,HRO.out,HWr.out⟩
  · obtain ⟨k,hk,hkl⟩:=HA.out.more HK.out (by rw [HN.out];omega)
    obtain ⟨r,hr⟩ : ∃ r,S[k]?=some r:=⟨_,List.getElem?_eq_getElem hkl⟩
    obtain ⟨x,hfx,hxL,hxr,hA2⟩:=HA.out.step HK.out hk hr
    rcases HROW.out with h | ⟨gS,hA1,hg1,hg2,hrw,hcl,hcm⟩
    · rw [h] at hkl;simp at hkl
    subst hA1
    have HG : Hid (V0.heap.size≤gS∧gS < w1.heap.size∧S.length≤cc∧cc≤9223372036854775807):=⟨hg1,hg2,hcl,hcm⟩
    have HRW:=Lib.hid hrw
    have HA2:=Lib.hid hA2
    have HXL:=Lib.hid hxL
    have HXR:=Lib.hid hxr
    have HR:=Lib.hid hr
    have hkn : k < n:=by rw [← HN.out];exact hkl
    have HQr1:=Lib.hid (HR1.out.keep (HC.out.block _ HR1.out.lt (by have:=HSZ.out;omega)))
    have HQr4:=Lib.hid (HR4.out.keep (HC.out.block _ HR4.out.lt (by have:=HSZ.out;omega)))
    have hsv : SetV wr q4 m Sd:=⟨HQr4.out.cell 0,HQr4.out.lt,HS.out⟩
    have C2:=indexF_any S (some ⟨gS,0,none⟩) cc wr (hrw.reads.more fun k hk=>by rw [hk];exact Nat.lt_of_lt_of_le hg2 HC.out.size) (by have:=HG.out;omega) 89 #[.pointer (some ⟨w.heap.size,0,none⟩),.pointer (some ⟨q4,0,none⟩)] (mayNext L out) HEG.out
     (next_pred HK.out.nodup HHE.out (fun r hr=>((HA.out.mem r).1 hr).1) HM.out (HBB.out.below HWr.out) (fun c hc=>((HIN.out c hc).keep fun k hk=>HWr.out.block k hk).more fun k hk=>Nat.lt_of_lt_of_le hk HWr.out.size) (HQr1.out.cell 0) HQr1.out.lt hsv)
    have hix : idxP (mayNext L out) S=(k : Int):=by unfold idxP;rw [hk]
    rw [hix,HN.out] at C2
    clear hk hkl hfx hxL hxr hA2 hrw hcl hcm hsv hix hr HROW
    go_wp2_with fail
    go_at_call 88
    refine C2.mono ?_
    rintro e w2 ⟨rfl,hb⟩
    have HS2:=Lib.hid (HS.out.keep (hb.block _ (MapL.lt HS.out)))
    have HO2:=Lib.hid (own_below HO.out hb)
    have HCH2 : Hid (∀ c∈outr,ChIn D w2 c):=fun c hc=>(HCH.out c hc).keep fun k hk=>hb.block k (HD.out k hk).2.1
    have HD2 : Hid (∀ k,D k→w1.heap.size≤k∧k < w2.heap.size∧u3.ownBlock≠some k):=fun k hk=>⟨(HD.out k hk).1,Nat.lt_of_lt_of_le (HD.out k hk).2.1 hb.size,(HD.out k hk).2.2⟩
    have HRW2:=Lib.hid (HRW.out.keep (hb.block _ (Nat.lt_of_lt_of_le HG.out.2.1 HC.out.size)))
    have HC2 : Hid (Chg (fun k=>k=m∨V0.heap.size≤k∧k < w1.heap.size) w1 w2):=HC.out.trans (Chg.of_below hb) fun _ _ h=>h
    have HX1:=Lib.hid (HQr1.out.keep (hb.block _ HQr1.out.lt))
    have HX4:=Lib.hid (HQr4.out.keep (hb.block _ HQr4.out.lt))
    have HW2 : Hid (Below w.heap.size w w2):=HWr.out.trans (hb.mono HWr.out.size)
    clear C2 hb HS HO HCH HD HRW HC HQr1 HQr4 HWr
    have hb2:=HBB.out.below HW2.out
    have g0 : w2.cell? ⟨g,0,none⟩=some (.map (some bh)):=hb2.blk.cell 0
    have b1 : w2.cell? ⟨w.heap.size,0,none⟩=some (.pointer (some ⟨g,0,none⟩)):=HX1.out.cell 0
    have x1 : w2.cell? ⟨gS,k*2,none⟩=some (.int .i64 r.1):=HRW2.out.cell1 HR.out
    have x2 : w2.cell? ⟨gS,k*2+1,none⟩=some (.int .i64 r.2):=HRW2.out.cell2 HR.out
    have hlk:=(hb2.below (Below.refl _ w2).drew).mh.look (r:=r) (by rw [← HXR.out];exact rf_i64 (HHE.out x HXL.out)) false
    have hlv : lookV L r=x.v:=by unfold lookV;rw [← HXR.out,findC_is HK.out.nodup HXL.out]
    rw [hlv] at hlk
    simp only [Bool.false_eq_true,if_false] at hlk
    have hxo:=err_ok (HHE.out x HXL.out)
    have C3:=clone_any x w2.drew ((((HIN.out x HXL.out).keep fun k hk=>HW2.out.block k hk).more fun k hk=>Nat.lt_of_lt_of_le hk HW2.out.size).keep fun k hk=>rfl) (by have:=hxo.2.2.2;omega) (by have:=hxo.2.2.1;omega) (fun o ho=>by have:=err_ll (HHE.out x HXL.out) o ho;omega)
    unfold ChD.v at hlk C3
    clear hb2 hlv hxo
    go_upto_region 6 with fail
    refine wp_region_move_tail 10 (u3) (by kernel_rfl) (by kernel_rfl) (fun _ _ _ h=>h) (Or.inl ⟨by rfl,?_⟩) ?_
    · (intro w;go_simp;try with_reducible rfl)
    simp only [List.take_succ_cons,List.take_zero,List.drop_succ_cons,List.drop_zero]
    go_frame
    repeat (first | (refine wpStill_want rfl (fun K hK=>?_);go_simp;refine hK _ ?_;clear hK K) | (refine wpStill_skip rfl ?_;go_frame))
    refine wpStill_nil ?_
    change wpList _ _ _ _ _ w2.drew
    have hol : outr.length≤1000:=by
     have h1:=HA.out.len
     have h2:=congrArg List.length HBE.out
     have h3:=HLL.out
     simp only [List.length_map] at h2
     omega
    go_wp2_with fail
    go_at_call 92
    refine C3.mono ?_
    rintro e w3 ⟨c',rfl,hcb,hci,hb⟩
    have hb3 : Below w2.heap.size w2 w3:=(Below.refl _ w2).drew.trans hb
    have HCB:=Lib.hid hcb
    have HCI : Hid (ChIn (fun k=>w2.heap.size≤k∧k < w3.heap.size) w3 c'):=hci
    have HS3:=Lib.hid (HS2.out.keep (hb3.block _ (MapL.lt HS2.out)))
    have HO3:=Lib.hid (own_below HO2.out hb3)
    have HCH3 : Hid (∀ c∈outr,ChIn D w3 c):=fun c hc=>(HCH2.out c hc).keep fun k hk=>hb3.block k (HD2.out k hk).2.1
    have HRW3:=Lib.hid (HRW2.out.keep (hb3.block _ (Nat.lt_of_lt_of_le HG.out.2.1 HC2.out.size)))
    have HC3 : Hid (Chg (fun k=>k=m∨V0.heap.size≤k∧k < w1.heap.size) w1 w3):=HC2.out.trans (Chg.of_below hb3) fun _ _ h=>h
    have HX3:=Lib.hid (HX4.out.keep (hb3.block _ HX4.out.lt))
    have HD3 : Hid (∀ k,D k∨(w2.heap.size≤k∧k < w3.heap.size)→w1.heap.size≤k∧k < w3.heap.size∧u3.ownBlock≠some k):=fun k hk=>by
     rcases hk with hk | hk
     · exact ⟨(HD2.out k hk).1,Nat.lt_of_lt_of_le (HD2.out k hk).2.1 hb3.size,(HD2.out k hk).2.2⟩
     · exact ⟨Nat.le_trans HC2.out.size hk.1,hk.2,fun e=>by have:=(own_lt HO2.out e).2;omega⟩
    clear C3 hcb hci hb hb3 g0 b1 x1 x2 hlk HX1 HX4 HS2 HO2 HCH2 HD2 HRW2 HC2 HW2
    obtain ⟨i0,hi,hz0,hz1,hz2⟩:=info_parts infoCh
    have hws : w1.heap.size≤w3.heap.size:=HC3.out.size
    go_wp2_with (at_builtin;refine wpList_append_any _ rfl (.tmp 19) (.tmp 30) _ rfl (w1.heap.size) 82 i0 _ 5 72 Tryz.underlying22 hi hz0 hz1 hz2 rfl (by omega) (_) (outr.length) (chsC outr) rfl (HO3.out.alloc _) _ (some ⟨w3.heap.size,0,none⟩) (1) (1) (ChD.cells c') rfl ((blk_reads (by exact Blk.new w3 _ #[.int .i64 c'.a,.int .i64 c'.s,.int .i64 c'.st,.slice c'.DA c'.deps.length c'.DC,.slice c'.OA c'.ops.length c'.OC]) (n:=5) rfl)) ((by intro u hu;exact chsC_one [c'] u (by simpa [chsC] using hu))) ?c1 ?c2 ?c3 ?_)
    try case c1=>simp only [maxLen];omega
    try case c2=>omega
    try case c3=>simp;omega
    intro v4 w4 ho4 hg4 hat4
    have hown : ∀ k,u3.ownBlock=some k→w1.heap.size≤k∧k < w3.heap.size:=fun k hk=>own_lt HO3.out hk
    have hk4 : ∀ k,k < w3.heap.size→u3.ownBlock≠some k→w4.heap[k]?=w3.heap[k]?:=fun k hk hne=>(hg4.block k (by simp;omega) (fun e=>hne e.symm)).trans (Below.heap_alloc _ _ _ hk)
    have hlo : ∀ k,k < w1.heap.size→w4.heap[k]?=w3.heap[k]?:=fun k hk=>hk4 k (by omega) (fun e=>by have:=hown k e;omega)
    have HSG : Hid (w3.heap.size < w4.heap.size):=by have:=hg4.size;rw [World.size_alloc] at this;show _ < _;omega
    have HO4 : Hid (w4.ownsRow w1.heap.size 82 5 v4 (outr++[c']).length (chsC (outr++[c']))):=by show World.ownsRow _ _ _ _ _ _ _;rw [List.length_append,chsC_append];simpa [chsC] using ho4
    have HD4 : Hid (∀ k,D k∨(w2.heap.size≤k∧k < w3.heap.size)→w1.heap.size≤k∧k < w4.heap.size∧v4.ownBlock≠some k):=fun k hk=>by
     have h3:=HD3.out k hk
     refine ⟨h3.1,Nat.lt_trans h3.2.1 HSG.out,fun e=>?_⟩
     rcases hat4 with h | h
     · rw [h] at e;exact h3.2.2 e
     · rw [h] at e;have h7:=Option.some.inj e;exact absurd h3.2.1 (by rw [← h7];exact Nat.not_lt.2 (Nat.le_succ _))
    have HCH4 : Hid (∀ c∈outr++[c'],ChIn (fun k=>D k∨(w2.heap.size≤k∧k < w3.heap.size)) w4 c):=fun c hc=>by
     have hkp : Keeps (fun k=>D k∨(w2.heap.size≤k∧k < w3.heap.size)) w3 w4:=fun k hk=>hk4 k (HD3.out k hk).2.1 (HD3.out k hk).2.2
     rcases List.mem_append.1 hc with h | h
     · exact ((HCH3.out c h).more fun k hk=>.inl hk).keep hkp
     · rw [List.mem_singleton.1 h];exact (HCI.out.more fun k hk=>.inr hk).keep hkp
    have hmlt : m < w1.heap.size:=by have:=HSZ.out;have:=HSZ1.out;omega
    have HS4:=Lib.hid (HS3.out.keep (hlo m hmlt))
    have HRW4:=Lib.hid (HRW3.out.keep (hlo gS HG.out.2.1))
    have HX5:=Lib.hid (HX3.out.keep (hlo q4 (by have:=HSZ.out;have:=HSZ1.out;omega)))
    have HC4 : Hid (Chg (fun k=>k=m∨V0.heap.size≤k∧k < w1.heap.size) w1 w4):=(HC3.out.alloc _).grown hg4 (fun q hq=>.inr (hown q hq).1)
    clear ho4 hg4 hat4 hown hk4 hlo HS3 HO3 HCH3 HRW3 HC3 HX3 HD3 HCI hws hi hz0 hz1 hz2
    have v0 : w4.cell? ⟨q4,0,none⟩=some (.map (some m)):=HX5.out.cell 0
    have x1 : w4.cell? ⟨gS,k*2,none⟩=some (.int .i64 r.1):=HRW4.out.cell1 HR.out
    have x2 : w4.cell? ⟨gS,k*2+1,none⟩=some (.int .i64 r.2):=HRW4.out.cell2 HR.out
    go_upto_region 7 with fail
    refine wp_region_still_tail 5 (by kernel_rfl) (by kernel_rfl) ?_
    simp only [List.take_succ_cons,List.take_zero,List.drop_succ_cons,List.drop_zero]
    repeat (first | (refine wpStill_want rfl (fun K hK=>?_);go_simp;refine hK _ ?_;clear hK K) | (refine wpStill_skip rfl ?_;go_frame))
    refine wpStill_nil ?_
    change wpList _ _ _ _ _ w4.drew
    have HSN : Hid (Sd.length < maxLen):=by
     have h1:=nodup_le HS4.out.nodup (fun q hq=>(HM.out q).1 hq)
     have h2 : (refsOf out).length=out.length:=by simp [refsOf]
     have h3:=HA.out.len
     have h4:=HLL.out
     show _ < _
     simp only [maxLen]
     omega
    have HS6 : Hid (SetM w4.drew m Sd):=HS4
    have HRW6 : Hid (RefRow w4.drew gS S):=HRW4.out.keep (w':=w4.drew) rfl
    have HO6 : Hid (w4.drew.ownsRow w1.heap.size 82 5 v4 (outr++[c']).length (chsC (outr++[c']))):=own_below HO4.out (Below.refl _ w4).drew
    have HCH6 : Hid (∀ c∈outr++[c'],ChIn (fun k=>D k∨(w2.heap.size≤k∧k < w3.heap.size)) w4.drew c):=fun c hc=>(HCH4.out c hc).keep fun k hk=>rfl
    have HD6 : Hid (∀ k,D k∨(w2.heap.size≤k∧k < w3.heap.size)→w1.heap.size≤k∧k < w4.drew.heap.size∧v4.ownBlock≠some k):=HD4
    have HC6 : Hid (Chg (fun k=>k=m∨V0.heap.size≤k∧k < w1.heap.size) w1 w4.drew):=HC4.out.drew
    clear HS4 HRW4 HO4 HCH4 HD4 HC4 HSG v0 x1 x2 HX5
    generalize w4.drew=w5 at HS6 HRW6 HO6 HCH6 HD6 HC6 ⊢
    have hst:=HS6.out.add (r:=r) (by rw [← HXR.out];exact rf_i64 (HHE.out x HXL.out)) HSN.out
    go_wp2_with (refine wpL_store _ rfl (.tmp 32) (.tmp 36) (.const (.bool true)) 157 (.inl rfl) m (.agg #[.int .i64 r.1,.int .i64 r.2]) (.bool true) rfl rfl rfl _ hst ?_;rintro w6 ⟨⟨Sd2,hs6,hm6,-⟩,ht6⟩)
    have hg6:=ht6.grown
    have HS7:=Lib.hid hs6
    have HM7 : Hid (∀ q,q∈Sd2↔q∈refsOf (out++[x])):=fun q=>by
     rw [hm6 q,HM.out q,refsOf_append,List.mem_append]
     simp [refsOf,HXR.out]
    have hk6 : ∀ k,k < w5.heap.size→k≠m→w6.heap[k]?=w5.heap[k]?:=fun k hk hne=>hg6.block k hk (fun e=>hne (Option.some.inj e))
    have HRW7:=Lib.hid (HRW6.out.keep (hk6 gS (Nat.lt_of_lt_of_le HG.out.2.1 HC6.out.size) (fun e=>by have:=HG.out;have:=HSZ.out;omega)))
    have HO7 : Hid (w6.ownsRow w1.heap.size 82 5 v4 (outr++[c']).length (chsC (outr++[c']))):=own_keep HO6.out (fun k hk=>hk6 k (own_lt HO6.out hk).2 (fun e=>by have:=(own_lt HO6.out hk).1;omega))
    have HCH7 : Hid (∀ c∈outr++[c'],ChIn (fun k=>D k∨(w2.heap.size≤k∧k < w3.heap.size)) w6 c):=fun c hc=>(HCH6.out c hc).keep fun k hk=>hk6 k (HD6.out k hk).2.1 (fun e=>by have:=(HD6.out k hk).1;omega)
    have HD7 : Hid (∀ k,D k∨(w2.heap.size≤k∧k < w3.heap.size)→w1.heap.size≤k∧k < w6.heap.size∧v4.ownBlock≠some k):=fun k hk=>⟨(HD6.out k hk).1,Nat.lt_of_lt_of_le (HD6.out k hk).2.1 hg6.size,(HD6.out k hk).2.2⟩
    have HC7:=Lib.hid (HC6.out.grown hg6 (fun q hq=>by cases hq;exact .inl (.inl rfl)))
    clear hst hs6 hm6 ht6 hg6 hk6 HS6 HRW6 HO6 HCH6 HD6 HC6
    obtain ⟨m',hm'⟩ : ∃ m',k+1+m'=n:=⟨n - (k+1),by omega⟩
    have C5:=delete_any gS cc k n m' S w6 HRW7.out HN.out hm' (by have:=HA.out.len;have:=HLL.out;have:=HN.out;omega) (by have:=HG.out.2.2.1;rw [HN.out] at this;exact this) HG.out.2.2.2
    try simp only [Act.put,List.setIfInBounds_toArray,List.set_cons_zero,List.set_cons_succ]
    have hwk : wrap64 ((k : Int)+1)=(k : Int)+1:=by have:=HA.out.len;have:=HLL.out;have:=HN.out;simp only [wrap64];omega
    go_wp2_with fail
    go_at_call 93
    rw [hwk]
    refine C5.mono ?_
    rintro e w7 ⟨rfl,hrw,hch⟩
    have hgm : gS≠m:=fun e=>by have:=HG.out;have:=HSZ.out;omega
    have HS8:=Lib.hid (HS7.out.keep (hch.block _ (MapL.lt HS7.out) (fun e=>hgm e.symm)))
    have HO8 : Hid (w7.ownsRow w1.heap.size 82 5 v4 (outr++[c']).length (chsC (outr++[c']))):=own_keep HO7.out (fun k hk=>hch.block k (own_lt HO7.out hk).2 (fun e=>by have:=(own_lt HO7.out hk).1;have:=HG.out;omega))
    have HCH8 : Hid (∀ c∈outr++[c'],ChIn (fun k=>D k∨(w2.heap.size≤k∧k < w3.heap.size)) w7 c):=fun c hc=>(HCH7.out c hc).keep fun k hk=>hch.block k (HD7.out k hk).2.1 (fun e=>by have:=(HD7.out k hk).1;have:=HG.out;omega)
    have HD8 : Hid (∀ k,D k∨(w2.heap.size≤k∧k < w3.heap.size)→w1.heap.size≤k∧k < w7.heap.size∧v4.ownBlock≠some k):=fun k hk=>⟨(HD7.out k hk).1,Nat.lt_of_lt_of_le (HD7.out k hk).2.1 hch.size,(HD7.out k hk).2.2⟩
    have HC8 : Hid (Chg (fun k=>k=m∨V0.heap.size≤k∧k < w1.heap.size) w1 w7):=HC7.out.trans hch fun i _ e=>Or.inr (by have e : i=gS:=e;have:=HG.out;omega)
    have HLN : Hid ((S.eraseIdx k).length=k+m'):=by show _=_;rw [List.length_eraseIdx_of_lt (by rw [HN.out];omega),HN.out];omega
    have HB8 : Hid ((outr++[c']).map ChD.base=(out++[x]).map ChD.base):=by show _=_;rw [List.map_append,List.map_append,HBE.out];simp [HCB.out]
    have HROW8 : Hid (S.eraseIdx k=[]∨∃ gS',some (⟨gS,0,none⟩ : Addr)=some ⟨gS',0,none⟩∧V0.heap.size≤gS'∧gS' < w1.heap.size∧RefRow w7 gS' (S.eraseIdx k)∧(S.eraseIdx k).length≤cc∧cc≤9223372036854775807) :=
     .inr ⟨gS,rfl,HG.out.1,HG.out.2.1,hrw,by rw [HLN.out];have:=HG.out.2.2.1;rw [HN.out] at this;omega,HG.out.2.2.2⟩
    have hlt : k+m' < n:=by omega
    clear C5 hrw hch HS7 HM HRW7 HO7 HCH7 HD7 HC7 HA hgm hm'
    go_wp2_with fail
    go_roundw
    case rel=>exact ⟨S.eraseIdx k,Sd2,out++[x],outr++[c'],_,by rw [HLN.out],HA2,HB8,HO8,HCH8,HD8,HS8,HM7,HROW8,HC8⟩
    case measure=>show k+m' < n;exact hlt
end Go.Proofs.YtmpkejflgpodkaaGreatDoor
namespace Go.Proofs.YtmpkejflgpodkaaGreatDoor
open Go.ChangeShapes Go.WideShapes Go.ChangeAt Go.RowKit
theorem PB.waits {w w' : World} {g bh bw bb : Nat} {X : List (ChD × Nat × List Rf)} {W W' : List ChD} (h : PB w g bh bw bb X W) (hc : Chg (fun k=>k=bw) w w') (h1 : HasL w' bw W')
 (hs : ∀ c∈W',c∈W∨ChIn (NF w bh bw bb) w c) : PB w' g bh bw bb X W':=by
 have hg:=h.gne
 have hk : Keeps (NF w bh bw bb) w w':=hc.keeps fun k hk=>⟨hk.1,fun e=>hk.2.2.1 e⟩
 refine ⟨h.blk.keep (hc.block _ h.blk.lt hg.2.1),MapL.keep h.mh (hc.block _ (MapL.lt h.mh) h.ne.1),h1,MapL.keep h.mb (hc.block _ (MapL.lt h.mb) (fun e=>h.ne.2.2 e.symm)),h.ne,fun x hx=>?_,fun x hx=>((h.inL x hx).keep hk).more fun k hk=>hk.more hc.size,fun c hc'=>?_⟩
 · obtain ⟨a1,a2,a3⟩:=h.sets x hx
   exact ⟨a1.keep (hk _ a2),a2.more hc.size,a3⟩
 · rcases hs c hc' with h2 | h2
   · exact ((h.inW c h2).keep hk).more fun k hk=>hk.more hc.size
   · exact (h2.keep hk).more fun k hk=>hk.more hc.size
theorem HasL.drop {w : World} {b : Nat} {W : List ChD} (h : HasL w b W) {j : Nat} {x : ChD} (hx : W[j]?=some x) (ty : TypeId) :
 ∃ w',(Builtin.delete_ #[159,77] ty #[.map (some b),refV x.rf]).run Tryz.prog w=.ok (.tuple #[]) w'∧(HasL w' b (W.eraseIdx j)∧w.mapTurned w' b):=by
 obtain ⟨w',h1,h2,h3⟩:=MapL.drop h keyed_ref Tryz.underlying159 (v0:=x.v) ((pick_perm W j x hx).map (fun c : ChD=>(refV c.rf,c.v))) ty
 exact ⟨w',h1,h2,h3⟩
def mlen (w : World) (b : Nat) : Nat:=match w.heap[b]? with
 | some (.map es _)=>es.size
 | _=>0
theorem MapL.mlen {w : World} {k : TypeId} {b : Nat} {l : List (Value × Value)} (h : MapL w k b l) : mlen w b=l.length:=by
 obtain ⟨es,c,hb,F,hp⟩:=h
 unfold Go.Proofs.YtmpkejflgpodkaaGreatDoor.mlen
 rw [hb,← hp.length_eq]
 simp [ents]
theorem HasL.mlen {w : World} {b : Nat} {L : List ChD} (h : HasL w b L) : mlen w b=L.length:=by
 rw [MapL.mlen h,List.length_map]
theorem base_same {c c' : ChD} (h : c'.base=c.base) : c'.err=c.err∧c'.rf=c.rf∧((∀ o∈c.ops,(Lit.int .i64 o.vn).wf=true)→∀ o∈c'.ops,(Lit.int .i64 o.vn).wf=true):=by
 refine ⟨by rw [← base_err c',h,base_err],by rw [← base_rf c',h,base_rf],fun hw o ho=>?_⟩
 have e : c'.ops.map Go.Proofs.YtmpkejflgpodkaaGreatDoor.base=c.ops.map Go.Proofs.YtmpkejflgpodkaaGreatDoor.base:=congrArg ChD.ops h
 have h1 : Go.Proofs.YtmpkejflgpodkaaGreatDoor.base o∈c.ops.map Go.Proofs.YtmpkejflgpodkaaGreatDoor.base:=by rw [← e];exact List.mem_map_of_mem ho
 obtain ⟨o2,h2,e2⟩:=List.mem_map.1 h1
 have e3 : (Go.Proofs.YtmpkejflgpodkaaGreatDoor.base o2).vn=(Go.Proofs.YtmpkejflgpodkaaGreatDoor.base o).vn:=congrArg OpD.vn e2
 have e4 : o2.vn=o.vn:=e3
 rw [← e4]
 exact hw o2 h2
theorem Reads.both {D D' : Nat→Prop} {w w' : World} {size n : Nat} {A : Option Addr} {xs : List Value} (h : Reads D w size A n xs) (h' : Reads D' w' size A n xs) : Reads (fun k=>D k∧D' k) w' size A n xs :=
 ⟨h.1,fun h0=>by
  obtain ⟨a,e1,d1,_⟩:=h.2 h0
  obtain ⟨a',e2,d2,c2⟩:=h'.2 h0
  rw [e1] at e2
  cases e2
  exact ⟨a,e1,⟨d1,d2⟩,c2⟩⟩
theorem ChIn.both {D D' : Nat→Prop} {w w' : World} {c : ChD} (h : ChIn D w c) (h' : ChIn D' w' c) : ChIn (fun k=>D k∧D' k) w' c :=
 ⟨h.hd.both h'.hd,h.hdl,h.ho.both h'.ho,h.hol,fun o ho=>⟨(h.hp o ho).1.both (h'.hp o ho).1,(h.hp o ho).2⟩⟩
theorem take_fresh {w' : World} {B g bh bw bb : Nat} {X' : List (ChD × Nat × List Rf)} {L L' W W2 : List ChD} {c' : ChD} (hp : PB w' g bh bw bb X' W2) (hl : X'.map Prod.fst=L') (hy : ∀ y,y∈L'∨y∈W2→y∈L∨y∈W∨y=c')
 (hc : ∃ V,ChIn (fun k=>B≤k) V c') : ∀ y,y∈L'∨y∈W2→y∈L∨y∈W∨ChIn (fun k=>B≤k) w' y:=fun y h=>by
 rcases hy y h with h1 | h1 | rfl
 · exact .inl h1
 · exact .inr (.inl h1)
 · obtain ⟨V,hc⟩:=hc
   refine .inr (.inr ?_)
   rcases h with h | h
   · rw [← hl] at h
     obtain ⟨x,hx,e⟩:=List.mem_map.1 h
     exact (hc.both (e▸hp.inL x hx)).more fun k hk=>hk.1
   · exact (hc.both (hp.inW y h)).more fun k hk=>hk.1
theorem Blk.there {w : World} {g : Nat} {t : TypeId} {cs : Array Value} (h : Blk w g t cs) {n : Nat} (hn : cs.size=n) : w.there g 0 n:=fun j hj=>by
 rw [Nat.zero_add]
 refine ⟨?_,h.frozen j⟩
 rw [h.cell j,Array.getElem?_eq_getElem (by omega)]
 rfl
theorem info_ch : (Tryz.prog.info? 82).map (·.size)=some 5:=by kernel_rfl
theorem ch_one (a s st : Int) (A : Option Addr) (n c : Nat) (A' : Option Addr) (n' c' : Nat) : (#[.int .i64 a,.int .i64 s,.int .i64 st,.slice A n c,.slice A' n' c'] : Array Value).all (fun v=>v.oneCell')=true:=by
 refine Array.all_eq_true_iff_forall_mem.2 fun v hv=>?_
 simp only [List.mem_toArray,List.mem_cons,List.not_mem_nil,or_false] at hv
 rcases hv with rfl | rfl | rfl | rfl | rfl <;> rfl
theorem Blk.range {w : World} {g : Nat} {t : TypeId} {cs : List Value} (h : Blk w g t cs.toArray) : w.rangeAt g 0 cs:=fun j u hj=>by
 rw [Nat.zero_add,h.cell j]
 simpa using hj
theorem Blk.set5 {w : World} {g : Nat} {t : TypeId} {a0 a1 a2 a3 a4 : Value} (h : Blk w g t #[a0,a1,a2,a3,a4]) (b0 b1 b2 b3 b4 : Value) :
 Blk (((((w.setCell ⟨g,0,none⟩ b0).setCell ⟨g,1,none⟩ b1).setCell ⟨g,2,none⟩ b2).setCell ⟨g,3,none⟩ b3).setCell ⟨g,4,none⟩ b4) g t #[b0,b1,b2,b3,b4] :=
 ((((h.set_ 0 b0).set_ 1 b1).set_ 2 b2).set_ 3 b3).set_ 4 b4
theorem Chg.set5 {w w' : World} {g : Nat} {M : Nat→Prop} (h : Chg M w w') (hg : M g∨w.heap.size≤g) (b0 b1 b2 b3 b4 : Value) :
 Chg M w (((((w'.setCell ⟨g,0,none⟩ b0).setCell ⟨g,1,none⟩ b1).setCell ⟨g,2,none⟩ b2).setCell ⟨g,3,none⟩ b3).setCell ⟨g,4,none⟩ b4) :=
 ((((h.setCell (p:=⟨g,0,none⟩) hg b0).setCell (p:=⟨g,1,none⟩) hg b1).setCell (p:=⟨g,2,none⟩) hg b2).setCell (p:=⟨g,3,none⟩) hg b3).setCell (p:=⟨g,4,none⟩) hg b4
theorem Below.set5 {B : Nat} {w w' : World} {g : Nat} (h : Below B w w') (hg : B≤g) (b0 b1 b2 b3 b4 : Value) :
 Below B w (((((w'.setCell ⟨g,0,none⟩ b0).setCell ⟨g,1,none⟩ b1).setCell ⟨g,2,none⟩ b2).setCell ⟨g,3,none⟩ b3).setCell ⟨g,4,none⟩ b4) :=
 ((((h.setCell (p:=⟨g,0,none⟩) hg b0).setCell (p:=⟨g,1,none⟩) hg b1).setCell (p:=⟨g,2,none⟩) hg b2).setCell (p:=⟨g,3,none⟩) hg b3).setCell (p:=⟨g,4,none⟩) hg b4
def AllL : Nat→(List Value→Prop)→Prop
 | 0,P=>P []
 | n+1,P=>∀ u,AllL n (fun l=>P (u::l))
theorem all_frames : ∀ (n : Nat) (P : List Value→Prop),AllL n P→∀ l : List Value,l.length=n→P l
 | 0,P,h,[],_=>h
 | n+1,P,h,u::l,hl=>all_frames n (fun l=>P (u::l)) (h u) l (by simpa using hl)
theorem frame_of (n : Nat) {a : Act} (P : Act→Prop) (hs : a.tmps.size=n) (hd : a.defers=[]) (h : AllL n (fun l=>P ⟨l.toArray,[]⟩)) : P a:=by
 obtain ⟨⟨l⟩,d⟩:=a
 simp only at hd
 subst hd
 exact all_frames n _ h l (by simpa using hs)
theorem wp_scope_again {P : Program} {a : Act} {w : World} {Q : Exit→Act→World→Prop} {c X : Code} (l : Nat) (J : Act→World→Prop) (μ : Act→World→Nat) (hf : findLabel c l=some (Code.skip.seq X))
 (pass : ∀ a w,J a w→X.wp P (Exit.jump l (fun a' w'=>J a' w'∧μ a' w' < μ a w) Q) a w)
 (first : (∀ a w,J a w→X.wp P (Exit.jump l J Q) a w)→c.wp P (Exit.jump l J Q) a w) : (Code.scope c).wp P Q a w:=by
 refine wp_scope_jumps l J μ hf (first fun a w h=>?_) fun a w h=>wp_seq (wp_skip (pass a w h))
 refine Code.wp_mono (fun e a' w' h'=>?_) (pass a w h)
 cases e with
 | goto k=>exact ⟨h'.1,h'.2.1⟩
 | _=>exact h'
end Go.Proofs.YtmpkejflgpodkaaGreatDoor
namespace Go.Proofs.YtmpkejflgpodkaaGreatDoor
open Go.ChangeShapes Go.WideShapes Go.ChangeAt Go.RowKit
structure PBD (P : Nat→Prop) (w : World) (g bh bw bb : Nat) (X : List (ChD × Nat × List Rf)) (W : List ChD) : Prop where
 pb : PB w g bh bw bb X W
 pg : P g∧P bh∧P bw∧P bb
 px : ∀ x∈X,P x.2.1∧ChIn P w x.1
 pw : ∀ c∈W,ChIn P w c
theorem PBD.more {P P' : Nat→Prop} {w : World} {g bh bw bb : Nat} {X : List (ChD × Nat × List Rf)} {W : List ChD} (h : PBD P w g bh bw bb X W) (hp : ∀ k,P k→P' k) : PBD P' w g bh bw bb X W :=
 ⟨h.pb,⟨hp _ h.pg.1,hp _ h.pg.2.1,hp _ h.pg.2.2.1,hp _ h.pg.2.2.2⟩,fun x hx=>⟨hp _ (h.px x hx).1,(h.px x hx).2.more hp⟩,fun c hc=>(h.pw c hc).more hp⟩
theorem PBD.keep {P : Nat→Prop} {w w' : World} {g bh bw bb : Nat} {X : List (ChD × Nat × List Rf)} {W : List ChD} (h : PBD P w g bh bw bb X W) (hs : w.heap.size≤w'.heap.size) (hk : ∀ k,P k→k < w.heap.size→w'.heap[k]?=w.heap[k]?) : PBD P w' g bh bw bb X W:=by
 have hkk : ∀ {c : ChD},ChIn P w c→ChIn (NF w bh bw bb) w c→ChIn (fun k=>P k∧NF w bh bw bb k) w' c:=fun h1 h2=>(h1.both h2).keep fun k hk'=>hk k hk'.1 hk'.2.1
 refine ⟨⟨h.pb.blk.keep (hk _ h.pg.1 h.pb.blk.lt),MapL.keep h.pb.mh (hk _ h.pg.2.1 (MapL.lt h.pb.mh)),MapL.keep h.pb.mw (hk _ h.pg.2.2.1 (MapL.lt h.pb.mw)),MapL.keep h.pb.mb (hk _ h.pg.2.2.2 (MapL.lt h.pb.mb)),h.pb.ne,fun x hx=>?_,fun x hx=>?_,fun c hc=>?_⟩,h.pg,fun x hx=>⟨(h.px x hx).1,?_⟩,fun c hc=>?_⟩
 · obtain ⟨a1,a2,a3⟩:=h.pb.sets x hx
   exact ⟨a1.keep (hk _ (h.px x hx).1 a2.1),a2.more hs,a3⟩
 · exact (hkk (h.px x hx).2 (h.pb.inL x hx)).more fun k hk=>hk.2.more hs
 · exact (hkk (h.pw c hc) (h.pb.inW c hc)).more fun k hk=>hk.2.more hs
 · exact (hkk (h.px x hx).2 (h.pb.inL x hx)).more fun k hk=>hk.1
 · exact (hkk (h.pw c hc) (h.pb.inW c hc)).more fun k hk=>hk.1
theorem PBD.take {P : Nat→Prop} {w w' : World} {g bh bw bb : Nat} {X X' : List (ChD × Nat × List Rf)} {W W' : List ChD} (h : PBD P w g bh bw bb X W) (h' : PB w' g bh bw bb X' W') (hc : Chg (fun k=>k=bh∨k=bw∨k=bb) w w')
 (hx : ∀ x∈X',x∈X∨w.heap.size≤x.2.1) (hy : ∀ y,y∈X'.map Prod.fst∨y∈W'→y∈X.map Prod.fst∨y∈W∨ChIn (fun k=>w.heap.size≤k) w' y) : PBD (fun k=>P k∨w.heap.size≤k∧k < w'.heap.size) w' g bh bw bb X' W':=by
 have old : ∀ {c : ChD},ChIn P w c→ChIn (NF w bh bw bb) w c→ChIn (fun k=>P k∨w.heap.size≤k∧k < w'.heap.size) w' c:=fun h1 h2 =>
  ((h1.both h2).keep fun k hk=>hc.block k hk.2.1 (fun e=>e.elim hk.2.2.1 fun e=>e.elim hk.2.2.2.1 hk.2.2.2.2)).more fun k hk=>.inl hk.1
 have each : ∀ y,y∈X'.map Prod.fst∨y∈W'→ChIn (NF w' bh bw bb) w' y→ChIn (fun k=>P k∨w.heap.size≤k∧k < w'.heap.size) w' y:=fun y hm hn=>by
  rcases hy y hm with h1 | h1 | h1
  · obtain ⟨x,hx,rfl⟩:=List.mem_map.1 h1
    exact old (h.px x hx).2 (h.pb.inL x hx)
  · exact old (h.pw y h1) (h.pb.inW y h1)
  · exact (h1.both hn).more fun k hk=>.inr ⟨hk.1,hk.2.1⟩
 refine ⟨h',⟨.inl h.pg.1,.inl h.pg.2.1,.inl h.pg.2.2.1,.inl h.pg.2.2.2⟩,fun x hm=>⟨?_,each _ (.inl (List.mem_map_of_mem hm)) (h'.inL x hm)⟩,fun c hm=>each _ (.inr hm) (h'.inW c hm)⟩
 rcases hx x hm with h1 | h1
 · exact .inl (h.px x h1).1
 · exact .inr ⟨h1,(h'.sets x hm).2.1.1⟩
structure Both (B : Nat) (D F : Nat→Prop) (w : World) (g bh bw bb gs : Nat) (X : List (ChD × Nat × List Rf)) (W L Wr : List ChD) : Prop where
 pbd : PBD (fun k=>B≤k∧k < w.heap.size∧¬ F k) w g bh bw bb X W
 bm : ∃ VL VW,BM D F w gs L Wr VL VW
 hD : ∀ k,D k→k < B
 hF : ∀ k,F k→B≤k
 size : B≤w.heap.size
 inv : Inv L Wr
 same : X.map (fun x=>x.1.base)=L.map ChD.base
 sameW : W.map ChD.base=Wr.map ChD.base
section
variable {B : Nat} {D F : Nat→Prop} {w w' : World} {g bh bw bb gs : Nat} {X : List (ChD × Nat × List Rf)} {W L Wr : List ChD}
theorem Both.below (h : Both B D F w g bh bw bb gs X W L Wr) (hb : Below w.heap.size w w') : Both B D F w' g bh bw bb gs X W L Wr:=by
 obtain ⟨VL,VW,hm⟩:=h.bm
 exact ⟨(h.pbd.keep hb.size fun k _ hk=>hb.block k hk).more fun k hk=>⟨hk.1,Nat.lt_of_lt_of_le hk.2.1 hb.size,hk.2.2⟩,⟨VL,VW,hm.below hb⟩,h.hD,h.hF,Nat.le_trans h.size hb.size,h.inv,h.same,h.sameW⟩
end
end Go.Proofs.YtmpkejflgpodkaaGreatDoor
