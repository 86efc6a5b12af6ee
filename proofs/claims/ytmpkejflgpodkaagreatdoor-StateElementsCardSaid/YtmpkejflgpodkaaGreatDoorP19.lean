/- The program's state in memory, told by its four lists; one step of it at a time. -/
import Derived.Test.YtmpkejflgpodkaaGreatDoorP18
import Derived.Test.YtmpkejflgpodkaaGreatDoorP17
import Derived.Test.YtmpkejflgpodkaaGreatDoorP13
import Derived.Deep.DeepCutAuto
set_option linter.unusedVariables false
set_option linter.unusedSimpArgs false
namespace Go.Proofs.YtmpkejflgpodkaaGreatDoor
open Go.ChangeShapes Go.WideShapes Go.ChangeAt Go.RowKit
abbrev LisL:=List (Rf × Rf)
structure SG (B : Nat) (w : World) (g kb vb cb lb : Nat) (KL : StK) (V : ValsL) (C : KidsL) (LL : LisL) : Prop where
 blk : Blk w g 100 #[.map (some kb),.map (some vb),.map (some cb),.map (some lb)]
 kinds : MapL w 24 kb (KL.map fun e=>(refV e.1,.int .i64 e.2))
 vals : MapL w 126 vb (V.map fun x=>(whV x.1,.map (some x.2.1)))
 each : ∀ x∈V,MapL w 24 x.2.1 (x.2.2.map fun e=>(refV e.1,vlV e.2))
 kids : MapL w 126 cb (C.map fun x=>(whV x.1,x.2.1))
 row : ∀ x∈C,w.ownsRow B 24 2 x.2.1 x.2.2.length (refC x.2.2)
 lists : MapL w 24 lb (LL.map fun x=>(refV x.1,refV x.2))
 low : ∀ k∈allB g kb vb cb lb V C,B≤k
 apart : (allB g kb vb cb lb V C).Nodup
section
variable {B : Nat} {w w' : World} {g kb vb cb lb : Nat} {K : List OpI} {KL : StK} {V : ValsL} {C : KidsL} {LL : LisL}
def insL (K : List OpI) : LisL:=(K.filter fun x=>x.1.ins).map fun x=>(x.2,objP x)
theorem SMem.sg (h : SMem B w g kb vb cb lb K V C) : SG B w g kb vb cb lb (newK K) V C (insL K) :=
 ⟨h.blk,h.kinds,h.vals,h.each,h.kids,h.row,by unfold insL;rw [List.map_map];exact h.lists,h.low,h.apart⟩
theorem SG.smem (h : SG B w g kb vb cb lb (newK K) V C (insL K)) (hV : V.map (fun x=>(x.1,x.2.2))=newV K) (hC : C.map (fun x=>(x.1,x.2.2))=newC K) : SMem B w g kb vb cb lb K V C :=
 ⟨h.blk,h.kinds,h.vals,h.each,hV,h.kids,h.row,hC,by have:=h.lists;unfold insL at this;rw [List.map_map] at this;exact this,h.low,h.apart⟩
theorem mem_rowB {k : Nat} : k∈rowB C↔∃ x∈C,x.2.1.ownBlock=some k:=by unfold rowB;rw [List.mem_filterMap]
structure Apart (g kb vb cb lb : Nat) (V : ValsL) (C : KidsL) : Prop where
 gk : g≠kb
 gv : g≠vb
 gc : g≠cb
 gl : g≠lb
 kv : kb≠vb
 kc : kb≠cb
 kl : kb≠lb
 vc : vb≠cb
 vl : vb≠lb
 cl : cb≠lb
 vs : ∀ x∈V,x.2.1≠g∧x.2.1≠kb∧x.2.1≠vb∧x.2.1≠cb∧x.2.1≠lb
 rs : ∀ x∈C,∀ k,x.2.1.ownBlock=some k→k≠g∧k≠kb∧k≠vb∧k≠cb∧k≠lb∧∀ y∈V,y.2.1≠k
 vn : (V.map fun x=>x.2.1).Nodup
 rn : (rowB C).Nodup
theorem apart_iff : (allB g kb vb cb lb V C).Nodup↔Apart g kb vb cb lb V C:=by
 unfold allB
 simp only [List.cons_append,List.nodup_cons,List.mem_cons,List.mem_append,List.mem_map,mem_rowB,not_or,not_exists,not_and,List.nodup_append]
 constructor
 · rintro ⟨⟨a1,a2,a3,a4,a5,a6⟩,⟨b1,b2,b3,b4,b5⟩,⟨c1,c2,c3,c4⟩,⟨d1,d2,d3⟩,⟨e1,e2⟩,f1,f2,f3⟩
   exact ⟨a1,a2,a3,a4,b1,b2,b3,c1,c2,d1,fun x hx=>⟨a5 x hx,b4 x hx,c3 x hx,d2 x hx,e1 x hx⟩,
    fun x hx k hk=>⟨fun e=>a6 x hx (e▸hk),fun e=>b5 x hx (e▸hk),fun e=>c4 x hx (e▸hk),fun e=>d3 x hx (e▸hk),fun e=>e2 x hx (e▸hk),fun y hy e=>f3 _ ⟨y,hy,rfl⟩ _ ⟨x,hx,hk⟩ e⟩,f1,f2⟩
 · intro h
   refine ⟨⟨h.gk,h.gv,h.gc,h.gl,fun x hx=>(h.vs x hx).1,fun x hx e=>(h.rs x hx _ e).1 rfl⟩,⟨h.kv,h.kc,h.kl,fun x hx=>(h.vs x hx).2.1,fun x hx e=>(h.rs x hx _ e).2.1 rfl⟩,
    ⟨h.vc,h.vl,fun x hx=>(h.vs x hx).2.2.1,fun x hx e=>(h.rs x hx _ e).2.2.1 rfl⟩,⟨h.cl,fun x hx=>(h.vs x hx).2.2.2.1,fun x hx e=>(h.rs x hx _ e).2.2.2.1 rfl⟩,⟨fun x hx=>(h.vs x hx).2.2.2.2,fun x hx e=>(h.rs x hx _ e).2.2.2.2.1 rfl⟩,h.vn,h.rn,?_⟩
   rintro _ ⟨y,hy,rfl⟩ k ⟨x,hx,hk⟩ e
   exact (h.rs x hx k hk).2.2.2.2.2 y hy e
theorem SG.ap (h : SG B w g kb vb cb lb KL V C LL) : Apart g kb vb cb lb V C:=apart_iff.1 h.apart
theorem SG.lt (h : SG B w g kb vb cb lb KL V C LL) : ∀ k∈allB g kb vb cb lb V C,k < w.heap.size:=by
 intro k hk
 unfold allB at hk
 simp only [List.cons_append,List.mem_cons,List.mem_append,List.mem_map,mem_rowB] at hk
 rcases hk with rfl | rfl | rfl | rfl | rfl | ⟨x,hx,rfl⟩ | ⟨x,hx,e⟩
 · exact h.blk.lt
 · exact h.kinds.lt
 · exact h.vals.lt
 · exact h.kids.lt
 · exact h.lists.lt
 · exact (h.each x hx).lt
 · exact (own_lt (h.row x hx) e).2
theorem mem_allB {k : Nat} : k∈allB g kb vb cb lb V C↔k=g∨k=kb∨k=vb∨k=cb∨k=lb∨(∃ x∈V,x.2.1=k)∨∃ x∈C,x.2.1.ownBlock=some k:=by
 unfold allB
 simp only [List.cons_append,List.mem_cons,List.mem_append,List.mem_map,mem_rowB]
theorem SG.keep (h : SG B w g kb vb cb lb KL V C LL) (hk : ∀ k∈allB g kb vb cb lb V C,w'.heap[k]?=w.heap[k]?) : SG B w' g kb vb cb lb KL V C LL :=
 ⟨h.blk.keep (hk _ (mem_allB.2 (by simp))),h.kinds.keep (hk _ (mem_allB.2 (by simp))),h.vals.keep (hk _ (mem_allB.2 (by simp))),fun x hx=>(h.each x hx).keep (hk _ (mem_allB.2 (.inr (.inr (.inr (.inr (.inr (.inl ⟨x,hx,rfl⟩)))))))),
  h.kids.keep (hk _ (mem_allB.2 (by simp))),fun x hx=>own_keep (h.row x hx) fun k e=>hk _ (mem_allB.2 (.inr (.inr (.inr (.inr (.inr (.inr ⟨x,hx,e⟩))))))),h.lists.keep (hk _ (mem_allB.2 (by simp))),h.low,h.apart⟩
theorem SG.below (h : SG B w g kb vb cb lb KL V C LL) (hb : Below w.heap.size w w') : SG B w' g kb vb cb lb KL V C LL:=h.keep fun k hk=>hb.block k (h.lt k hk)
theorem SG.drew (h : SG B w g kb vb cb lb KL V C LL) : SG B w.drew g kb vb cb lb KL V C LL:=h.keep fun _ _=>rfl
theorem SG.kinds_step (h : SG B w g kb vb cb lb KL V C LL) (hk : w.mapTurned w' kb) {KL' : StK} (hm : MapL w' 24 kb (KL'.map fun e=>(refV e.1,.int .i64 e.2))) : SG B w' g kb vb cb lb KL' V C LL:=by
 have a:=h.ap
 have hb : ∀ k,k < w.heap.size→k≠kb→w'.heap[k]?=w.heap[k]?:=fun k hk1 hk2=>hk.grown.block k hk1 (fun e=>hk2 (by simpa using e))
 exact ⟨h.blk.keep (hb _ h.blk.lt a.gk),hm,h.vals.keep (hb _ h.vals.lt a.kv.symm),fun x hx=>(h.each x hx).keep (hb _ (h.each x hx).lt (a.vs x hx).2.1),
  h.kids.keep (hb _ h.kids.lt a.kc.symm),fun x hx=>own_keep (h.row x hx) fun k e=>hb _ (own_lt (h.row x hx) e).2 (a.rs x hx k e).2.1,h.lists.keep (hb _ h.lists.lt a.kl.symm),h.low,h.apart⟩
theorem SG.lists_step (h : SG B w g kb vb cb lb KL V C LL) (hk : w.mapTurned w' lb) {LL' : LisL} (hm : MapL w' 24 lb (LL'.map fun x=>(refV x.1,refV x.2))) : SG B w' g kb vb cb lb KL V C LL':=by
 have a:=h.ap
 have hb : ∀ k,k < w.heap.size→k≠lb→w'.heap[k]?=w.heap[k]?:=fun k hk1 hk2=>hk.grown.block k hk1 (fun e=>hk2 (by simpa using e))
 exact ⟨h.blk.keep (hb _ h.blk.lt a.gl),h.kinds.keep (hb _ h.kinds.lt a.kl),h.vals.keep (hb _ h.vals.lt a.vl),fun x hx=>(h.each x hx).keep (hb _ (h.each x hx).lt (a.vs x hx).2.2.2.2),
  h.kids.keep (hb _ h.kids.lt a.cl),fun x hx=>own_keep (h.row x hx) fun k e=>hb _ (own_lt (h.row x hx) e).2 (a.rs x hx k e).2.2.2.2.1,hm,h.low,h.apart⟩
theorem SG.each_step {p : Wh} {b : Nat} {E E' : List (Rf × VD)} {V1 V2 : ValsL} (h : SG B w g kb vb cb lb KL (V1++(p,b,E)::V2) C LL) (hk : w.mapTurned w' b) (hm : MapL w' 24 b (E'.map fun e=>(refV e.1,vlV e.2))) :
 SG B w' g kb vb cb lb KL (V1++(p,b,E')::V2) C LL:=by
 have a:=h.ap
 have hmem : (p,b,E)∈V1++(p,b,E)::V2:=by simp
 have hb : ∀ k,k < w.heap.size→k≠b→w'.heap[k]?=w.heap[k]?:=fun k hk1 hk2=>hk.grown.block k hk1 (fun e=>hk2 (by simpa using e))
 have av:=a.vs _ hmem
 have he : (V1++(p,b,E')::V2).map (fun x=>x.2.1)=(V1++(p,b,E)::V2).map (fun x=>x.2.1):=by simp
 have he2 : (V1++(p,b,E')::V2).map (fun x=>(whV x.1,Value.map (some x.2.1)))=(V1++(p,b,E)::V2).map (fun x=>(whV x.1,Value.map (some x.2.1))):=by simp
 have hall : allB g kb vb cb lb (V1++(p,b,E')::V2) C=allB g kb vb cb lb (V1++(p,b,E)::V2) C:=by unfold allB;rw [he]
 have hvn:=a.vn
 simp only [List.map_append,List.map_cons,List.nodup_append,List.nodup_cons,List.mem_map,List.mem_cons] at hvn
 refine ⟨h.blk.keep (hb _ h.blk.lt av.1.symm),h.kinds.keep (hb _ h.kinds.lt av.2.1.symm),by rw [he2];exact h.vals.keep (hb _ h.vals.lt av.2.2.1.symm),fun x hx=>?_,
  h.kids.keep (hb _ h.kids.lt av.2.2.2.1.symm),fun x hx=>own_keep (h.row x hx) fun k e=>hb _ (own_lt (h.row x hx) e).2 (fun e1=>(a.rs x hx k e).2.2.2.2.2 _ hmem e1.symm),h.lists.keep (hb _ h.lists.lt av.2.2.2.2.symm),by rw [hall];exact h.low,by rw [hall];exact h.apart⟩
 have hx':=hx
 rcases List.mem_append.1 hx with hx | hx
 · have hx2 : x∈V1++(p,b,E)::V2:=List.mem_append_left _ hx
   exact (h.each x hx2).keep (hb _ (h.each x hx2).lt (fun e=>hvn.2.2 _ ⟨x,hx,rfl⟩ _ (.inl rfl) e))
 · rcases List.mem_cons.1 hx with rfl | hx
   · exact hm
   · have hx2 : x∈V1++(p,b,E)::V2:=List.mem_append_right _ (List.mem_cons_of_mem _ hx)
     exact (h.each x hx2).keep (hb _ (h.each x hx2).lt (fun e=>hvn.2.1.1 ⟨x,hx,e⟩))
theorem SG.touch_step {p : Wh} {b : Nat} (h : SG B w g kb vb cb lb KL V C LL) (hb0 : B≤b) (hbn : b∉allB g kb vb cb lb V C) (hm0 : MapL w 24 b []) (hk : w.mapTurned w' vb) (hm : MapL w' 126 vb (V.map (fun x=>(whV x.1,Value.map (some x.2.1)))++[(whV p,.map (some b))])) :
 SG B w' g kb vb cb lb KL (V++[(p,b,[])]) C LL:=by
 have a:=h.ap
 have hb : ∀ k,k < w.heap.size→k≠vb→w'.heap[k]?=w.heap[k]?:=fun k hk1 hk2=>hk.grown.block k hk1 (fun e=>hk2 (by simpa using e))
 rw [mem_allB] at hbn
 simp only [not_or,not_exists,not_and] at hbn
 obtain ⟨n1,n2,n3,n4,n5,n6,n7⟩:=hbn
 refine ⟨h.blk.keep (hb _ h.blk.lt a.gv),h.kinds.keep (hb _ h.kinds.lt a.kv),by rw [List.map_append];exact hm,fun x hx=>?_,
  h.kids.keep (hb _ h.kids.lt a.vc.symm),fun x hx=>own_keep (h.row x hx) fun k e=>hb _ (own_lt (h.row x hx) e).2 (a.rs x hx k e).2.2.1,h.lists.keep (hb _ h.lists.lt a.vl.symm),fun k hk=>?_,apart_iff.2 ⟨a.gk,a.gv,a.gc,a.gl,a.kv,a.kc,a.kl,a.vc,a.vl,a.cl,fun x hx=>?_,fun x hx k e=>?_,?_,a.rn⟩⟩
 · rcases List.mem_append.1 hx with hx | hx
   · exact (h.each x hx).keep (hb _ (h.each x hx).lt (a.vs x hx).2.2.1)
   · rw [List.mem_singleton.1 hx]
     exact hm0.keep (hb _ hm0.lt n3)
 · rcases mem_allB.1 hk with e | e | e | e | e | ⟨x,hx,e⟩ | hk
   · exact h.low _ (mem_allB.2 (.inl e))
   · exact h.low _ (mem_allB.2 (.inr (.inl e)))
   · exact h.low _ (mem_allB.2 (.inr (.inr (.inl e))))
   · exact h.low _ (mem_allB.2 (.inr (.inr (.inr (.inl e)))))
   · exact h.low _ (mem_allB.2 (.inr (.inr (.inr (.inr (.inl e))))))
   · rcases List.mem_append.1 hx with hx | hx
     · exact h.low _ (mem_allB.2 (.inr (.inr (.inr (.inr (.inr (.inl ⟨x,hx,e⟩)))))))
     · rw [List.mem_singleton.1 hx] at e
       rw [← e];exact hb0
   · exact h.low _ (mem_allB.2 (.inr (.inr (.inr (.inr (.inr (.inr hk)))))))
 · rcases List.mem_append.1 hx with hx | hx
   · exact a.vs x hx
   · rw [List.mem_singleton.1 hx];exact ⟨n1,n2,n3,n4,n5⟩
 · obtain ⟨r1,r2,r3,r4,r5,r6⟩:=a.rs x hx k e
   refine ⟨r1,r2,r3,r4,r5,fun y hy=>?_⟩
   rcases List.mem_append.1 hy with hy | hy
   · exact r6 y hy
   · rw [List.mem_singleton.1 hy]
     intro e2
     exact n7 x hx (by rw [e,← e2])
 · rw [List.map_append,List.nodup_append]
   refine ⟨a.vn,by simp,fun x hx y hy e=>?_⟩
   obtain ⟨z,hz,rfl⟩:=List.mem_map.1 hx
   simp only [List.map_cons,List.map_nil,List.mem_singleton] at hy
   exact n6 z hz (e.trans hy)
theorem SG.kids_step {C' : KidsL} (h : SG B w g kb vb cb lb KL V C LL) (hk : ∀ k∈g::kb::vb::lb::V.map (fun x=>x.2.1),w'.heap[k]?=w.heap[k]?) (hm : MapL w' 126 cb (C'.map fun x=>(whV x.1,x.2.1)))
 (hr : ∀ x∈C',w'.ownsRow B 24 2 x.2.1 x.2.2.length (refC x.2.2)) (hn : (rowB C').Nodup) (ha : ∀ k∈rowB C',k∉g::kb::vb::cb::lb::V.map (fun x=>x.2.1)) :
 SG B w' g kb vb cb lb KL V C' LL:=by
 have a:=h.ap
 simp only [List.mem_cons,List.mem_map,not_or,not_exists,not_and] at hk ha
 refine ⟨h.blk.keep (hk _ (by simp)),h.kinds.keep (hk _ (by simp)),h.vals.keep (hk _ (by simp)),fun x hx=>(h.each x hx).keep (hk _ (.inr (.inr (.inr (.inr ⟨x,hx,rfl⟩))))),
  hm,hr,h.lists.keep (hk _ (by simp)),fun k hk=>?_,apart_iff.2 ⟨a.gk,a.gv,a.gc,a.gl,a.kv,a.kc,a.kl,a.vc,a.vl,a.cl,a.vs,fun x hx k e=>?_,a.vn,hn⟩⟩
 · rcases mem_allB.1 hk with e | e | e | e | e | hk | ⟨x,hx,e⟩
   · exact h.low _ (mem_allB.2 (.inl e))
   · exact h.low _ (mem_allB.2 (.inr (.inl e)))
   · exact h.low _ (mem_allB.2 (.inr (.inr (.inl e))))
   · exact h.low _ (mem_allB.2 (.inr (.inr (.inr (.inl e)))))
   · exact h.low _ (mem_allB.2 (.inr (.inr (.inr (.inr (.inl e))))))
   · exact h.low _ (mem_allB.2 (.inr (.inr (.inr (.inr (.inr (.inl hk)))))))
   · exact (own_lt (hr x hx) e).1
 · obtain ⟨r1,r2,r3,r4,r5,r6⟩:=ha k (mem_rowB.2 ⟨x,hx,e⟩)
   exact ⟨r1,r2,r3,r4,r5,fun y hy e=>r6 y hy e⟩
end
end Go.Proofs.YtmpkejflgpodkaaGreatDoor
namespace Go.Proofs.YtmpkejflgpodkaaGreatDoor
open Go.ChangeShapes Go.WideShapes Go.ChangeAt Go.RowKit
theorem zero_map (w : World) : (zeroValue 132).run Tryz.prog w=.ok (.map none) w:=by kernel_rfl
theorem zero_val (w : World) : (zeroValue 50).run Tryz.prog w=.ok (.agg #[.int .i64 0,.int .i64 0,.string ⟨#[]⟩,.int .i64 0,.int .i64 0]) w:=by kernel_rfl
section
variable {P : Program} {w : World} {ops : Array Oper} {o : Oper} {a : Act} {K : Act→World→Prop} {Q : Exit→Act→World→Prop} {E : Prop}
theorem step_entry (hgd : o.guard=none) (m x : Operand) (t : TypeId) (ho : o.op=.mapEntry t m x) (mv key : Value) (hm : a.eval m=mv) (hx : a.eval x=key) (R : Value→World→Prop)
 (hr : ∃ v' w',(Instr.mapEntry t mv key).run P w=.ok v' w'∧R v' w') (h : ∀ v' w',R v' w'→K (a.put o.dst v') w') :
 if Region.wanted o (yielded ops a.tmps)=true then Oper.wp P o a w K Q else E:=by
 have hw : Region.wanted o (yielded ops a.tmps)=true:=by simp [Region.wanted,hgd]
 rw [if_pos hw]
 obtain ⟨v',w',hrun,hR⟩:=hr
 unfold Oper.wp execOp
 simp only [ho,Sem.run_bind,Sem.run_pure,Result.andThen_ok,hm,hx,hrun]
 exact h v' w' hR
theorem step_entryStore (hgd : o.guard=none) (m s x : Operand) (t : TypeId) (ho : o.op=.entryStore t m s x) (mv sv v : Value) (hm : a.eval m=mv) (hs : a.eval s=sv) (hx : a.eval x=v) (R : World→Prop)
 (hr : ∃ w',(Instr.entryStore t mv sv v).run P w=.ok () w'∧R w') (h : ∀ w',R w'→K (a.put o.dst undef) w') :
 if Region.wanted o (yielded ops a.tmps)=true then Oper.wp P o a w K Q else E:=by
 have hw : Region.wanted o (yielded ops a.tmps)=true:=by simp [Region.wanted,hgd]
 rw [if_pos hw]
 obtain ⟨w',hrun,hR⟩:=hr
 unfold Oper.wp execOp
 simp only [ho,Sem.run_bind,Sem.run_pure,Result.andThen_ok,hm,hs,hx,hrun]
 exact h w' hR
end
section
variable {B : Nat} {w w' : World} {g kb vb cb lb : Nat} {K : List OpI} {KL : StK} {V : ValsL} {C : KidsL} {LL : LisL}
theorem SG.places (h : SG B w g kb vb cb lb KL V C LL) : (V.map Prod.fst).Nodup:=by
 have h1:=h.vals.apart
 rw [List.pairwise_map] at h1
 rw [List.Nodup,List.pairwise_map]
 exact h1.imp fun {a b} hab e=>hab (by show whV a.1=whV b.1;rw [e])
theorem SG.rows (h : SG B w g kb vb cb lb KL V C LL) : (C.map Prod.fst).Nodup:=by
 have h1:=h.kids.apart
 rw [List.pairwise_map] at h1
 rw [List.Nodup,List.pairwise_map]
 exact h1.imp fun {a b} hab e=>hab (by show whV a.1=whV b.1;rw [e])
theorem SG.ids (h : SG B w g kb vb cb lb KL V C LL) {x : Wh × Nat × List (Rf × VD)} (hx : x∈V) : (x.2.2.map Prod.fst).Nodup:=by
 have h1:=(h.each x hx).apart
 rw [List.pairwise_map] at h1
 rw [List.Nodup,List.pairwise_map]
 exact h1.imp fun {a b} hab e=>hab (by show refV a.1=refV b.1;rw [e])
theorem SG.vals_look (h : SG B w g kb vb cb lb KL V C LL) {p : Wh} (h1 : I64R p.1) (h2 : I64R p.2.2) (h3 : p.2.1.size≤maxLen) :
 (∃ V1 b E V2,V=V1++(p,b,E)::V2∧∀ U,SG B U g kb vb cb lb KL V C LL→(Instr.lookup 96 (.map (some vb)) (whV p) false).run Tryz.prog U=.ok (.map (some b)) U) ∨
 ((∀ x∈V,x.1≠p)∧∀ U,SG B U g kb vb cb lb KL V C LL→(Instr.lookup 96 (.map (some vb)) (whV p) false).run Tryz.prog U=.ok (.map none) U):=by
 by_cases hm : ∃ x∈V,x.1=p
 · obtain ⟨⟨p',b,E⟩,hx,rfl⟩:=hm
   obtain ⟨V1,V2,e⟩:=List.append_of_mem hx
   exact .inl ⟨V1,b,E,V2,e,fun U hU=>MapL.hit hU.vals keyed_where Tryz.underlying96 (zero_map U) (List.mem_map.2 ⟨_,hx,rfl⟩) false⟩
 · obtain ⟨kl,hkl⟩:=keyOf_where h1 h2 h3
   refine .inr ⟨fun x hx e=>hm ⟨x,hx,e⟩,fun U hU=>MapL.miss hU.vals keyed_where Tryz.underlying96 (zero_map U) hkl (fun q hq e=>?_) false⟩
   obtain ⟨y,hy,rfl⟩:=List.mem_map.1 hq
   exact hm ⟨y,hy,whV_inj e⟩
theorem SG.touch (h : SG B w g kb vb cb lb KL V C LL) {p : Wh} (h1 : I64R p.1) (h2 : I64R p.2.2) (h3 : p.2.1.size≤maxLen) (hn : ∀ x∈V,x.1≠p) (hl : V.length < maxLen) (hB : B≤w.heap.size) :
 ∃ w',(Instr.mapUpdate 96 (.map (some vb)) (whV p) (.map (some w.heap.size))).run Tryz.prog (w.alloc (.map #[] 0))=.ok () w'∧(w.alloc (.map #[] 0)).mapTurned w' vb ∧
  SG B w' g kb vb cb lb KL (V++[(p,w.heap.size,[])]) C LL:=by
 have hb : Below w.heap.size w (w.alloc (.map #[] 0)):=(Below.refl _ w).alloc (Nat.le_refl _) _
 have h':=h.below hb
 obtain ⟨kl,hkl⟩:=keyOf_where h1 h2 h3
 obtain ⟨w',r1,r2,r3⟩:=MapL.store (v:=.map (some w.heap.size)) h'.vals keyed_where Tryz.underlying96 (by rw [List.length_map];exact hl) hkl (fun q hq e=>by
  obtain ⟨y,hy,rfl⟩:=List.mem_map.1 hq
  exact hn y hy (whV_inj e))
 exact ⟨w',r1,r3,h'.touch_step hB (fun hm=>by have:=h.lt _ hm;omega) (MapL.made w _) r3 r2⟩
theorem ids_split {E : List (Rf × VD)} {p : Rf} {v : VD} (hn : (E.map Prod.fst).Nodup) (hm : (p,v)∈E) : E.Perm ((p,v)::E.filter fun e=>decide (e.1≠p)):=by
 obtain ⟨E1,E2,rfl⟩:=List.append_of_mem hm
 simp only [List.map_append,List.map_cons,List.nodup_append,List.nodup_cons,List.mem_map,not_exists,not_and,List.mem_cons] at hn
 have h1 : E1.filter (fun e=>decide (e.1≠p))=E1:=List.filter_eq_self.2 fun e he=>by simpa using fun e1=>hn.2.2 _ ⟨e,he,rfl⟩ _ (.inl rfl) e1
 have h2 : E2.filter (fun e=>decide (e.1≠p))=E2:=List.filter_eq_self.2 fun e he=>by simpa using fun e1=>hn.2.1.1 e he e1
 rw [List.filter_append,List.filter_cons_of_neg (by simp),h1,h2]
 exact List.perm_middle
theorem map_at {E : List (Rf × VD)} {p : Rf} {v : VD} (d : Int) (hn : (E.map Prod.fst).Nodup) (hm : (p,v)∈E) : ((p,v.add d)::E.filter fun e=>decide (e.1≠p)).Perm (E.map fun e=>if e.1=p then (e.1,e.2.add d) else e):=by
 obtain ⟨E1,E2,rfl⟩:=List.append_of_mem hm
 simp only [List.map_append,List.map_cons,List.nodup_append,List.nodup_cons,List.mem_map,not_exists,not_and,List.mem_cons] at hn
 have a1 : ∀ e∈E1,e.1≠p:=fun e he e1=>hn.2.2 _ ⟨e,he,rfl⟩ _ (.inl rfl) e1
 have a2 : ∀ e∈E2,e.1≠p:=fun e he e1=>hn.2.1.1 e he e1
 have h1 : E1.filter (fun e=>decide (e.1≠p))=E1:=List.filter_eq_self.2 fun e he=>by simpa using a1 e he
 have h2 : E2.filter (fun e=>decide (e.1≠p))=E2:=List.filter_eq_self.2 fun e he=>by simpa using a2 e he
 have g1 : E1.map (fun e=>if e.1=p then (e.1,e.2.add d) else e)=E1:=by
  conv=>rhs;rw [← List.map_id E1]
  exact List.map_congr_left fun e he=>by rw [if_neg (a1 e he)];rfl
 have g2 : E2.map (fun e=>if e.1=p then (e.1,e.2.add d) else e)=E2:=by
  conv=>rhs;rw [← List.map_id E2]
  exact List.map_congr_left fun e he=>by rw [if_neg (a2 e he)];rfl
 rw [List.filter_append,List.filter_cons_of_neg (by simp),h1,h2,List.map_append,List.map_cons,g1,g2,if_pos rfl]
 exact List.perm_middle.symm
theorem map_none {E : List (Rf × VD)} {p : Rf} (f : Rf × VD→Rf × VD) (hm : ∀ e∈E,e.1≠p) : E.map (fun e=>if e.1=p then f e else e)=E:=by
 conv=>rhs;rw [← List.map_id E]
 exact List.map_congr_left fun e he=>by rw [if_neg (hm e he)];rfl
section
variable {p : Wh} {b : Nat} {E : List (Rf × VD)} {V1 V2 : ValsL}
theorem SG.del (h : SG B w g kb vb cb lb KL (V1++(p,b,E)::V2) C LL) {q : Rf} (hq : I64R q) (ty : TypeId) :
 ∃ w',(Builtin.delete_ #[132,24] ty #[.map (some b),refV q]).run Tryz.prog w=.ok (.tuple #[]) w'∧(w.mapTurned w' b∧SG B w' g kb vb cb lb KL (V1++(p,b,E.filter fun e=>decide (e.1≠q))::V2) C LL):=by
 have hx : (p,b,E)∈V1++(p,b,E)::V2:=by simp
 have he:=h.each _ hx
 have hn:=h.ids hx
 simp only at he hn
 by_cases hm : ∃ e∈E,e.1=q
 · obtain ⟨⟨q',v⟩,hv,rfl⟩:=hm
   obtain ⟨w',r1,r2,r3⟩:=MapL.drop (v0:=vlV v) (l':=(E.filter fun e=>decide (e.1≠q')).map fun e=>(refV e.1,vlV e.2)) he keyed_id Tryz.underlying132 ((ids_split hn hv).map _) ty
   exact ⟨w',r1,r3,h.each_step r3 r2⟩
 · obtain ⟨kl,hkl⟩:=keyOf_id hq
   obtain ⟨w',r1,r2,r3⟩:=MapL.drop_none he keyed_id Tryz.underlying132 hkl (fun z hz e=>by
    obtain ⟨y,hy,rfl⟩:=List.mem_map.1 hz
    exact hm ⟨y,hy,refV_eq e⟩) ty
   have hf : E.filter (fun e=>decide (e.1≠q))=E:=List.filter_eq_self.2 fun e he=>by simpa using fun e1=>hm ⟨e,he,e1⟩
   rw [hf]
   exact ⟨w',r1,r3,h.each_step r3 r2⟩
theorem SG.val_look (h : SG B w g kb vb cb lb KL (V1++(p,b,E)::V2) C LL) {q : Rf} (hq : I64R q) :
 (∃ v,(q,v)∈E∧∀ U,SG B U g kb vb cb lb KL (V1++(p,b,E)::V2) C LL→(Instr.lookup 132 (.map (some b)) (refV q) true).run Tryz.prog U=.ok (.tuple #[vlV v,.bool true]) U) ∨
 ((∀ e∈E,e.1≠q)∧∀ U,SG B U g kb vb cb lb KL (V1++(p,b,E)::V2) C LL→(Instr.lookup 132 (.map (some b)) (refV q) true).run Tryz.prog U=.ok (.tuple #[vlV ⟨0,0,⟨#[]⟩,0,0⟩,.bool false]) U):=by
 have hx : (p,b,E)∈V1++(p,b,E)::V2:=by simp
 by_cases hm : ∃ e∈E,e.1=q
 · obtain ⟨⟨q',v⟩,hv,rfl⟩:=hm
   exact .inl ⟨v,hv,fun U hU=>MapL.hit (hU.each _ hx) keyed_id Tryz.underlying132 (zero_val U) (List.mem_map.2 ⟨_,hv,rfl⟩) true⟩
 · obtain ⟨kl,hkl⟩:=keyOf_id hq
   refine .inr ⟨fun e he e1=>hm ⟨e,he,e1⟩,fun U hU=>MapL.miss (hU.each _ hx) keyed_id Tryz.underlying132 (zero_val U) hkl (fun z hz e=>?_) true⟩
   obtain ⟨y,hy,rfl⟩:=List.mem_map.1 hz
   exact hm ⟨y,hy,refV_eq e⟩
theorem SG.inc (h : SG B w g kb vb cb lb KL (V1++(p,b,E)::V2) C LL) {q : Rf} {v : VD} (hv : (q,v)∈E) (d : Int) :
 ∃ w',(Instr.mapUpdate 132 (.map (some b)) (refV q) (vlV (v.add d))).run Tryz.prog w=.ok () w'∧(w.mapTurned w' b∧SG B w' g kb vb cb lb KL (V1++(p,b,E.map fun e=>if e.1=q then (e.1,e.2.add d) else e)::V2) C LL):=by
 have hx : (p,b,E)∈V1++(p,b,E)::V2:=by simp
 have he:=h.each _ hx
 have hn:=h.ids hx
 simp only at he hn
 obtain ⟨w',r1,r2,r3⟩:=MapL.over (v:=vlV (v.add d)) (v0:=vlV v) (l':=(E.filter fun e=>decide (e.1≠q)).map fun e=>(refV e.1,vlV e.2)) he keyed_id Tryz.underlying132 ((ids_split hn hv).map _)
 exact ⟨w',r1,r3,h.each_step r3 (r2.perm ((map_at d hn hv).map fun e : Rf × VD=>(refV e.1,vlV e.2)))⟩
theorem SG.put (h : SG B w g kb vb cb lb KL (V1++(p,b,E)::V2) C LL) {n : Rf} (hn : I64R n) (hnew : ∀ e∈E,e.1≠n) (hl : E.length < maxLen) (v : VD) :
 ∃ w',(Instr.mapUpdate 132 (.map (some b)) (refV n) (vlV v)).run Tryz.prog w=.ok () w'∧(w.mapTurned w' b∧SG B w' g kb vb cb lb KL (V1++(p,b,E++[(n,v)])::V2) C LL):=by
 have hx : (p,b,E)∈V1++(p,b,E)::V2:=by simp
 have he:=h.each _ hx
 simp only at he
 obtain ⟨kl,hkl⟩:=keyOf_id hn
 obtain ⟨w',r1,r2,r3⟩:=MapL.store (v:=vlV v) he keyed_id Tryz.underlying132 (by rw [List.length_map];exact hl) hkl (fun z hz e=>by
  obtain ⟨y,hy,rfl⟩:=List.mem_map.1 hz
  exact hnew y hy (refV_eq e))
 refine ⟨w',r1,r3,h.each_step r3 ?_⟩
 rw [List.map_append]
 exact r2
end
theorem SG.kind_put (h : SG B w g kb vb cb lb KL V C LL) {n : Rf} (hn : I64R n) (hnew : ∀ e∈KL,e.1≠n) (hl : KL.length < maxLen) (k : Int) :
 ∃ w',(Instr.mapUpdate 95 (.map (some kb)) (refV n) (.int .i64 k)).run Tryz.prog w=.ok () w'∧(w.mapTurned w' kb∧SG B w' g kb vb cb lb (KL++[(n,k)]) V C LL):=by
 obtain ⟨kl,hkl⟩:=keyOf_id hn
 obtain ⟨w',r1,r2,r3⟩:=MapL.store (v:=.int .i64 k) h.kinds keyed_id Tryz.underlying95 (by rw [List.length_map];exact hl) hkl (fun z hz e=>by
  obtain ⟨y,hy,rfl⟩:=List.mem_map.1 hz
  exact hnew y hy (refV_eq e))
 exact ⟨w',r1,r3,h.kinds_step r3 (by rw [List.map_append];exact r2)⟩
theorem SG.list_put (h : SG B w g kb vb cb lb KL V C LL) {n o : Rf} (hn : I64R n) (hnew : ∀ e∈LL,e.1≠n) (hl : LL.length < maxLen) :
 ∃ w',(Instr.mapUpdate 98 (.map (some lb)) (refV n) (refV o)).run Tryz.prog w=.ok () w'∧(w.mapTurned w' lb∧SG B w' g kb vb cb lb KL V C (LL++[(n,o)])):=by
 obtain ⟨kl,hkl⟩:=keyOf_id hn
 obtain ⟨w',r1,r2,r3⟩:=MapL.store (v:=refV o) h.lists keyed_id Tryz.underlying98 (by rw [List.length_map];exact hl) hkl (fun z hz e=>by
  obtain ⟨y,hy,rfl⟩:=List.mem_map.1 hz
  exact hnew y hy (refV_eq e))
 exact ⟨w',r1,r3,h.lists_step r3 (by rw [List.map_append];exact r2)⟩
end
end Go.Proofs.YtmpkejflgpodkaaGreatDoor
namespace Go.Proofs.YtmpkejflgpodkaaGreatDoor
open Go.ChangeShapes Go.WideShapes Go.ChangeAt Go.RowKit
theorem perm_cons_mid {α : Type} {a : α} {l1 l2 : List α} : (a::(l1++l2)).Perm (l1++a::l2):=List.perm_middle.symm
theorem putKi_new {S : StC} {p : Wh} {n : Rf} (h : ∀ e∈S,e.1≠p) : putKi S p n=S++[(p,[n])]:=by
 unfold putKi
 rw [if_neg fun ⟨e,he,e1⟩=>h e he e1]
theorem putKi_old {S1 S2 : StC} {p : Wh} {n : Rf} {rs : List Rf} (h1 : ∀ e∈S1,e.1≠p) (h2 : ∀ e∈S2,e.1≠p) : putKi (S1++(p,rs)::S2) p n=S1++(p,rs++[n])::S2:=by
 unfold putKi
 rw [if_pos ⟨(p,rs),by simp,rfl⟩,List.map_append,List.map_cons,if_pos rfl]
 have g1 : S1.map (fun e=>if e.1=p then (e.1,e.2++[n]) else e)=S1:=by
  conv=>rhs;rw [← List.map_id S1]
  exact List.map_congr_left fun e he=>by rw [if_neg (h1 e he)];rfl
 have g2 : S2.map (fun e=>if e.1=p then (e.1,e.2++[n]) else e)=S2:=by
  conv=>rhs;rw [← List.map_id S2]
  exact List.map_congr_left fun e he=>by rw [if_neg (h2 e he)];rfl
 rw [g1,g2]
section
variable {B : Nat} {w w' : World} {g kb vb cb lb : Nat} {K : List OpI} {KL : StK} {V : ValsL} {C : KidsL} {LL : LisL}
theorem turned_keep {b : Nat} (h : w.mapTurned w' b) {k : Nat} (hk : k < w.heap.size) (hne : k≠b) : w'.heap[k]?=w.heap[k]?:=h.grown.block k hk (fun e=>hne (by simpa using e))
theorem turned_size {b : Nat} (h : w.mapTurned w' b) : w'.heap.size=w.heap.size:=by
 obtain ⟨es,c,es',c',hb,rfl⟩:=h
 simp [ChangeMaps.setBlock]
theorem SG.kids_entry (h : SG B w g kb vb cb lb KL V C LL) {p : Wh} (h1 : I64R p.1) (h2 : I64R p.2.2) (h3 : p.2.1.size≤maxLen) (hl : C.length < maxLen) (n : Rf) :
 ∃ w1 v0,∃ (c : Nat) (rs : List Rf),(Instr.mapEntry 97 (.map (some cb)) (whV p)).run Tryz.prog w=.ok (.tuple #[v0,.int .i64 (c : Nat)]) w1∧w.mapTurned w1 cb∧w1.ownsRow B 24 2 v0 rs.length (refC rs)∧(rs=[]∨∃ x∈C,x.2.2=rs) ∧
  (∀ k,v0.ownBlock=some k→k∈allB g kb vb cb lb V C∧k≠g) ∧
  ∀ w2 w3 v',Below w1.heap.size w1 w2→w2.grownBy w3 v0.ownBlock→w3.ownsRow B 24 2 v' (rs.length+1) (refC rs++[.int .i64 n.1,.int .i64 n.2])→(v'.ownBlock=v0.ownBlock∨v'.ownBlock=some w2.heap.size) →
   ∃ w4,(Instr.entryStore 97 (.map (some cb)) (.int .i64 (c : Nat)) v').run Tryz.prog w3=.ok () w4∧w3.mapTurned w4 cb∧∃ C',C'.map (fun x=>(x.1,x.2.2))=putKi (C.map fun x=>(x.1,x.2.2)) p n∧SG B w4 g kb vb cb lb KL V C' LL ∧
    ∀ k∈allB g kb vb cb lb V C',k∈allB g kb vb cb lb V C∨k=w2.heap.size:=by
 have a:=h.ap
 have hrc : ∀ rs : List Rf,refC (rs++[n])=refC rs++[.int .i64 n.1,.int .i64 n.2]:=fun rs=>by rw [refC_append];rfl
 by_cases hm : ∃ x∈C,x.1=p
 · obtain ⟨⟨p',v0,rs⟩,hx,hp⟩:=hm
   simp only at hp
   subst hp
   obtain ⟨C1,C2,e⟩:=List.append_of_mem hx
   have hn0:=h.rows
   rw [e] at hn0
   simp only [List.map_append,List.map_cons,List.nodup_append,List.nodup_cons,List.mem_map,not_exists,not_and,List.mem_cons] at hn0
   have a1 : ∀ x∈C1,x.1≠p':=fun x hx e1=>hn0.2.2 _ ⟨x,hx,rfl⟩ _ (.inl rfl) e1
   have a2 : ∀ x∈C2,x.1≠p':=fun x hx e1=>hn0.2.1.1 x hx e1
   have hperm : (C.map fun x=>(whV x.1,x.2.1)).Perm ((whV p',v0)::(C1++C2).map fun x=>(whV x.1,x.2.1)):=by
    rw [e,← List.map_cons (f:=fun x : Wh × Value × List Rf=>(whV x.1,x.2.1)) (a:=(p',v0,rs))]
    exact List.perm_middle.map _
   obtain ⟨w1,c,r1,r2,r3⟩:=MapL.entry_old h.kids keyed_where Tryz.underlying97 hperm
   have hrow:=h.row _ hx
   simp only at hrow
   have harow:=fun k hk=>a.rs _ hx k hk
   simp only at harow
   have hmem0 : ∀ k,v0.ownBlock=some k→k∈allB g kb vb cb lb V C∧k≠g:=fun k hk=>⟨mem_allB.2 (.inr (.inr (.inr (.inr (.inr (.inr ⟨_,hx,hk⟩)))))),(harow k hk).1⟩
   have hrow1 : w1.ownsRow B 24 2 v0 rs.length (refC rs):=own_keep hrow fun k hk=>turned_keep r3 (own_lt hrow hk).2 (harow k hk).2.2.2.1
   refine ⟨w1,v0,c,rs,r1,r3,hrow1,.inr ⟨_,hx,rfl⟩,hmem0,fun w2 w3 v' hb hg ho hv=>?_⟩
   have hE3 : EntL w3 126 cb (whV p') v0 c ((C1++C2).map fun x=>(whV x.1,x.2.1)):=by
    have hlt1:=r2.lt
    have hE2:=r2.keep (hb.block _ hlt1)
    exact hE2.keep (hg.block _ hE2.lt (fun e2=>(harow cb e2.symm).2.2.2.1 rfl))
   obtain ⟨w4,s1,s2,s3⟩:=hE3.store v' 97
   have hs1:=turned_size r3
   have hs4:=turned_size s3
   have hkp : ∀ k,k < w.heap.size→k≠cb→v0.ownBlock≠some k→w4.heap[k]?=w.heap[k]?:=fun k k1 k2 k3=>by
    have q1 : k < w1.heap.size:=by omega
    have q2 : k < w2.heap.size:=Nat.lt_of_lt_of_le q1 hb.size
    have q3 : k < w3.heap.size:=Nat.lt_of_lt_of_le q2 hg.size
    rw [turned_keep s3 q3 k2,hg.block k q2 (fun e2=>k3 e2.symm),hb.block k q1,turned_keep r3 k1 k2]
   have hcb3 : v'.ownBlock≠some cb:=fun e2=>by
    rcases hv with e3 | e3
    · exact (harow cb (e3▸e2)).2.2.2.1 rfl
    · rw [e3] at e2
      have:=Option.some.inj e2
      have:=h.kids.lt
      have:=hb.size
      omega
   have hnew : ∀ k,v'.ownBlock=some k→v0.ownBlock=some k∨k=w2.heap.size:=fun k hk=>by
    rcases hv with e3 | e3
    · exact .inl (e3▸hk)
    · rw [e3] at hk;exact .inr (Option.some.inj hk).symm
   have hsz2 : w.heap.size≤w2.heap.size:=by have:=hb.size;omega
   have hrb : rowB C=rowB C1++(v0.ownBlock.toList++rowB C2):=by
    unfold rowB
    rw [e,List.filterMap_append,List.filterMap_cons]
    cases v0.ownBlock <;> rfl
   have hrb' : rowB (C1++(p',v',rs++[n])::C2)=rowB C1++(v'.ownBlock.toList++rowB C2):=by
    unfold rowB
    rw [List.filterMap_append,List.filterMap_cons]
    cases v'.ownBlock <;> rfl
   have hlt : ∀ k∈rowB C,k < w.heap.size:=fun k hk=>by
    obtain ⟨x,hx,e1⟩:=mem_rowB.1 hk
    exact (own_lt (h.row x hx) e1).2
   have hrn:=a.rn
   rw [hrb] at hrn hlt
   simp only [List.nodup_append,List.mem_append,Option.mem_toList] at hrn hlt
   refine ⟨w4,s1,s3,C1++(p',v',rs++[n])::C2,?_,?_,?_⟩
   · rw [e,List.map_append,List.map_cons,List.map_append,List.map_cons]
     exact (putKi_old (fun x hx=>by obtain ⟨y,hy,rfl⟩:=List.mem_map.1 hx;exact a1 y hy) (fun x hx=>by obtain ⟨y,hy,rfl⟩:=List.mem_map.1 hx;exact a2 y hy)).symm
   · refine h.kids_step (fun k hk=>?_) ?_ (fun x hx=>?_) ?_ (fun k hk=>?_)
     · simp only [List.mem_cons,List.mem_map] at hk
       rcases hk with rfl | rfl | rfl | rfl | ⟨x,hx,rfl⟩
       · exact hkp _ h.blk.lt a.gc (fun e2=>(harow _ e2).1 rfl)
       · exact hkp _ h.kinds.lt a.kc (fun e2=>(harow _ e2).2.1 rfl)
       · exact hkp _ h.vals.lt a.vc (fun e2=>(harow _ e2).2.2.1 rfl)
       · exact hkp _ h.lists.lt a.cl.symm (fun e2=>(harow _ e2).2.2.2.2.1 rfl)
       · exact hkp _ (h.each x hx).lt (a.vs x hx).2.2.2.1 (fun e2=>(harow _ e2).2.2.2.2.2 x hx rfl)
     · refine s2.perm ?_
       rw [← List.map_cons (f:=fun x : Wh × Value × List Rf=>(whV x.1,x.2.1)) (a:=(p',v',rs++[n]))]
       exact perm_cons_mid.map _
     · have hold : ∀ x,x∈C→(x∈C1∨x∈C2)→w4.ownsRow B 24 2 x.2.1 x.2.2.length (refC x.2.2):=fun x hx hx2=>own_keep (h.row x hx) fun k hk=>hkp k (own_lt (h.row x hx) hk).2 (a.rs x hx k hk).2.2.2.1 fun e2=>by
        rcases hx2 with hx2 | hx2
        · exact hrn.2.2 k (mem_rowB.2 ⟨x,hx2,hk⟩) k (.inl e2) rfl
        · exact hrn.2.1.2.2 k e2 k (mem_rowB.2 ⟨x,hx2,hk⟩) rfl
       rcases List.mem_append.1 hx with hx | hx
       · exact hold x (by rw [e];exact List.mem_append_left _ hx) (.inl hx)
       · rcases List.mem_cons.1 hx with rfl | hx
         · simp only [List.length_append,List.length_singleton,hrc]
           exact own_keep ho fun k hk=>turned_keep s3 (own_lt ho hk).2 (fun e2=>hcb3 (e2▸hk))
         · exact hold x (by rw [e];exact List.mem_append_right _ (List.mem_cons_of_mem _ hx)) (.inr hx)
     · rw [hrb']
       simp only [List.nodup_append,List.mem_append,Option.mem_toList]
       refine ⟨hrn.1,⟨by cases v'.ownBlock <;> simp,hrn.2.1.2.1,fun k hk j hj e2=>?_⟩,fun k hk j hj e2=>?_⟩
       · subst e2
         rcases hnew k hk with h5 | h5
         · exact hrn.2.1.2.2 k h5 k hj rfl
         · have:=hlt k (.inr (.inr hj));omega
       · subst e2
         rcases hj with hj | hj
         · rcases hnew k hj with h5 | h5
           · exact hrn.2.2 k hk k (.inl h5) rfl
           · have:=hlt k (.inl hk);omega
         · exact hrn.2.2 k hk k (.inr hj) rfl
     · have hin : k∈rowB C∨k=w2.heap.size:=by
        rw [hrb'] at hk
        rw [hrb]
        simp only [List.mem_append,Option.mem_toList] at hk ⊢
        rcases hk with hk | hk | hk
        · exact .inl (.inl hk)
        · rcases hnew k hk with h5 | h5
          · exact .inl (.inr (.inl h5))
          · exact .inr h5
        · exact .inl (.inr (.inr hk))
       rcases hin with hin | rfl
       · obtain ⟨x,hx,e1⟩:=mem_rowB.1 hin
         obtain ⟨q1,q2,q3,q4,q5,q6⟩:=a.rs x hx k e1
         simp only [List.mem_cons,List.mem_map,not_or,not_exists,not_and]
         exact ⟨q1,q2,q3,q4,q5,fun y hy=>q6 y hy⟩
       · have hall:=h.lt
         intro hm
         have : w2.heap.size < w.heap.size:=hall _ (by
          simp only [List.mem_cons,List.mem_map] at hm
          rw [mem_allB]
          rcases hm with h | h | h | h | h | ⟨x,hx,h⟩
          · exact .inl h
          · exact .inr (.inl h)
          · exact .inr (.inr (.inl h))
          · exact .inr (.inr (.inr (.inl h)))
          · exact .inr (.inr (.inr (.inr (.inl h))))
          · exact .inr (.inr (.inr (.inr (.inr (.inl ⟨x,hx,h⟩))))))
         omega
   · intro k hk
     rcases mem_allB.1 hk with e2 | e2 | e2 | e2 | e2 | e2 | ⟨x,hx,e2⟩
     · exact .inl (mem_allB.2 (.inl e2))
     · exact .inl (mem_allB.2 (.inr (.inl e2)))
     · exact .inl (mem_allB.2 (.inr (.inr (.inl e2))))
     · exact .inl (mem_allB.2 (.inr (.inr (.inr (.inl e2)))))
     · exact .inl (mem_allB.2 (.inr (.inr (.inr (.inr (.inl e2))))))
     · exact .inl (mem_allB.2 (.inr (.inr (.inr (.inr (.inr (.inl e2)))))))
     · rcases List.mem_append.1 hx with hx | hx
       · exact .inl (mem_allB.2 (.inr (.inr (.inr (.inr (.inr (.inr ⟨x,by rw [e];exact List.mem_append_left _ hx,e2⟩)))))))
       · rcases List.mem_cons.1 hx with rfl | hx
         · rcases hnew k e2 with h5 | h5
           · exact .inl (hmem0 k h5).1
           · exact .inr h5
         · exact .inl (mem_allB.2 (.inr (.inr (.inr (.inr (.inr (.inr ⟨x,by rw [e];exact List.mem_append_right _ (List.mem_cons_of_mem _ hx),e2⟩)))))))
 · have hno : ∀ x∈C,x.1≠p:=fun x hx e=>hm ⟨x,hx,e⟩
   obtain ⟨kl,hkl⟩:=keyOf_where h1 h2 h3
   obtain ⟨w1,c,r1,r2,r3⟩:=MapL.entry_new h.kids keyed_where Tryz.underlying97 (zero_ids w) (by rw [List.length_map];exact hl) hkl (fun q hq e=>by
    obtain ⟨y,hy,rfl⟩:=List.mem_map.1 hq
    exact hno y hy (whV_inj e))
   refine ⟨w1,.slice none 0 0,c,[],r1,r3,own_nil _ _ _ _,.inl rfl,(fun k hk=>by cases hk),fun w2 w3 v' hb hg ho hv=>?_⟩
   have hE3 : EntL w3 126 cb (whV p) (.slice none 0 0) c (C.map fun x=>(whV x.1,x.2.1)):=by
    have hE2:=r2.keep (hb.block _ r2.lt)
    exact hE2.keep (hg.block _ hE2.lt (fun e2=>by cases e2))
   obtain ⟨w4,s1,s2,s3⟩:=hE3.store v' 97
   have hs1:=turned_size r3
   have hs4:=turned_size s3
   have hkp : ∀ k,k < w.heap.size→k≠cb→w4.heap[k]?=w.heap[k]?:=fun k k1 k2=>by
    have q1 : k < w1.heap.size:=by omega
    have q2 : k < w2.heap.size:=Nat.lt_of_lt_of_le q1 hb.size
    have q3 : k < w3.heap.size:=Nat.lt_of_lt_of_le q2 hg.size
    rw [turned_keep s3 q3 k2,hg.block k q2 (fun e2=>by cases e2),hb.block k q1,turned_keep r3 k1 k2]
   have hnew : ∀ k,v'.ownBlock=some k→k=w2.heap.size:=fun k hk=>by
    rcases hv with e3 | e3
    · rw [e3] at hk;cases hk
    · rw [e3] at hk;exact (Option.some.inj hk).symm
   have hsz2 : w.heap.size≤w2.heap.size:=by have:=hb.size;omega
   have hcb3 : v'.ownBlock≠some cb:=fun e2=>by
    have:=hnew _ e2
    have:=h.kids.lt
    omega
   have hrb' : rowB (C++[(p,v',[n])])=rowB C++v'.ownBlock.toList:=by
    unfold rowB
    rw [List.filterMap_append,List.filterMap_cons]
    cases v'.ownBlock <;> rfl
   have hlt : ∀ k∈rowB C,k < w.heap.size:=fun k hk=>by
    obtain ⟨x,hx,e1⟩:=mem_rowB.1 hk
    exact (own_lt (h.row x hx) e1).2
   refine ⟨w4,s1,s3,C++[(p,v',[n])],?_,?_,?_⟩
   · rw [putKi_new (fun x hx=>by obtain ⟨y,hy,rfl⟩:=List.mem_map.1 hx;exact hno y hy),List.map_append]
     rfl
   · refine h.kids_step (fun k hk=>?_) ?_ (fun x hx=>?_) ?_ (fun k hk=>?_)
     · simp only [List.mem_cons,List.mem_map] at hk
       rcases hk with rfl | rfl | rfl | rfl | ⟨x,hx,rfl⟩
       · exact hkp _ h.blk.lt a.gc
       · exact hkp _ h.kinds.lt a.kc
       · exact hkp _ h.vals.lt a.vc
       · exact hkp _ h.lists.lt a.cl.symm
       · exact hkp _ (h.each x hx).lt (a.vs x hx).2.2.2.1
     · refine s2.perm ?_
       rw [List.map_append]
       exact (List.perm_append_singleton _ _).symm
     · rcases List.mem_append.1 hx with hx | hx
       · exact own_keep (h.row x hx) fun k hk=>hkp k (own_lt (h.row x hx) hk).2 (a.rs x hx k hk).2.2.2.1
       · rw [List.mem_singleton.1 hx]
         refine own_keep ?_ fun k hk=>turned_keep s3 (own_lt ho hk).2 (fun e2=>hcb3 (e2▸hk))
         simpa [refC] using ho
     · rw [hrb']
       simp only [List.nodup_append,Option.mem_toList]
       refine ⟨a.rn,by cases v'.ownBlock <;> simp,fun k hk j hj e2=>?_⟩
       have:=hlt k hk
       have:=hnew j hj
       omega
     · have hin : k∈rowB C∨k=w2.heap.size:=by
        rw [hrb'] at hk
        simp only [List.mem_append,Option.mem_toList] at hk
        rcases hk with hk | hk
        · exact .inl hk
        · exact .inr (hnew k hk)
       rcases hin with hin | rfl
       · obtain ⟨x,hx,e1⟩:=mem_rowB.1 hin
         obtain ⟨q1,q2,q3,q4,q5,q6⟩:=a.rs x hx k e1
         simp only [List.mem_cons,List.mem_map,not_or,not_exists,not_and]
         exact ⟨q1,q2,q3,q4,q5,fun y hy=>q6 y hy⟩
       · have hall:=h.lt
         intro hm
         have : w2.heap.size < w.heap.size:=hall _ (by
          simp only [List.mem_cons,List.mem_map] at hm
          rw [mem_allB]
          rcases hm with h | h | h | h | h | ⟨x,hx,h⟩
          · exact .inl h
          · exact .inr (.inl h)
          · exact .inr (.inr (.inl h))
          · exact .inr (.inr (.inr (.inl h)))
          · exact .inr (.inr (.inr (.inr (.inl h))))
          · exact .inr (.inr (.inr (.inr (.inr (.inl ⟨x,hx,h⟩))))))
         omega
   · intro k hk
     rcases mem_allB.1 hk with e2 | e2 | e2 | e2 | e2 | e2 | ⟨x,hx,e2⟩
     · exact .inl (mem_allB.2 (.inl e2))
     · exact .inl (mem_allB.2 (.inr (.inl e2)))
     · exact .inl (mem_allB.2 (.inr (.inr (.inl e2))))
     · exact .inl (mem_allB.2 (.inr (.inr (.inr (.inl e2)))))
     · exact .inl (mem_allB.2 (.inr (.inr (.inr (.inr (.inl e2))))))
     · exact .inl (mem_allB.2 (.inr (.inr (.inr (.inr (.inr (.inl e2)))))))
     · rcases List.mem_append.1 hx with hx | hx
       · exact .inl (mem_allB.2 (.inr (.inr (.inr (.inr (.inr (.inr ⟨x,hx,e2⟩)))))))
       · rw [List.mem_singleton.1 hx] at e2
         exact .inr (hnew k e2)
end
end Go.Proofs.YtmpkejflgpodkaaGreatDoor
namespace Go.Proofs.YtmpkejflgpodkaaGreatDoor
open Go.ChangeShapes Go.WideShapes Go.ChangeAt Go.RowKit
structure DoM (B q : Nat) (M : List Nat) (w0 w : World) (x : OpI) (pe : Rf) (g kb vb cb lb : Nat) (KL : StK) (V : ValsL) (C : KidsL) (LL : LisL) : Prop where
 sg : SG B w g kb vb cb lb KL V C LL
 bo : Blk w q 88 #[.int .i64 x.1.k,.int .i64 x.1.on,.int .i64 x.1.oa,.string x.1.key,.int .i64 x.1.en,.int .i64 x.1.ea,.bool x.1.ins,.int .i64 x.1.vk,.int .i64 x.1.vn,.string x.1.vt,.int .i64 x.1.va,.int .i64 x.1.vb,.slice x.1.A x.1.l.length x.1.c]
 bi : Blk w (q+1) 24 #[.int .i64 x.2.1,.int .i64 x.2.2]
 bw : Blk w (q+2) 126 #[.int .i64 x.1.on,.int .i64 x.1.oa,.string x.1.key,.int .i64 pe.1,.int .i64 pe.2]
 nq : ∀ k∈allB g kb vb cb lb V C,k < q∨q+3≤k
 bel : Below B w0 w
 hB : B≤w.heap.size
 nm : ∀ k∈allB g kb vb cb lb V C,k < q→k∈M
 chg : Chg (fun k=>k∈M) w0 w
 h0 : w0.heap.size≤q
section
variable {B q : Nat} {M : List Nat} {w0 w w' : World} {x : OpI} {pe : Rf} {g kb vb cb lb : Nat} {KL KL' : StK} {V V' : ValsL} {C C' : KidsL} {LL LL' : LisL}
theorem DoM.drew (h : DoM B q M w0 w x pe g kb vb cb lb KL V C LL) : DoM B q M w0 w.drew x pe g kb vb cb lb KL V C LL:=⟨h.sg.drew,h.bo,h.bi,h.bw,h.nq,h.bel.drew,h.hB,h.nm,h.chg.drew,h.h0⟩
theorem DoM.alloc (h : DoM B q M w0 w x pe g kb vb cb lb KL V C LL) (o : Obj) : DoM B q M w0 (w.alloc o) x pe g kb vb cb lb KL V C LL:=by
 have hb : Below w.heap.size w (w.alloc o):=(Below.refl _ w).alloc (Nat.le_refl _) _
 exact ⟨h.sg.below hb,h.bo.keep (hb.block _ h.bo.lt),h.bi.keep (hb.block _ h.bi.lt),h.bw.keep (hb.block _ h.bw.lt),h.nq,h.bel.alloc h.hB _,(by simp;have:=h.hB;omega),h.nm,h.chg.alloc _,h.h0⟩
theorem DoM.turn (h : DoM B q M w0 w x pe g kb vb cb lb KL V C LL) {b : Nat} (hb : b∈allB g kb vb cb lb V C) (ht : w.mapTurned w' b) (hs : SG B w' g kb vb cb lb KL' V' C' LL') (hn : ∀ k∈allB g kb vb cb lb V' C',k∈allB g kb vb cb lb V C∨q+3≤k) : DoM B q M w0 w' x pe g kb vb cb lb KL' V' C' LL':=by
 have h1:=h.nq b hb
 refine ⟨hs,h.bo.keep (turned_keep ht h.bo.lt (by omega)),h.bi.keep (turned_keep ht h.bi.lt (by omega)),h.bw.keep (turned_keep ht h.bw.lt (by omega)),fun k hk=>?_,h.bel.grown ht.grown h.hB (fun j hj=>by cases hj;exact h.sg.low _ hb),(by rw [turned_size ht];exact h.hB),(fun k hk hkq=>(hn k hk).elim (fun h2=>h.nm k h2 hkq) (fun h2=>by omega)),h.chg.grown ht.grown (fun j hj=>by
  cases hj
  have:=h.h0
  rcases h1 with h2 | h2
  · exact .inl (h.nm _ hb h2)
  · exact .inr (by omega)),h.h0⟩
 rcases hn k hk with h2 | h2
 · exact h.nq k h2
 · exact .inr h2
theorem DoM.far (h : DoM B q M w0 w x pe g kb vb cb lb KL V C LL) {p : Addr} (hp : q+3≤p.block) (hn : p.block∉allB g kb vb cb lb V C) (hp2 : B≤p.block) (v : Value) : DoM B q M w0 (w.setCell p v) x pe g kb vb cb lb KL V C LL:=by
 have hk : ∀ k,k≠p.block→(w.setCell p v).heap[k]?=w.heap[k]?:=fun k hk=>Below.heap_setCell _ _ _ _ hk
 refine ⟨h.sg.keep fun k hk2=>hk k fun e=>hn (e▸hk2),h.bo.keep (hk _ (by omega)),h.bi.keep (hk _ (by omega)),h.bw.keep (hk _ (by omega)),h.nq,h.bel.setCell hp2 _,(by simpa [World.setCell] using h.hB),h.nm,h.chg.setCell (.inr (by have:=h.h0;omega)) _,h.h0⟩
theorem DoM.elem (h : DoM B q M w0 w x pe g kb vb cb lb KL V C LL) (hq : B≤q+2) (n : Rf) : DoM B q M w0 ((w.setCell ⟨q+2,3,none⟩ (.int .i64 n.1)).setCell ⟨q+2,4,none⟩ (.int .i64 n.2)) x n g kb vb cb lb KL V C LL:=by
 have hk : ∀ k,k≠q+2→((w.setCell ⟨q+2,3,none⟩ (.int .i64 n.1)).setCell ⟨q+2,4,none⟩ (.int .i64 n.2)).heap[k]?=w.heap[k]?:=fun k hk=>(Below.heap_setCell _ _ _ _ (by exact hk)).trans (Below.heap_setCell _ _ _ _ (by exact hk))
 refine ⟨h.sg.keep fun k hk2=>hk k fun e=>by have:=h.nq k hk2;omega,h.bo.keep (hk _ (by omega)),h.bi.keep (hk _ (by omega)),(h.bw.set_ 3 _).set_ 4 _,h.nq,(h.bel.setCell (p:=⟨q+2,3,none⟩) hq _).setCell (p:=⟨q+2,4,none⟩) hq _,(by simpa [World.setCell] using h.hB),h.nm,(h.chg.setCell (p:=⟨q+2,3,none⟩) (.inr (by have:=h.h0;show _≤q+2;omega)) _).setCell (p:=⟨q+2,4,none⟩) (.inr (by have:=h.h0;show _≤q+2;omega)) _,h.h0⟩
end
structure DoT (B q : Nat) (M : List Nat) (w0 w : World) (x : OpI) (pe : Rf) (g kb vb cb lb : Nat) (V : ValsL) (C : KidsL) : Prop where
 bg : Blk w g 100 #[.map (some kb),.map (some vb),.map (some cb),.map (some lb)]
 bo : Blk w q 88 #[.int .i64 x.1.k,.int .i64 x.1.on,.int .i64 x.1.oa,.string x.1.key,.int .i64 x.1.en,.int .i64 x.1.ea,.bool x.1.ins,.int .i64 x.1.vk,.int .i64 x.1.vn,.string x.1.vt,.int .i64 x.1.va,.int .i64 x.1.vb,.slice x.1.A x.1.l.length x.1.c]
 bi : Blk w (q+1) 24 #[.int .i64 x.2.1,.int .i64 x.2.2]
 bw : Blk w (q+2) 126 #[.int .i64 x.1.on,.int .i64 x.1.oa,.string x.1.key,.int .i64 pe.1,.int .i64 pe.2]
 nq : ∀ k∈allB g kb vb cb lb V C,k < q∨q+3≤k
 low : ∀ k∈allB g kb vb cb lb V C,B≤k
 bel : Below B w0 w
 hB : B≤w.heap.size
 nm : ∀ k∈allB g kb vb cb lb V C,k < q→k∈M
 chg : Chg (fun k=>k∈M) w0 w
 h0 : w0.heap.size≤q
section
variable {B q : Nat} {M : List Nat} {w0 w w' : World} {x : OpI} {pe : Rf} {g kb vb cb lb : Nat} {KL KL' : StK} {V V' : ValsL} {C C' : KidsL} {LL LL' : LisL}
theorem DoT.of (h : DoM B q M w0 w x pe g kb vb cb lb KL V C LL) {b : Nat} (hb : b∈allB g kb vb cb lb V C) (ht : w.mapTurned w' b) : DoT B q M w0 w' x pe g kb vb cb lb V C:=by
 have h1:=h.nq b hb
 have hg : g≠b:=fun e=>by
  obtain ⟨es,c,es',c',h2,-⟩:=ht
  have h3:=h.sg.blk
  unfold Blk at h3
  rw [e,h2] at h3
  cases h3
 exact ⟨h.sg.blk.keep (turned_keep ht h.sg.blk.lt hg),h.bo.keep (turned_keep ht h.bo.lt (by omega)),h.bi.keep (turned_keep ht h.bi.lt (by omega)),h.bw.keep (turned_keep ht h.bw.lt (by omega)),h.nq,h.sg.low,
  h.bel.grown ht.grown h.hB (fun j hj=>by cases hj;exact h.sg.low _ hb),(by rw [turned_size ht];exact h.hB),h.nm,h.chg.grown ht.grown (fun j hj=>by
   cases hj
   have:=h.h0
   rcases h1 with h2 | h2
   · exact .inl (h.nm _ hb h2)
   · exact .inr (by omega)),h.h0⟩
theorem DoT.hq (h : DoT B q M w0 w x pe g kb vb cb lb V C) : q+3≤w.heap.size:=h.bw.lt
theorem DoT.alloc (h : DoT B q M w0 w x pe g kb vb cb lb V C) (o : Obj) : DoT B q M w0 (w.alloc o) x pe g kb vb cb lb V C:=by
 have hb : Below w.heap.size w (w.alloc o):=(Below.refl _ w).alloc (Nat.le_refl _) _
 exact ⟨h.bg.keep (hb.block _ h.bg.lt),h.bo.keep (hb.block _ h.bo.lt),h.bi.keep (hb.block _ h.bi.lt),h.bw.keep (hb.block _ h.bw.lt),h.nq,h.low,h.bel.alloc h.hB _,(by simp;have:=h.hB;omega),h.nm,h.chg.alloc _,h.h0⟩
theorem DoT.grown (h : DoT B q M w0 w x pe g kb vb cb lb V C) {row : Option Nat} (hg : w.grownBy w' row) (hr : ∀ k,row=some k→k∈allB g kb vb cb lb V C∧k≠g) : DoT B q M w0 w' x pe g kb vb cb lb V C:=by
 have hk : ∀ k,k < w.heap.size→(k=g∨q≤k∧k < q+3)→w'.heap[k]?=w.heap[k]?:=fun k h1 h2=>hg.block k h1 fun e=>by
  have h3:=hr k e.symm
  have h4:=h.nq k h3.1
  rcases h2 with h2 | h2
  · exact h3.2 h2
  · omega
 exact ⟨h.bg.keep (hk _ h.bg.lt (.inl rfl)),h.bo.keep (hk _ h.bo.lt (.inr (by omega))),h.bi.keep (hk _ h.bi.lt (.inr (by omega))),h.bw.keep (hk _ h.bw.lt (.inr (by omega))),h.nq,h.low,
  h.bel.grown hg h.hB (fun j hj=>h.low _ (hr j hj).1),Nat.le_trans h.hB hg.size,h.nm,h.chg.grown hg (fun j hj=>by
   have h3:=hr j hj
   have:=h.h0
   rcases h.nq j h3.1 with h2 | h2
   · exact .inl (h.nm _ h3.1 h2)
   · exact .inr (by omega)),h.h0⟩
theorem DoT.done (h : DoT B q M w0 w x pe g kb vb cb lb V C) {b N : Nat} (hb : b∈allB g kb vb cb lb V C) (ht : w.mapTurned w' b) (hS : SG B w' g kb vb cb lb KL V C' LL) (hn : ∀ k∈allB g kb vb cb lb V C',k∈allB g kb vb cb lb V C∨k=N) (hN : q+3≤N) : DoM B q M w0 w' x pe g kb vb cb lb KL V C' LL:=by
 have h1:=h.nq b hb
 refine ⟨hS,h.bo.keep (turned_keep ht h.bo.lt (by omega)),h.bi.keep (turned_keep ht h.bi.lt (by omega)),h.bw.keep (turned_keep ht h.bw.lt (by omega)),fun k hk=>?_,h.bel.grown ht.grown h.hB (fun j hj=>by cases hj;exact h.low _ hb),(by rw [turned_size ht];exact h.hB),(fun k hk hkq=>(hn k hk).elim (fun h2=>h.nm k h2 hkq) (fun h2=>by omega)),h.chg.grown ht.grown (fun j hj=>by
  cases hj
  have:=h.h0
  rcases h1 with h2 | h2
  · exact .inl (h.nm _ hb h2)
  · exact .inr (by omega)),h.h0⟩
 rcases hn k hk with h2 | h2
 · exact h.nq k h2
 · exact .inr (by omega)
end
/-! what the steps come to -/
theorem nodup_mid {α β : Type} {f : α→β} {l1 l2 : List α} {a : α} (h : ((l1++a::l2).map f).Nodup) : (∀ x∈l1,f x≠f a)∧(∀ x∈l2,f x≠f a):=by
 simp only [List.map_append,List.map_cons,List.nodup_append,List.nodup_cons,List.mem_map,not_exists,not_and,List.mem_cons] at h
 exact ⟨fun x hx e1=>h.2.2 _ ⟨x,hx,rfl⟩ _ (.inl rfl) e1,fun x hx e1=>h.2.1.1 x hx e1⟩
theorem setV_mid {S1 S2 : StV} {p : Wh} {E0 E : List (Rf × VD)} (h1 : ∀ e∈S1,e.1≠p) (h2 : ∀ e∈S2,e.1≠p) : setV (S1++(p,E0)::S2) p E=S1++(p,E)::S2:=by
 unfold setV
 rw [List.map_append,List.map_cons,if_pos rfl]
 have g1 : S1.map (fun e=>if e.1=p then (e.1,E) else e)=S1:=by
  conv=>rhs;rw [← List.map_id S1]
  exact List.map_congr_left fun e he=>by rw [if_neg (h1 e he)];rfl
 have g2 : S2.map (fun e=>if e.1=p then (e.1,E) else e)=S2:=by
  conv=>rhs;rw [← List.map_id S2]
  exact List.map_congr_left fun e he=>by rw [if_neg (h2 e he)];rfl
 rw [g1,g2]
theorem getPl_mid {S1 S2 : StV} {p : Wh} {E0 : List (Rf × VD)} (h1 : ∀ e∈S1,e.1≠p) : getPl (S1++(p,E0)::S2) p=E0:=by
 unfold getPl
 have hn : S1.find? (fun e=>decide (e.1=p))=none:=List.find?_eq_none.2 fun e he=>by simpa using h1 e he
 rw [List.find?_append,hn]
 simp
theorem newV_do {K : List OpI} {x : OpI} {V1 V2 : ValsL} {b : Nat} {E0 : List (Rf × VD)} (h : (V1++(wh1 x,b,E0)::V2).map (fun x=>(x.1,x.2.2))=touchV (newV K) (wh1 x)) (hn : ((V1++(wh1 x,b,E0)::V2).map Prod.fst).Nodup) :
 (V1++(wh1 x,b,doE x E0)::V2).map (fun x=>(x.1,x.2.2))=newV (K++[x]):=by
 obtain ⟨n1,n2⟩:=nodup_mid hn
 have g1 : ∀ e∈V1.map (fun x=>(x.1,x.2.2)),e.1≠wh1 x:=fun e he=>by obtain ⟨y,hy,rfl⟩:=List.mem_map.1 he;exact n1 y hy
 have g2 : ∀ e∈V2.map (fun x=>(x.1,x.2.2)),e.1≠wh1 x:=fun e he=>by obtain ⟨y,hy,rfl⟩:=List.mem_map.1 he;exact n2 y hy
 have e1 : newV (K++[x])=setV (touchV (newV K) (wh1 x)) (wh1 x) (doE x (getPl (newV K) (wh1 x))):=by
  unfold newV
  rw [List.foldl_append]
  rfl
 rw [e1,← getPl_touch (newV K) (wh1 x) (wh1 x),← h,List.map_append,List.map_cons,List.map_append,List.map_cons,setV_mid g1 g2,getPl_mid g1]
theorem newC_do (K : List OpI) (x : OpI) : newC (K++[x])=if x.1.ins=true then putKi (newC K) (wh0 x) x.2 else newC K:=by
 unfold newC
 rw [List.foldl_append]
 rfl
theorem insL_do (K : List OpI) (x : OpI) : insL (K++[x])=if x.1.ins=true then insL K++[(x.2,objP x)] else insL K:=by
 unfold insL
 rw [List.filter_append]
 by_cases h : x.1.ins=true
 · rw [if_pos h,List.filter_cons_of_pos (by simpa using h)];simp
 · rw [if_neg h,List.filter_cons_of_neg (by simpa using h)];simp
/-! how long -/
theorem touchV_len (S : StV) (w : Wh) : (touchV S w).length≤S.length+1:=by unfold touchV;split <;> simp
theorem setV_len (S : StV) (w : Wh) (E : List (Rf × VD)) : (setV S w E).length=S.length:=by unfold setV;simp
theorem predE_len (x : OpI) (p : Rf) (E : List (Rf × VD)) : (predE x E p).length≤E.length:=by
 unfold predE
 split
 · simp
 · exact List.length_filter_le _ _
theorem predsE_len (x : OpI) : ∀ (l : List Rf) (E : List (Rf × VD)),(l.foldl (predE x) E).length≤E.length
 | [],E=>Nat.le_refl _
 | p::l,E=>by rw [List.foldl_cons];exact Nat.le_trans (predsE_len x l _) (predE_len x p E)
theorem predE_ids (x : OpI) (p : Rf) (E : List (Rf × VD)) : ∀ e∈predE x E p,e.1∈E.map Prod.fst:=by
 intro e he
 unfold predE at he
 split at he
 · obtain ⟨y,hy,rfl⟩:=List.mem_map.1 he
   have : (if y.1=p then (y.1,y.2.add x.1.vn) else y).1=y.1:=by split <;> rfl
   rw [this]
   exact List.mem_map_of_mem hy
 · exact List.mem_map_of_mem (List.mem_filter.1 he).1
theorem predsE_ids (x : OpI) : ∀ (l : List Rf) (E : List (Rf × VD)),∀ e∈l.foldl (predE x) E,e.1∈E.map Prod.fst
 | [],E=>fun e he=>List.mem_map_of_mem he
 | p::l,E=>fun e he=>by
   rw [List.foldl_cons] at he
   have h1:=predsE_ids x l _ e he
   obtain ⟨y,hy,e1⟩:=List.mem_map.1 h1
   rw [← e1]
   exact predE_ids x p E y hy
theorem doE_len (x : OpI) (E : List (Rf × VD)) : (doE x E).length≤E.length+1:=by
 unfold doE lastE
 have:=predsE_len x x.1.l E
 split
 · simp;omega
 · omega
theorem doE_ids (x : OpI) (E : List (Rf × VD)) : ∀ e∈doE x E,e.1=x.2∨e.1∈E.map Prod.fst:=by
 intro e he
 unfold doE lastE at he
 split at he
 · rcases List.mem_append.1 he with he | he
   · exact .inr (predsE_ids x _ E e he)
   · rw [List.mem_singleton.1 he];exact .inl rfl
 · exact .inr (predsE_ids x _ E e he)
theorem touchV_sub {S : StV} {w : Wh} {e : Wh × List (Rf × VD)} (h : e∈touchV S w) : e∈S∨e=(w,[]):=by
 unfold touchV at h
 split at h
 · exact .inl h
 · rcases List.mem_append.1 h with h | h
   · exact .inl h
   · exact .inr (List.mem_singleton.1 h)
theorem getPl_mem (S : StV) (w : Wh) : getPl S w=[]∨∃ e∈S,getPl S w=e.2:=by
 unfold getPl
 cases hf : S.find? (fun e=>decide (e.1=w)) with
 | none=>exact .inl rfl
 | some e=>exact .inr ⟨e,List.mem_of_find?_eq_some hf,rfl⟩
structure NewVB (S : StV) (K : List OpI) : Prop where
 len : S.length≤K.length
 each : ∀ e∈S,e.2.length≤K.length
 ids : ∀ e∈S,∀ y∈e.2,y.1∈K.map Prod.snd
theorem newV_b (K : List OpI) : NewVB (newV K) K:=by
 suffices h : ∀ (l P : List OpI) (S : StV),NewVB S P→NewVB (l.foldl doV S) (P++l) by
  have:=h K [] [] ⟨by simp,by simp,by simp⟩
  simpa [newV] using this
 intro l
 induction l with
 | nil=>intro P S h;simpa using h
 | cons x l ih =>
   intro P S h
   rw [List.foldl_cons,show P++x::l=(P++[x])++l from by simp]
   refine ih _ _ ⟨?_,fun e he=>?_,fun e he y hy=>?_⟩
   · unfold doV
     rw [setV_len]
     have:=touchV_len S (wh1 x)
     have:=h.len
     simp;omega
   all_goals
    unfold doV setV at he
    obtain ⟨d,hd,rfl⟩:=List.mem_map.1 he
    simp only [List.length_append,List.length_singleton,List.map_append,List.map_cons,List.map_nil,List.mem_append,List.mem_singleton]
   · split
     · have h1:=doE_len x (getPl S (wh1 x))
       have h2 : (getPl S (wh1 x)).length≤P.length:=by
        rcases getPl_mem S (wh1 x) with e1 | ⟨e,he,e1⟩
        · rw [e1];simp
        · rw [e1];exact h.each e he
       simp only;omega
     · rcases touchV_sub hd with h1 | rfl
       · have:=h.each d h1;omega
       · simp
   · split at hy
     · rcases doE_ids x _ y hy with h1 | h1
       · exact .inr h1
       · rcases getPl_mem S (wh1 x) with e1 | ⟨e,he,e1⟩
         · rw [e1] at h1;cases h1
         · rw [e1] at h1
           obtain ⟨z,hz,e2⟩:=List.mem_map.1 h1
           exact .inl (e2▸h.ids e he z hz)
     · rcases touchV_sub hd with h1 | rfl
       · exact .inl (h.ids d h1 y hy)
       · cases hy
theorem newC_len (K : List OpI) : (newC K).length≤K.length∧∀ e∈newC K,e.2.length≤K.length:=by
 suffices h : ∀ (l : List OpI) (P : Nat) (S : StC),(S.length≤P∧∀ e∈S,e.2.length≤P)→((l.foldl doC S).length≤P+l.length∧∀ e∈l.foldl doC S,e.2.length≤P+l.length) by
  have:=h K 0 [] ⟨by simp,by simp⟩
  simpa [newC] using this
 intro l
 induction l with
 | nil=>intro P S h;simpa using h
 | cons x l ih =>
   intro P S h
   rw [List.foldl_cons,List.length_cons,show P+(l.length+1)=(P+1)+l.length from by omega]
   refine ih _ _ ?_
   unfold doC
   split
   · unfold putKi
     split
     · refine ⟨by simp;omega,fun e he=>?_⟩
       obtain ⟨d,hd,rfl⟩:=List.mem_map.1 he
       have:=h.2 d hd
       split <;> simp <;> omega
     · refine ⟨by simp;omega,fun e he=>?_⟩
       rcases List.mem_append.1 he with he | he
       · have:=h.2 e he;omega
       · rw [List.mem_singleton.1 he];simp
   · exact ⟨by omega,fun e he=>by have:=h.2 e he;omega⟩
theorem allB_snoc {g kb vb cb lb b q : Nat} {V : ValsL} {C : KidsL} {p : Wh} {E : List (Rf × VD)} {k : Nat} (h : k∈allB g kb vb cb lb (V++[(p,b,E)]) C) (hb : q≤b) : k∈allB g kb vb cb lb V C∨q≤k:=by
 rcases mem_allB.1 h with e2 | e2 | e2 | e2 | e2 | ⟨x,hx,e2⟩ | e2
 · exact .inl (mem_allB.2 (.inl e2))
 · exact .inl (mem_allB.2 (.inr (.inl e2)))
 · exact .inl (mem_allB.2 (.inr (.inr (.inl e2))))
 · exact .inl (mem_allB.2 (.inr (.inr (.inr (.inl e2)))))
 · exact .inl (mem_allB.2 (.inr (.inr (.inr (.inr (.inl e2))))))
 · rcases List.mem_append.1 hx with hx | hx
   · exact .inl (mem_allB.2 (.inr (.inr (.inr (.inr (.inr (.inl ⟨x,hx,e2⟩)))))))
   · rw [List.mem_singleton.1 hx] at e2
     exact .inr (by simp only at e2;omega)
 · exact .inl (mem_allB.2 (.inr (.inr (.inr (.inr (.inr (.inr e2)))))))
theorem allB_mid {g kb vb cb lb b : Nat} {V1 V2 : ValsL} {C : KidsL} {p : Wh} {E : List (Rf × VD)} : b∈allB g kb vb cb lb (V1++(p,b,E)::V2) C:=mem_allB.2 (.inr (.inr (.inr (.inr (.inr (.inl ⟨(p,b,E),by simp,rfl⟩))))))
theorem allB_same {g kb vb cb lb b : Nat} {V1 V2 : ValsL} {C : KidsL} {p : Wh} {E E' : List (Rf × VD)} {k : Nat} (h : k∈allB g kb vb cb lb (V1++(p,b,E')::V2) C) : k∈allB g kb vb cb lb (V1++(p,b,E)::V2) C:=by
 have he : (V1++(p,b,E')::V2).map (fun x=>x.2.1)=(V1++(p,b,E)::V2).map (fun x=>x.2.1):=by simp
 unfold allB at h ⊢
 rw [← he]
 exact h
theorem elem64 {x : OpI} (h1 : I64R x.2) (h2 : I64R (elP x)) : I64R (elemP x):=by
 unfold elemP
 split
 · exact h1
 · exact h2
theorem insL_new {K : List OpI} {n : Rf} (h : n∉K.map Prod.snd) : ∀ e∈insL K,e.1≠n:=fun e he e1=>by
 unfold insL at he
 obtain ⟨y,hy,rfl⟩:=List.mem_map.1 he
 exact h (e1▸List.mem_map_of_mem (List.mem_filter.1 hy).1)
theorem insL_len (K : List OpI) : (insL K).length≤K.length:=by
 unfold insL
 rw [List.length_map]
 exact List.length_filter_le _ _
theorem newK_new {K : List OpI} {n : Rf} (h : n∉K.map Prod.snd) (h0 : n≠(0,0)) : ∀ e∈newK K,e.1≠n:=fun e he e1=>by
 rcases newK_keys he with h1 | h1
 · exact h0 (e1▸h1)
 · exact h (e1▸h1)
theorem newK_len (K : List OpI) : (newK K).length≤K.length+1:=by
 unfold newK
 rw [List.length_cons,List.length_map]
 have:=List.length_filter_le (fun x : OpI=>decide (x.1.k=2)) K
 omega
theorem start_E {K : List OpI} {n : Rf} {V1 V2 : ValsL} {p : Wh} {b : Nat} {E : List (Rf × VD)} (h : (V1++(p,b,E)::V2).map (fun x=>(x.1,x.2.2))=touchV (newV K) p) (hn : n∉K.map Prod.snd) : E.length≤K.length∧∀ e∈E,e.1≠n:=by
 have hm : (p,E)∈touchV (newV K) p:=by rw [← h];exact List.mem_map.2 ⟨(p,b,E),by simp,rfl⟩
 have hb:=newV_b K
 rcases touchV_sub hm with h1 | h1
 · exact ⟨hb.each _ h1,fun e he e1=>hn (e1▸hb.ids _ h1 e he)⟩
 · cases h1
   exact ⟨by simp,fun e he=>by cases he⟩
theorem DoM.fin {B q : Nat} {M : List Nat} {w0 w : World} {x : OpI} {pe : Rf} {g kb vb cb lb b : Nat} {K : List OpI} {V1 V2 : ValsL} {C : KidsL} {E0 : List (Rf × VD)} (h : DoM B q M w0 w x pe g kb vb cb lb (newK (K++[x])) (V1++(wh1 x,b,doE x E0)::V2) C (insL (K++[x])))
 (hV : (V1++(wh1 x,b,E0)::V2).map (fun x=>(x.1,x.2.2))=touchV (newV K) (wh1 x)) (hC : C.map (fun y=>(y.1,y.2.2))=newC (K++[x])) : SMem B w g kb vb cb lb (K++[x]) (V1++(wh1 x,b,doE x E0)::V2) C∧Below B w0 w∧Chg (fun k=>k∈M) w0 w:=by
 have hn:=h.sg.places
 exact ⟨h.sg.smem (newV_do hV (by simpa using hn)) hC,h.bel,h.chg⟩
end Go.Proofs.YtmpkejflgpodkaaGreatDoor
namespace Go.Proofs.YtmpkejflgpodkaaGreatDoor
open Go.RowKit
theorem Bk.of_base {M : List ChD} (h : Bk M) : ∀ {L : List ChD},L.map ChD.base=M.map ChD.base→Bk L:=by
 induction h with
 | nil =>
   intro L e
   rw [List.map_nil,List.map_eq_nil_iff] at e
   subst e
   exact .nil
 | snoc hb he hw hn hr hf ih =>
   rename_i M c
   intro L e
   rcases List.eq_nil_or_concat L with rfl | ⟨L',c',rfl⟩
   · simp at e
   · rw [List.concat_eq_append] at e ⊢
     rw [List.map_append,List.map_append] at e
     obtain ⟨e1,e2⟩:=List.append_inj' e rfl
     simp only [List.map_cons,List.map_nil,List.cons.injEq,and_true] at e2
     have hrefs : refsOf L'=refsOf M:=by rw [← refs_base L',← refs_base M,e1]
     have hrf : c'.rf=c.rf:=by rw [← base_rf c',← base_rf c,e2]
     refine .snoc (ih e1) ?_ ?_ ?_ ?_ ?_
     · rw [← base_err,e2,base_err];exact he
     · intro o ho
       have h1 : Go.Proofs.YtmpkejflgpodkaaGreatDoor.base o∈c'.base.ops:=List.mem_map_of_mem ho
       rw [e2] at h1
       obtain ⟨o2,ho2,e3⟩:=List.mem_map.1 h1
       have h4 : (Go.Proofs.YtmpkejflgpodkaaGreatDoor.base o2).vn=(Go.Proofs.YtmpkejflgpodkaaGreatDoor.base o).vn:=by rw [e3]
       have h4 : o2.vn=o.vn:=h4
       rw [← h4]
       exact hw o2 ho2
     · rw [hrf,hrefs];exact hn
     · rw [← ready_base,e1,e2,ready_base];exact hr
     · rw [← fits_base,e1,e2,fits_base];exact hf
theorem opE_sizes {o : OpD} (h : opE' o=0) : o.key.size≤20∧o.l.length≤12∧o.k≤4:=by
 unfold opE' opE at h
 obtain ⟨h1,h⟩:=ite_zero h (by omega)
 obtain ⟨h2,h⟩:=ite_zero h (by omega)
 obtain ⟨h3,h⟩:=ite_zero h (by omega)
 by_cases h4 : idsE o.l≠0
 · rw [if_pos h4] at h;exact absurd h h4
 · refine ⟨by omega,?_,by omega⟩
   simp only [ne_eq,Decidable.not_not] at h4
   unfold idsE at h4
   obtain ⟨h5,_⟩:=ite_zero h4 (by omega)
   omega
theorem opsI_len' (c : ChD) : c.opsI.length=c.ops.length:=by
 unfold ChD.opsI
 generalize c.st=st
 generalize c.ops=l
 induction l generalizing st with
 | nil=>rfl
 | cons o l ih=>rw [idsFrom,List.length_cons,List.length_cons,ih]
theorem Bk.lenOps {L : List ChD} (h : Bk L) : (allOps L).length≤40*L.length:=by
 have hk : ∀ c∈L,c.ops.length≤40:=fun c hc=>(err_ok (h.err c hc).1).2.2.1
 clear h
 induction L with
 | nil=>simp [allOps]
 | cons c L ih =>
   have h1:=hk c (List.mem_cons_self ..)
   have h2:=ih fun d hd=>hk d (List.mem_cons_of_mem _ hd)
   have h3 : allOps (c::L)=c.opsI++allOps L:=by simp [allOps]
   rw [h3,List.length_append,opsI_len',List.length_cons]
   omega
end Go.Proofs.YtmpkejflgpodkaaGreatDoor
namespace Go.Proofs.YtmpkejflgpodkaaGreatDoor
open Go.ChangeShapes Go.WideShapes Go.ChangeAt Go.RowKit
set_option maxHeartbeats 4000000 in
set_option maxRecDepth 20000 in
theorem sKind_any (K : List OpI) (o1 o2 : Int) (A : Option Addr) (c : Nat) (w : World) (hr : Reads (fun k=>k < w.heap.size) w 15 A K.length (opsIC K)) (hl : K.length≤100000) :
 Calls Tryz.prog 8 #[.agg #[.slice A K.length c],.agg #[.int .i64 o1,.int .i64 o2]] w fun e w'=>e=.returned (.int .i64 (kindJ K (o1,o2)))∧Below w.heap.size w w':=by
 obtain ⟨n,hn⟩ : ∃ n,K.length=n:=⟨_,rfl⟩
 have HN:=Lib.hid hn
 have hb1 : Below w.heap.size w (w.alloc (.cells #[.slice A n c] 31)):=(Below.refl _ w).alloc (Nat.le_refl _) _
 have h1:=Blk.new w 31 #[.slice A n c]
 have hb2 : Below w.heap.size w ((w.alloc (.cells #[.slice A n c] 31)).alloc (.cells #[.int .i64 o1,.int .i64 o2] 24)):=hb1.alloc hb1.size _
 have h2:=Blk.new (w.alloc (.cells #[.slice A n c] 31)) 24 #[.int .i64 o1,.int .i64 o2]
 have H1:=Lib.hid (h1.keep (Below.heap_alloc _ (.cells #[.int .i64 o1,.int .i64 o2] 24) _ h1.lt))
 have H2:=Lib.hid h2
 have HB:=Lib.hid hb2
 have HR:=Lib.hid (reads_below hr hb2)
 rw [World.size_alloc] at H2
 rw [hn] at hl HR ⊢
 clear hr hb1 hb2 h1 h2 hn
 go_enter Tryz.func8,Tryz.ntmps8
 go_upto_region 1 with fail
 generalize (w.alloc (.cells #[.slice A n c] 31)).alloc (.cells #[.int .i64 o1,.int .i64 o2] 24)=w1 at H1 H2 HB HR ⊢
 obtain ⟨B,hB⟩ : ∃ B,w.heap.size=B:=⟨_,rfl⟩
 have HBB:=Lib.hid hB
 rw [hB] at H1 H2 HB ⊢
 clear hB
 have p1 : w1.cell? ⟨B+1,0,none⟩=some (.int .i64 o1):=H2.out.cell 0
 have p2 : w1.cell? ⟨B+1,1,none⟩=some (.int .i64 o2):=H2.out.cell 1
 have C1:=refRoot_any o1 o2 w1
 obtain ⟨rb,hrb⟩ : ∃ b,rootB o1 o2=b:=⟨_,rfl⟩
 have hrd : rb=decide (((o1,o2) : Rf)=(0,0)):=by rw [← hrb,dec_pair];rfl
 have HRD:=Lib.hid hrd
 rw [hrb] at C1
 clear hrb hrd
 go_wp2_with fail
 go_at_call 30
 refine C1.mono ?_
 rintro e w2 ⟨rfl,hb⟩
 have H1b:=Lib.hid (H1.out.keep (hb.block _ H1.out.lt))
 have H2b:=Lib.hid (H2.out.keep (hb.block _ H2.out.lt))
 have HB2 : Hid (Below B w w2):=HB.out.trans (hb.mono (by rw [← HBB.out];exact HB.out.size))
 have HR2:=Lib.hid (reads_below HR.out hb)
 clear C1 hb p1 p2 H1 H2 HB HR
 cases rb with
 | true =>
   have HK : Hid (kindJ K (o1,o2)=5):=by show _=_;unfold kindJ;rw [if_pos (of_decide_eq_true HRD.out.symm)]
   go_wp2_with fail
   go_ret
   exact ⟨by rw [HK.out];rfl,by rw [HBB.out];exact HB2.out⟩
 | false =>
   have HNR : Hid (¬ ((o1,o2) : Rf)=(0,0)):=of_decide_eq_false HRD.out.symm
   have p0 : w2.cell? ⟨B,0,none⟩=some (.slice A n c):=H1b.out.cell 0
   have p1 : w2.cell? ⟨B+1,0,none⟩=some (.int .i64 o1):=H2b.out.cell 0
   have p2 : w2.cell? ⟨B+1,1,none⟩=some (.int .i64 o2):=H2b.out.cell 1
   have C2:=slook_any K (o1,o2) (fun k=>k < w2.heap.size) A c w2 (by rw [HN.out];exact HR2.out) (fun _ h=>h) (by rw [HN.out];omega)
   rw [HN.out] at C2
   go_wp2_with fail
   go_at_call 31
   refine C2.mono ?_
   rintro e w3 ⟨i,rfl,hi,hb⟩
   have H1c:=Lib.hid (H1b.out.keep (hb.block _ H1b.out.lt))
   have HB3 : Hid (Below B w w3):=HB2.out.trans (hb.mono (by rw [← HBB.out];exact HB2.out.size))
   have HR3:=Lib.hid (reads_below HR2.out hb)
   clear C2 hb p0 p1 p2 H1b H2b HB2 HR2
   rcases hi with ⟨rfl,hno⟩ | ⟨kk,y,rfl,hy,hlk⟩
   · have HK : Hid (kindJ K (o1,o2)=0):=by show _=_;unfold kindJ;rw [if_neg HNR.out,hno]
     clear hno
     go_wp2_with fail
     go_ret
     exact ⟨by rw [HK.out];rfl,by rw [HBB.out];exact HB3.out⟩
   · have hK2:=HR3.out
     obtain ⟨b,o,hA,-,key⟩:=opi_cells hK2 HN.out hy
     subst hA
     have hkn : kk < n:=by rw [← HN.out];exact (List.getElem?_eq_some_iff.1 hy).1
     have p0 : w3.cell? ⟨B,0,none⟩=some (.slice (some ⟨b,o,none⟩) n c):=H1c.out.cell 0
     have d0 : w3.cell? ⟨b,o+kk*15,none⟩=some (.int .i64 y.1.k):=key 0 _ (by omega) rfl
     have d7 : w3.cell? ⟨b,o+kk*15+7,none⟩=some (.int .i64 y.1.vk):=key 7 _ (by omega) rfl
     have hk0 : decide ((kk : Int) < 0)=false:=decide_eq_false (by omega)
     clear key hK2
     by_cases h2 : y.1.k=2
     · have HK : Hid (kindJ K (o1,o2)=y.1.vk):=by show _=_;unfold kindJ;rw [if_neg HNR.out,hlk];simp only [h2,if_true]
       have e1 : (y.1.k != 2)=false:=by simp [h2]
       clear hlk hy h2
       go_wp2_with fail
       go_ret
       exact ⟨by rw [HK.out];rfl,by rw [HBB.out];exact HB3.out⟩
     · have HK : Hid (kindJ K (o1,o2)=0):=by show _=_;unfold kindJ;rw [if_neg HNR.out,hlk];simp only [h2,if_false]
       have e1 : (y.1.k != 2)=true:=by simp [h2]
       clear hlk hy h2
       go_wp2_with fail
       go_ret
       exact ⟨by rw [HK.out];rfl,by rw [HBB.out];exact HB3.out⟩
end Go.Proofs.YtmpkejflgpodkaaGreatDoor
namespace Go.Proofs.YtmpkejflgpodkaaGreatDoor
open Go.RowKit
theorem fall_eq {a b : List Rf} (ha : FallR a) (hb : FallR b) (h : ∀ r,r∈a↔r∈b) : a=b:=by
 have h1 : AscR a.reverse:=by unfold AscR;rw [List.pairwise_reverse];exact ha
 have h2 : AscR b.reverse:=by unfold AscR;rw [List.pairwise_reverse];exact hb
 obtain ⟨a1,a2⟩:=aheadR_asc h1
 obtain ⟨b1,b2⟩:=aheadR_asc h2
 have:=asc_eq a1 a2 b1 b2 fun r=>by rw [List.mem_reverse,List.mem_reverse,h r]
 exact List.reverse_inj.1 this
end Go.Proofs.YtmpkejflgpodkaaGreatDoor
