/- The program's state in memory, told by its four lists; one step of it at a time. -/
import Derived.Test.YtmpkejflgpodkaaGreatDoorP18
import Derived.Test.YtmpkejflgpodkaaGreatDoorP17
import Derived.Test.YtmpkejflgpodkaaGreatDoorP13
import Derived.Deep.DeepCutAuto
import Derived.Test.YtmpkejflgpodkaaGreatDoorP11
import Derived.Test.YtmpkejflgpodkaaGreatDoorP1
set_option maxHeartbeats 4000000
set_option maxRecDepth 20000
set_option linter.unusedVariables false
set_option linter.unusedSimpArgs false
namespace Go.Proofs.YtmpkejflgpodkaaGreatDoor
open Go.ChangeShapes Go.WideShapes Go.ChangeAt Go.RowKit
section
abbrev LisL:=List (Rf×Rf)
structure SG(B:Nat)(w:World)(g kb vb cb lb:Nat)(KL:StK)(V:dM)(C:dE)(LL:LisL):Prop where
 blk:Blk w g 100 #[.map (some kb),.map (some vb),.map (some cb),.map (some lb)]
 kinds:aI w 24 kb (KL.map fun e=>(bB e.1,.int .i64 e.2))
 vals:aI w 126 vb (V.map fun x=>(whV x.1,.map (some x.2.1)))
 each:∀x∈V,aI w 24 x.2.1 (x.2.2.map fun e=>(bB e.1,vlV e.2))
 kids:aI w 126 cb (C.map fun x=>(whV x.1,x.2.1))
 row:∀x∈C,w.ownsRow B 24 2 x.2.1 x.2.2.length (aE x.2.2)
 lists:aI w 24 lb (LL.map fun x=>(bB x.1,bB x.2))
 low:∀k∈dL g kb vb cb lb V C,B≤k
 apart:(dL g kb vb cb lb V C).Nodup
section
variable{B:Nat}{w w':World}{g kb vb cb lb:Nat}{K:List OpI}{KL:StK}{V:dM}{C:dE}{LL:LisL}
def iB(K:List OpI):LisL:=(K.filter fun x=>x.1.ins).map fun x=>(x.2,eG x)
theorem SMem.sg(h:SMem B w g kb vb cb lb K V C):SG B w g kb vb cb lb (fN K) V C (iB K) :=
 ⟨h.blk,h.kinds,h.vals,h.each,h.kids,h.row,by unfold iB;rw[vG];exact h.lists,h.low,h.apart⟩
theorem SG.smem(h:SG B w g kb vb cb lb (fN K) V C (iB K))(hV:V.map (fun x=>(x.1,x.2.2))=lA K)(hC:C.map (fun x=>(x.1,x.2.2))=lZ K):SMem B w g kb vb cb lb K V C :=
 ⟨h.blk,h.kinds,h.vals,h.each,hV,h.kids,h.row,hC,by have:=h.lists;unfold iB at this;rw[vG]at this;exact this,h.low,h.apart⟩
theorem fX{k:Nat}: k∈jI C↔∃x∈C,x.2.1.ownBlock=some k:=by unfold jI;rw[List.mem_filterMap]
structure Apart(g kb vb cb lb:Nat)(V:dM)(C:dE):Prop where
 gk:g≠kb
 gv:g≠vb
 gc:g≠cb
 gl:g≠lb
 kv:kb≠vb
 kc:kb≠cb
 kl:kb≠lb
 vc:vb≠cb
 vl:vb≠lb
 cl:cb≠lb
 vs:∀x∈V,x.2.1≠g∧x.2.1≠kb∧x.2.1≠vb∧x.2.1≠cb∧x.2.1≠lb
 rs:∀x∈C,∀k,x.2.1.ownBlock=some k→k≠g∧k≠kb∧k≠vb∧k≠cb∧k≠lb∧∀y∈V,y.2.1≠k
 vn:(V.map fun x=>x.2.1).Nodup
 rn:(jI C).Nodup
theorem rD:(dL g kb vb cb lb V C).Nodup↔Apart g kb vb cb lb V C:=by
 unfold dL;simp only[wQ,tN,sK,sI,sH,fX,not_or,not_exists,not_and,tQ];constructor
 ·rintro⟨⟨a1,a2,a3,a4,a5,a6⟩,⟨b1,b2,b3,b4,b5⟩,⟨c1,c2,c3,c4⟩,⟨d1,d2,d3⟩,⟨e1,e2⟩,f1,f2,f3⟩
  exact⟨a1,a2,a3,a4,b1,b2,b3,c1,c2,d1,fun x hx=>⟨a5 x hx,b4 x hx,c3 x hx,d2 x hx,e1 x hx⟩,
   fun x hx k hk=>⟨fun e=>a6 x hx (e▸hk),fun e=>b5 x hx (e▸hk),fun e=>c4 x hx (e▸hk),fun e=>d3 x hx (e▸hk),fun e=>e2 x hx (e▸hk),fun y hy e=>f3 _ ⟨y,hy,rfl⟩ _ ⟨x,hx,hk⟩ e⟩,f1,f2⟩
 ·intro h;refine⟨⟨h.gk,h.gv,h.gc,h.gl,fun x hx=>(h.vs x hx).1,fun x hx e=>(h.rs x hx _ e).1 rfl⟩,⟨h.kv,h.kc,h.kl,fun x hx=>(h.vs x hx).2.1,fun x hx e=>(h.rs x hx _ e).2.1 rfl⟩,
   ⟨h.vc,h.vl,fun x hx=>(h.vs x hx).2.2.1,fun x hx e=>(h.rs x hx _ e).2.2.1 rfl⟩,⟨h.cl,fun x hx=>(h.vs x hx).2.2.2.1,fun x hx e=>(h.rs x hx _ e).2.2.2.1 rfl⟩,⟨fun x hx=>(h.vs x hx).2.2.2.2,fun x hx e=>(h.rs x hx _ e).2.2.2.2.1 rfl⟩,h.vn,h.rn,?_⟩
  rintro _ ⟨y,hy,rfl⟩ k ⟨x,hx,hk⟩ e;exact(h.rs x hx k hk).2.2.2.2.2 y hy e
theorem SG.ap(h:SG B w g kb vb cb lb KL V C LL):Apart g kb vb cb lb V C:=rD.1 h.apart
theorem SG.lt(h:SG B w g kb vb cb lb KL V C LL):∀k∈dL g kb vb cb lb V C,k<w.heap.size:=by
 intro k hk;unfold dL at hk;simp only[wQ,sK,sI,sH,fX]at hk;rcases hk with rfl|rfl|rfl|rfl|rfl|⟨x,hx,rfl⟩|⟨x,hx,e⟩
 ·exact h.blk.lt
 ·exact h.kinds.lt
 ·exact h.vals.lt
 ·exact h.kids.lt
 ·exact h.lists.lt
 ·exact(h.each x hx).lt
 ·exact(aF (h.row x hx) e).2
theorem aN{k:Nat}: k∈dL g kb vb cb lb V C↔k=g∨k=kb∨k=vb∨k=cb∨k=lb∨(∃x∈V,x.2.1=k)∨∃x∈C,x.2.1.ownBlock=some k:=by
 unfold dL;simp only[wQ,sK,sI,sH,fX]
theorem SG.keep(h:SG B w g kb vb cb lb KL V C LL)(hk:∀k∈dL g kb vb cb lb V C,w'.heap[k]?=w.heap[k]?):SG B w' g kb vb cb lb KL V C LL :=
 ⟨h.blk.keep (hk _ (aN.2 (by simp))),h.kinds.keep (hk _ (aN.2 (by simp))),h.vals.keep (hk _ (aN.2 (by simp))),fun x hx=>(h.each x hx).keep (hk _ (aN.2 (.inr (.inr (.inr (.inr (.inr (.inl ⟨x,hx,rfl⟩)))))))),
  h.kids.keep (hk _ (aN.2 (by simp))),fun x hx=>aU (h.row x hx) fun k e=>hk _ (aN.2 (.inr (.inr (.inr (.inr (.inr (.inr ⟨x,hx,e⟩))))))),h.lists.keep (hk _ (aN.2 (by simp))),h.low,h.apart⟩
theorem SG.below(h:SG B w g kb vb cb lb KL V C LL)(hb:Below w.heap.size w w'):SG B w' g kb vb cb lb KL V C LL:=h.keep fun k hk=>hb.block k (h.lt k hk)
theorem SG.drew(h:SG B w g kb vb cb lb KL V C LL):SG B w.drew g kb vb cb lb KL V C LL:=h.keep fun _ _=>rfl
theorem SG.kinds_step(h:SG B w g kb vb cb lb KL V C LL)(hk:w.mapTurned w' kb){KL':StK}(hm:aI w' 24 kb (KL'.map fun e=>(bB e.1,.int .i64 e.2))):SG B w' g kb vb cb lb KL' V C LL:=by
 have a:=h.ap;have hb:∀k,k<w.heap.size→k≠kb→w'.heap[k]?=w.heap[k]?:=fun k hk1 hk2=>hk.grown.block k hk1 (fun e=>hk2 (by simpa using e))
 exact⟨h.blk.keep (hb _ h.blk.lt a.gk),hm,h.vals.keep (hb _ h.vals.lt a.kv.symm),fun x hx=>(h.each x hx).keep (hb _ (h.each x hx).lt (a.vs x hx).2.1),
  h.kids.keep (hb _ h.kids.lt a.kc.symm),fun x hx=>aU (h.row x hx) fun k e=>hb _ (aF (h.row x hx) e).2 (a.rs x hx k e).2.1,h.lists.keep (hb _ h.lists.lt a.kl.symm),h.low,h.apart⟩
theorem SG.lists_step(h:SG B w g kb vb cb lb KL V C LL)(hk:w.mapTurned w' lb){LL':LisL}(hm:aI w' 24 lb (LL'.map fun x=>(bB x.1,bB x.2))):SG B w' g kb vb cb lb KL V C LL':=by
 have a:=h.ap;have hb:∀k,k<w.heap.size→k≠lb→w'.heap[k]?=w.heap[k]?:=fun k hk1 hk2=>hk.grown.block k hk1 (fun e=>hk2 (by simpa using e))
 exact⟨h.blk.keep (hb _ h.blk.lt a.gl),h.kinds.keep (hb _ h.kinds.lt a.kl),h.vals.keep (hb _ h.vals.lt a.vl),fun x hx=>(h.each x hx).keep (hb _ (h.each x hx).lt (a.vs x hx).2.2.2.2),
  h.kids.keep (hb _ h.kids.lt a.cl),fun x hx=>aU (h.row x hx) fun k e=>hb _ (aF (h.row x hx) e).2 (a.rs x hx k e).2.2.2.2.1,hm,h.low,h.apart⟩
theorem SG.each_step{p:Wh}{b:Nat}{E E':List (Rf×VD)}{V1 V2:dM}(h:SG B w g kb vb cb lb KL (V1++(p,b,E)::V2) C LL)(hk:w.mapTurned w' b)(hm:aI w' 24 b (E'.map fun e=>(bB e.1,vlV e.2))):
 SG B w' g kb vb cb lb KL (V1++(p,b,E')::V2) C LL:=by
 have a:=h.ap;have hmem:(p,b,E)∈V1++(p,b,E)::V2:=by simp
 have hb:∀k,k<w.heap.size→k≠b→w'.heap[k]?=w.heap[k]?:=fun k hk1 hk2=>hk.grown.block k hk1 (fun e=>hk2 (by simpa using e))
 have av:=a.vs _ hmem;have he:(V1++(p,b,E')::V2).map (fun x=>x.2.1)=(V1++(p,b,E)::V2).map (fun x=>x.2.1):=by simp
 have he2:(V1++(p,b,E')::V2).map (fun x=>(whV x.1,Value.map (some x.2.1)))=(V1++(p,b,E)::V2).map (fun x=>(whV x.1,Value.map (some x.2.1))):=by simp
 have hall:dL g kb vb cb lb (V1++(p,b,E')::V2) C=dL g kb vb cb lb (V1++(p,b,E)::V2) C:=by unfold dL;rw[he]
 have hvn:=a.vn;simp only[sQ,sT,tQ,tN,sH,sK]at hvn;refine⟨h.blk.keep (hb _ h.blk.lt av.1.symm),h.kinds.keep (hb _ h.kinds.lt av.2.1.symm),by rw[he2];exact h.vals.keep (hb _ h.vals.lt av.2.2.1.symm),fun x hx=>?_,
  h.kids.keep (hb _ h.kids.lt av.2.2.2.1.symm),fun x hx=>aU (h.row x hx) fun k e=>hb _ (aF (h.row x hx) e).2 (fun e1=>(a.rs x hx k e).2.2.2.2.2 _ hmem e1.symm),h.lists.keep (hb _ h.lists.lt av.2.2.2.2.symm),by rw[hall];exact h.low,by rw[hall];exact h.apart⟩
 have hx':=hx;rcases sI.1 hx with hx|hx
 ·have hx2:x∈V1++(p,b,E)::V2:=tE _ hx;exact(h.each x hx2).keep (hb _ (h.each x hx2).lt (fun e=>hvn.2.2 _ ⟨x,hx,rfl⟩ _ (.inl rfl) e))
 ·rcases sK.1 hx with rfl|hx
  ·exact hm
  ·have hx2:x∈V1++(p,b,E)::V2:=tT _ (tS _ hx);exact(h.each x hx2).keep (hb _ (h.each x hx2).lt (fun e=>hvn.2.1.1 ⟨x,hx,e⟩))
theorem SG.touch_step{p:Wh}{b:Nat}(h:SG B w g kb vb cb lb KL V C LL)(hb0:B≤b)(hbn:b∉dL g kb vb cb lb V C)(hm0:aI w 24 b [])(hk:w.mapTurned w' vb)(hm:aI w' 126 vb (V.map (fun x=>(whV x.1,Value.map (some x.2.1)))++[(whV p,.map (some b))])):
 SG B w' g kb vb cb lb KL (V++[(p,b,[])]) C LL:=by
 have a:=h.ap;have hb:∀k,k<w.heap.size→k≠vb→w'.heap[k]?=w.heap[k]?:=fun k hk1 hk2=>hk.grown.block k hk1 (fun e=>hk2 (by simpa using e))
 rw[aN]at hbn;simp only[not_or,not_exists,not_and]at hbn;obtain⟨n1,n2,n3,n4,n5,n6,n7⟩:=hbn
 refine⟨h.blk.keep (hb _ h.blk.lt a.gv),h.kinds.keep (hb _ h.kinds.lt a.kv),by rw[sQ];exact hm,fun x hx=>?_,
  h.kids.keep (hb _ h.kids.lt a.vc.symm),fun x hx=>aU (h.row x hx) fun k e=>hb _ (aF (h.row x hx) e).2 (a.rs x hx k e).2.2.1,h.lists.keep (hb _ h.lists.lt a.vl.symm),fun k hk=>?_,rD.2 ⟨a.gk,a.gv,a.gc,a.gl,a.kv,a.kc,a.kl,a.vc,a.vl,a.cl,fun x hx=>?_,fun x hx k e=>?_,?_,a.rn⟩⟩
 ·rcases sI.1 hx with hx|hx
  ·exact(h.each x hx).keep (hb _ (h.each x hx).lt (a.vs x hx).2.2.1)
  ·rw[sN.1 hx];exact hm0.keep (hb _ hm0.lt n3)
 ·rcases aN.1 hk with e|e|e|e|e|⟨x,hx,e⟩|hk
  ·exact h.low _ (aN.2 (.inl e))
  ·exact h.low _ (aN.2 (.inr (.inl e)))
  ·exact h.low _ (aN.2 (.inr (.inr (.inl e))))
  ·exact h.low _ (aN.2 (.inr (.inr (.inr (.inl e)))))
  ·exact h.low _ (aN.2 (.inr (.inr (.inr (.inr (.inl e))))))
  ·rcases sI.1 hx with hx|hx
   ·exact h.low _ (aN.2 (.inr (.inr (.inr (.inr (.inr (.inl ⟨x,hx,e⟩)))))))
   ·rw[sN.1 hx]at e;rw[←e];exact hb0
  ·exact h.low _ (aN.2 (.inr (.inr (.inr (.inr (.inr (.inr hk)))))))
 ·rcases sI.1 hx with hx|hx
  ·exact a.vs x hx
  ·rw[sN.1 hx];exact⟨n1,n2,n3,n4,n5⟩
 ·obtain⟨r1,r2,r3,r4,r5,r6⟩:=a.rs x hx k e
  refine⟨r1,r2,r3,r4,r5,fun y hy=>?_⟩
  rcases sI.1 hy with hy|hy
  ·exact r6 y hy
  ·rw[sN.1 hy];intro e2;exact n7 x hx (by rw[e,←e2])
 ·rw[sQ,tQ];refine⟨a.vn,by simp,fun x hx y hy e=>?_⟩
  obtain⟨z,hz,rfl⟩:=sH.1 hx
  simp only[sT,vM,sN]at hy;exact n6 z hz (e.trans hy)
theorem SG.kids_step{C':dE}(h:SG B w g kb vb cb lb KL V C LL)(hk:∀k∈g::kb::vb::lb::V.map (fun x=>x.2.1),w'.heap[k]?=w.heap[k]?)(hm:aI w' 126 cb (C'.map fun x=>(whV x.1,x.2.1)))
 (hr:∀x∈C',w'.ownsRow B 24 2 x.2.1 x.2.2.length (aE x.2.2)) (hn:(jI C').Nodup) (ha:∀k∈jI C',k∉g::kb::vb::cb::lb::V.map (fun x=>x.2.1)) :
 SG B w' g kb vb cb lb KL V C' LL:=by
 have a:=h.ap;simp only[sK,sH,not_or,not_exists,not_and]at hk ha;refine⟨h.blk.keep (hk _ (by simp)),h.kinds.keep (hk _ (by simp)),h.vals.keep (hk _ (by simp)),fun x hx=>(h.each x hx).keep (hk _ (.inr (.inr (.inr (.inr ⟨x,hx,rfl⟩))))),
  hm,hr,h.lists.keep (hk _ (by simp)),fun k hk=>?_,rD.2 ⟨a.gk,a.gv,a.gc,a.gl,a.kv,a.kc,a.kl,a.vc,a.vl,a.cl,a.vs,fun x hx k e=>?_,a.vn,hn⟩⟩
 ·rcases aN.1 hk with e|e|e|e|e|hk|⟨x,hx,e⟩
  ·exact h.low _ (aN.2 (.inl e))
  ·exact h.low _ (aN.2 (.inr (.inl e)))
  ·exact h.low _ (aN.2 (.inr (.inr (.inl e))))
  ·exact h.low _ (aN.2 (.inr (.inr (.inr (.inl e)))))
  ·exact h.low _ (aN.2 (.inr (.inr (.inr (.inr (.inl e))))))
  ·exact h.low _ (aN.2 (.inr (.inr (.inr (.inr (.inr (.inl hk)))))))
  ·exact(aF (hr x hx) e).1
 ·obtain⟨r1,r2,r3,r4,r5,r6⟩:=ha k (fX.2 ⟨x,hx,e⟩)
  exact⟨r1,r2,r3,r4,r5,fun y hy e=>r6 y hy e⟩
end
end
section
theorem eX(w:World):(zeroValue 132).run Tryz.prog w=.ok (.map none) w:=by kernel_rfl
theorem zero_val(w:World):(zeroValue 50).run Tryz.prog w=.ok (.agg #[.int .i64 0,.int .i64 0,.string ⟨#[]⟩,.int .i64 0,.int .i64 0]) w:=by kernel_rfl
section
variable{P:Program}{w:World}{ops:Array Oper}{o:Oper}{a:Act}{K:Act→World→Prop}{Q:Exit→Act→World→Prop}{E:Prop}
theorem step_entry(hgd:o.guard=none)(m x:Operand)(t:TypeId)(ho:o.op=.mapEntry t m x)(mv key:Value)(hm:a.eval m=mv)(hx:a.eval x=key)(R:Value→World→Prop)
 (hr:∃v' w',(Instr.mapEntry t mv key).run P w=.ok v' w'∧R v' w') (h:∀v' w',R v' w'→K (a.put o.dst v') w') :
 if Region.wanted o (yielded ops a.tmps)=true then Oper.wp P o a w K Q else E:=by
 have hw:Region.wanted o (yielded ops a.tmps)=true:=by simp[Region.wanted,hgd]
 rw[if_pos hw];obtain⟨v',w',hrun,hR⟩:=hr
 unfold Oper.wp execOp;simp only[ho,xG,Sem.run_pure,xT,hm,hx,hrun];exact h v' w' hR
theorem step_entryStore(hgd:o.guard=none)(m s x:Operand)(t:TypeId)(ho:o.op=.entryStore t m s x)(mv sv v:Value)(hm:a.eval m=mv)(hs:a.eval s=sv)(hx:a.eval x=v)(R:World→Prop)
 (hr:∃w',(Instr.entryStore t mv sv v).run P w=.ok () w'∧R w') (h:∀w',R w'→K (a.put o.dst undef) w') :
 if Region.wanted o (yielded ops a.tmps)=true then Oper.wp P o a w K Q else E:=by
 have hw:Region.wanted o (yielded ops a.tmps)=true:=by simp[Region.wanted,hgd]
 rw[if_pos hw];obtain⟨w',hrun,hR⟩:=hr
 unfold Oper.wp execOp;simp only[ho,xG,Sem.run_pure,xT,hm,hs,hx,hrun];exact h w' hR
end
section
variable{B:Nat}{w w':World}{g kb vb cb lb:Nat}{K:List OpI}{KL:StK}{V:dM}{C:dE}{LL:LisL}
theorem SG.places(h:SG B w g kb vb cb lb KL V C LL):(V.map Prod.fst).Nodup:=by
 have h1:=h.vals.apart;rw[uU]at h1;rw[List.Nodup,uU];exact h1.imp fun {a b} hab e=>hab (by show whV a.1=whV b.1;rw[e])
theorem SG.rows(h:SG B w g kb vb cb lb KL V C LL):(C.map Prod.fst).Nodup:=by
 have h1:=h.kids.apart;rw[uU]at h1;rw[List.Nodup,uU];exact h1.imp fun {a b} hab e=>hab (by show whV a.1=whV b.1;rw[e])
theorem SG.ids(h:SG B w g kb vb cb lb KL V C LL){x:Wh×Nat×List (Rf×VD)}(hx:x∈V):(x.2.2.map Prod.fst).Nodup:=by
 have h1:=(h.each x hx).apart;rw[uU]at h1;rw[List.Nodup,uU];exact h1.imp fun {a b} hab e=>hab (by show bB a.1=bB b.1;rw[e])
theorem SG.vals_look(h:SG B w g kb vb cb lb KL V C LL){p:Wh}(h1:I64R p.1)(h2:I64R p.2.2)(h3:p.2.1.size≤maxLen):
 (∃V1 b E V2,V=V1++(p,b,E)::V2∧∀U,SG B U g kb vb cb lb KL V C LL→(Instr.lookup 96 (.map (some vb)) (whV p) false).run Tryz.prog U=.ok (.map (some b)) U) ∨
 ((∀x∈V,x.1≠p)∧∀U,SG B U g kb vb cb lb KL V C LL→(Instr.lookup 96 (.map (some vb)) (whV p) false).run Tryz.prog U=.ok (.map none) U):=by
 by_cases hm:∃x∈V,x.1=p
 ·obtain⟨⟨p',b,E⟩,hx,rfl⟩:=hm
  obtain⟨V1,V2,e⟩:=vH hx
  exact .inl ⟨V1,b,E,V2,e,fun U hU=>aI.hit hU.vals bY Tryz.underlying96 (eX U) (sH.2 ⟨_,hx,rfl⟩) false⟩
 ·obtain⟨kl,hkl⟩:=iP h1 h2 h3
  refine .inr ⟨fun x hx e=>hm ⟨x,hx,e⟩,fun U hU=>aI.miss hU.vals bY Tryz.underlying96 (eX U) hkl (fun q hq e=>?_) false⟩;obtain⟨y,hy,rfl⟩:=sH.1 hq
  exact hm ⟨y,hy,pA e⟩
theorem SG.touch(h:SG B w g kb vb cb lb KL V C LL){p:Wh}(h1:I64R p.1)(h2:I64R p.2.2)(h3:p.2.1.size≤maxLen)(hn:∀x∈V,x.1≠p)(hl:V.length<maxLen)(hB:B≤w.heap.size):
 ∃w',(Instr.mapUpdate 96 (.map (some vb)) (whV p) (.map (some w.heap.size))).run Tryz.prog (w.alloc (.map #[] 0))=.ok () w'∧(w.alloc (.map #[] 0)).mapTurned w' vb ∧
  SG B w' g kb vb cb lb KL (V++[(p,w.heap.size,[])]) C LL:=by
 have hb:Below w.heap.size w (w.alloc (.map #[] 0)):=(sB _ w).alloc (sC _) _;have h':=h.below hb;obtain⟨kl,hkl⟩:=iP h1 h2 h3
 obtain⟨w',r1,r2,r3⟩:=aI.store (v:=.map (some w.heap.size)) h'.vals bY Tryz.underlying96 (by rw[sP];exact hl) hkl (fun q hq e=>by
  obtain⟨y,hy,rfl⟩:=sH.1 hq
  exact hn y hy (pA e))
 exact⟨w',r1,r3,h'.touch_step hB (fun hm=>by have:=h.lt _ hm;omega) (aI.made w _) r3 r2⟩
theorem ids_split{E:List (Rf×VD)}{p:Rf}{v:VD}(hn:(E.map Prod.fst).Nodup)(hm:(p,v)∈E):E.Perm ((p,v)::E.filter fun e=>decide (e.1≠p)):=by
 obtain⟨E1,E2,rfl⟩:=vH hm
 simp only[sQ,sT,tQ,tN,sH,not_exists,not_and,sK]at hn;have h1:E1.filter (fun e=>decide (e.1≠p))=E1:=vX.2 fun e he=>by simpa using fun e1=>hn.2.2 _ ⟨e,he,rfl⟩ _ (.inl rfl) e1
 have h2:E2.filter (fun e=>decide (e.1≠p))=E2:=vX.2 fun e he=>by simpa using fun e1=>hn.2.1.1 e he e1
 rw[uN,uJ (by simp),h1,h2];exact vU
theorem map_at{E:List (Rf×VD)}{p:Rf}{v:VD}(d:Int)(hn:(E.map Prod.fst).Nodup)(hm:(p,v)∈E):((p,v.add d)::E.filter fun e=>decide (e.1≠p)).Perm (E.map fun e=>if e.1=p then (e.1,e.2.add d) else e):=by
 obtain⟨E1,E2,rfl⟩:=vH hm
 simp only[sQ,sT,tQ,tN,sH,not_exists,not_and,sK]at hn;have a1:∀e∈E1,e.1≠p:=fun e he e1=>hn.2.2 _ ⟨e,he,rfl⟩ _ (.inl rfl) e1
 have a2:∀e∈E2,e.1≠p:=fun e he e1=>hn.2.1.1 e he e1
 have h1:E1.filter (fun e=>decide (e.1≠p))=E1:=vX.2 fun e he=>by simpa using a1 e he
 have h2:E2.filter (fun e=>decide (e.1≠p))=E2:=vX.2 fun e he=>by simpa using a2 e he
 have g1:E1.map (fun e=>if e.1=p then (e.1,e.2.add d) else e)=E1:=by
  conv=>rhs;rw[←xF E1]
  exact uP fun e he=>by rw[if_neg (a1 e he)];rfl
 have g2:E2.map (fun e=>if e.1=p then (e.1,e.2.add d) else e)=E2:=by
  conv=>rhs;rw[←xF E2]
  exact uP fun e he=>by rw[if_neg (a2 e he)];rfl
 rw[uN,uJ (by simp),h1,h2,sQ,sT,g1,g2,if_pos rfl];exact vU.symm
theorem map_none{E:List (Rf×VD)}{p:Rf}(f:Rf×VD→Rf×VD)(hm:∀e∈E,e.1≠p):E.map (fun e=>if e.1=p then f e else e)=E:=by
 conv=>rhs;rw[←xF E]
 exact uP fun e he=>by rw[if_neg (hm e he)];rfl
section
variable{p:Wh}{b:Nat}{E:List (Rf×VD)}{V1 V2:dM}
theorem SG.del(h:SG B w g kb vb cb lb KL (V1++(p,b,E)::V2) C LL){q:Rf}(hq:I64R q)(ty:TypeId):
 ∃w',(Builtin.delete_ #[132,24] ty #[.map (some b),bB q]).run Tryz.prog w=.ok (.tuple #[]) w'∧(w.mapTurned w' b∧SG B w' g kb vb cb lb KL (V1++(p,b,E.filter fun e=>decide (e.1≠q))::V2) C LL):=by
 have hx:(p,b,E)∈V1++(p,b,E)::V2:=by simp
 have he:=h.each _ hx;have hn:=h.ids hx;simp only at he hn;by_cases hm:∃e∈E,e.1=q
 ·obtain⟨⟨q',v⟩,hv,rfl⟩:=hm
  obtain⟨w',r1,r2,r3⟩:=aI.drop (v0:=vlV v) (l':=(E.filter fun e=>decide (e.1≠q')).map fun e=>(bB e.1,vlV e.2)) he dW Tryz.underlying132 ((ids_split hn hv).map _) ty
  exact⟨w',r1,r3,h.each_step r3 r2⟩
 ·obtain⟨kl,hkl⟩:=gU hq
  obtain⟨w',r1,r2,r3⟩:=aI.drop_none he dW Tryz.underlying132 hkl (fun z hz e=>by
   obtain⟨y,hy,rfl⟩:=sH.1 hz
   exact hm ⟨y,hy,mP e⟩) ty
  have hf:E.filter (fun e=>decide (e.1≠q))=E:=vX.2 fun e he=>by simpa using fun e1=>hm ⟨e,he,e1⟩
  rw[hf];exact⟨w',r1,r3,h.each_step r3 r2⟩
theorem SG.val_look(h:SG B w g kb vb cb lb KL (V1++(p,b,E)::V2) C LL){q:Rf}(hq:I64R q):
 (∃v,(q,v)∈E∧∀U,SG B U g kb vb cb lb KL (V1++(p,b,E)::V2) C LL→(Instr.lookup 132 (.map (some b)) (bB q) true).run Tryz.prog U=.ok (.tuple #[vlV v,.bool true]) U) ∨
 ((∀e∈E,e.1≠q)∧∀U,SG B U g kb vb cb lb KL (V1++(p,b,E)::V2) C LL→(Instr.lookup 132 (.map (some b)) (bB q) true).run Tryz.prog U=.ok (.tuple #[vlV ⟨0,0,⟨#[]⟩,0,0⟩,.bool false]) U):=by
 have hx:(p,b,E)∈V1++(p,b,E)::V2:=by simp
 by_cases hm:∃e∈E,e.1=q
 ·obtain⟨⟨q',v⟩,hv,rfl⟩:=hm
  exact .inl ⟨v,hv,fun U hU=>aI.hit (hU.each _ hx) dW Tryz.underlying132 (zero_val U) (sH.2 ⟨_,hv,rfl⟩) true⟩
 ·obtain⟨kl,hkl⟩:=gU hq
  refine .inr ⟨fun e he e1=>hm ⟨e,he,e1⟩,fun U hU=>aI.miss (hU.each _ hx) dW Tryz.underlying132 (zero_val U) hkl (fun z hz e=>?_) true⟩;obtain⟨y,hy,rfl⟩:=sH.1 hz
  exact hm ⟨y,hy,mP e⟩
theorem SG.inc(h:SG B w g kb vb cb lb KL (V1++(p,b,E)::V2) C LL){q:Rf}{v:VD}(hv:(q,v)∈E)(d:Int):
 ∃w',(Instr.mapUpdate 132 (.map (some b)) (bB q) (vlV (v.add d))).run Tryz.prog w=.ok () w'∧(w.mapTurned w' b∧SG B w' g kb vb cb lb KL (V1++(p,b,E.map fun e=>if e.1=q then (e.1,e.2.add d) else e)::V2) C LL):=by
 have hx:(p,b,E)∈V1++(p,b,E)::V2:=by simp
 have he:=h.each _ hx;have hn:=h.ids hx;simp only at he hn;obtain⟨w',r1,r2,r3⟩:=aI.over (v:=vlV (v.add d)) (v0:=vlV v) (l':=(E.filter fun e=>decide (e.1≠q)).map fun e=>(bB e.1,vlV e.2)) he dW Tryz.underlying132 ((ids_split hn hv).map _)
 exact⟨w',r1,r3,h.each_step r3 (r2.perm ((map_at d hn hv).map fun e:Rf×VD=>(bB e.1,vlV e.2)))⟩
theorem SG.put(h:SG B w g kb vb cb lb KL (V1++(p,b,E)::V2) C LL){n:Rf}(hn:I64R n)(hnew:∀e∈E,e.1≠n)(hl:E.length<maxLen)(v:VD):
 ∃w',(Instr.mapUpdate 132 (.map (some b)) (bB n) (vlV v)).run Tryz.prog w=.ok () w'∧(w.mapTurned w' b∧SG B w' g kb vb cb lb KL (V1++(p,b,E++[(n,v)])::V2) C LL):=by
 have hx:(p,b,E)∈V1++(p,b,E)::V2:=by simp
 have he:=h.each _ hx;simp only at he;obtain⟨kl,hkl⟩:=gU hn
 obtain⟨w',r1,r2,r3⟩:=aI.store (v:=vlV v) he dW Tryz.underlying132 (by rw[sP];exact hl) hkl (fun z hz e=>by
  obtain⟨y,hy,rfl⟩:=sH.1 hz
  exact hnew y hy (mP e))
 refine⟨w',r1,r3,h.each_step r3 ?_⟩
 rw[sQ];exact r2
end
theorem SG.kind_put(h:SG B w g kb vb cb lb KL V C LL){n:Rf}(hn:I64R n)(hnew:∀e∈KL,e.1≠n)(hl:KL.length<maxLen)(k:Int):
 ∃w',(Instr.mapUpdate 95 (.map (some kb)) (bB n) (.int .i64 k)).run Tryz.prog w=.ok () w'∧(w.mapTurned w' kb∧SG B w' g kb vb cb lb (KL++[(n,k)]) V C LL):=by
 obtain⟨kl,hkl⟩:=gU hn
 obtain⟨w',r1,r2,r3⟩:=aI.store (v:=.int .i64 k) h.kinds dW Tryz.underlying95 (by rw[sP];exact hl) hkl (fun z hz e=>by
  obtain⟨y,hy,rfl⟩:=sH.1 hz
  exact hnew y hy (mP e))
 exact⟨w',r1,r3,h.kinds_step r3 (by rw[sQ];exact r2)⟩
theorem SG.list_put(h:SG B w g kb vb cb lb KL V C LL){n o:Rf}(hn:I64R n)(hnew:∀e∈LL,e.1≠n)(hl:LL.length<maxLen):
 ∃w',(Instr.mapUpdate 98 (.map (some lb)) (bB n) (bB o)).run Tryz.prog w=.ok () w'∧(w.mapTurned w' lb∧SG B w' g kb vb cb lb KL V C (LL++[(n,o)])):=by
 obtain⟨kl,hkl⟩:=gU hn
 obtain⟨w',r1,r2,r3⟩:=aI.store (v:=bB o) h.lists dW Tryz.underlying98 (by rw[sP];exact hl) hkl (fun z hz e=>by
  obtain⟨y,hy,rfl⟩:=sH.1 hz
  exact hnew y hy (mP e))
 exact⟨w',r1,r3,h.lists_step r3 (by rw[sQ];exact r2)⟩
end
end
section
theorem perm_cons_mid{α:Type}{a:α}{l1 l2:List α}: (a::(l1++l2)).Perm (l1++a::l2):=vU.symm
theorem putKi_new{S:StC}{p:Wh}{n:Rf}(h:∀e∈S,e.1≠p):lS S p n=S++[(p,[n])]:=by
 unfold lS;rw[if_neg fun⟨e,he,e1⟩=>h e he e1]
theorem putKi_old{S1 S2:StC}{p:Wh}{n:Rf}{rs:List Rf}(h1:∀e∈S1,e.1≠p)(h2:∀e∈S2,e.1≠p):lS (S1++(p,rs)::S2) p n=S1++(p,rs++[n])::S2:=by
 unfold lS;rw[if_pos ⟨(p,rs),by simp,rfl⟩,sQ,sT,if_pos rfl];have g1:S1.map (fun e=>if e.1=p then (e.1,e.2++[n]) else e)=S1:=by
  conv=>rhs;rw[←xF S1]
  exact uP fun e he=>by rw[if_neg (h1 e he)];rfl
 have g2:S2.map (fun e=>if e.1=p then (e.1,e.2++[n]) else e)=S2:=by
  conv=>rhs;rw[←xF S2]
  exact uP fun e he=>by rw[if_neg (h2 e he)];rfl
 rw[g1,g2]
section
variable{B:Nat}{w w':World}{g kb vb cb lb:Nat}{K:List OpI}{KL:StK}{V:dM}{C:dE}{LL:LisL}
theorem bO{b:Nat}(h:w.mapTurned w' b){k:Nat}(hk:k<w.heap.size)(hne:k≠b):w'.heap[k]?=w.heap[k]?:=h.grown.block k hk (fun e=>hne (by simpa using e))
theorem eE{b:Nat}(h:w.mapTurned w' b):w'.heap.size=w.heap.size:=by
 obtain⟨es,c,es',c',hb,rfl⟩:=h
 simp[ChangeMaps.setBlock]
theorem SG.kids_entry(h:SG B w g kb vb cb lb KL V C LL){p:Wh}(h1:I64R p.1)(h2:I64R p.2.2)(h3:p.2.1.size≤maxLen)(hl:C.length<maxLen)(n:Rf):
 ∃w1 v0,∃(c:Nat) (rs:List Rf),(Instr.mapEntry 97 (.map (some cb)) (whV p)).run Tryz.prog w=.ok (.tuple #[v0,.int .i64 (c:Nat)]) w1∧w.mapTurned w1 cb∧w1.ownsRow B 24 2 v0 rs.length (aE rs)∧(rs=[]∨∃x∈C,x.2.2=rs) ∧
  (∀k,v0.ownBlock=some k→k∈dL g kb vb cb lb V C∧k≠g) ∧
  ∀w2 w3 v',Below w1.heap.size w1 w2→w2.grownBy w3 v0.ownBlock→w3.ownsRow B 24 2 v' (rs.length+1) (aE rs++[.int .i64 n.1,.int .i64 n.2])→(v'.ownBlock=v0.ownBlock∨v'.ownBlock=some w2.heap.size) →
   ∃w4,(Instr.entryStore 97 (.map (some cb)) (.int .i64 (c:Nat)) v').run Tryz.prog w3=.ok () w4∧w3.mapTurned w4 cb∧∃C',C'.map (fun x=>(x.1,x.2.2))=lS (C.map fun x=>(x.1,x.2.2)) p n∧SG B w4 g kb vb cb lb KL V C' LL ∧
    ∀k∈dL g kb vb cb lb V C',k∈dL g kb vb cb lb V C∨k=w2.heap.size:=by
 have a:=h.ap;have hrc:∀rs:List Rf,aE (rs++[n])=aE rs++[.int .i64 n.1,.int .i64 n.2]:=fun rs=>by rw[bC];rfl
 by_cases hm:∃x∈C,x.1=p
 ·obtain⟨⟨p',v0,rs⟩,hx,hp⟩:=hm
  simp only at hp;subst hp;obtain⟨C1,C2,e⟩:=vH hx
  have hn0:=h.rows;rw[e]at hn0;simp only[sQ,sT,tQ,tN,sH,not_exists,not_and,sK]at hn0;have a1:∀x∈C1,x.1≠p':=fun x hx e1=>hn0.2.2 _ ⟨x,hx,rfl⟩ _ (.inl rfl) e1
  have a2:∀x∈C2,x.1≠p':=fun x hx e1=>hn0.2.1.1 x hx e1
  have hperm:(C.map fun x=>(whV x.1,x.2.1)).Perm ((whV p',v0)::(C1++C2).map fun x=>(whV x.1,x.2.1)):=by
   rw[e,←sT (f:=fun x:Wh×Value×List Rf=>(whV x.1,x.2.1)) (a:=(p',v0,rs))];exact vU.map _
  obtain⟨w1,c,r1,r2,r3⟩:=aI.entry_old h.kids bY Tryz.underlying97 hperm
  have hrow:=h.row _ hx;simp only at hrow;have harow:=fun k hk=>a.rs _ hx k hk
  simp only at harow;have hmem0:∀k,v0.ownBlock=some k→k∈dL g kb vb cb lb V C∧k≠g:=fun k hk=>⟨aN.2 (.inr (.inr (.inr (.inr (.inr (.inr ⟨_,hx,hk⟩)))))),(harow k hk).1⟩
  have hrow1:w1.ownsRow B 24 2 v0 rs.length (aE rs):=aU hrow fun k hk=>bO r3 (aF hrow hk).2 (harow k hk).2.2.2.1
  refine⟨w1,v0,c,rs,r1,r3,hrow1,.inr ⟨_,hx,rfl⟩,hmem0,fun w2 w3 v' hb hg ho hv=>?_⟩
  have hE3:rF w3 126 cb (whV p') v0 c ((C1++C2).map fun x=>(whV x.1,x.2.1)):=by
   have hlt1:=r2.lt;have hE2:=r2.keep (hb.block _ hlt1);exact hE2.keep (hg.block _ hE2.lt (fun e2=>(harow cb e2.symm).2.2.2.1 rfl))
  obtain⟨w4,s1,s2,s3⟩:=hE3.store v' 97
  have hs1:=eE r3;have hs4:=eE s3;have hkp:∀k,k<w.heap.size→k≠cb→v0.ownBlock≠some k→w4.heap[k]?=w.heap[k]?:=fun k k1 k2 k3=>by
   have q1:k<w1.heap.size:=by omega
   have q2:k<w2.heap.size:=sE q1 hb.size;have q3:k<w3.heap.size:=sE q2 hg.size;rw[bO s3 q3 k2,hg.block k q2 (fun e2=>k3 e2.symm),hb.block k q1,bO r3 k1 k2]
  have hcb3:v'.ownBlock≠some cb:=fun e2=>by
   rcases hv with e3|e3
   ·exact(harow cb (e3▸e2)).2.2.2.1 rfl
   ·rw[e3]at e2;have:=tF e2
    have:=h.kids.lt
    have:=hb.size
    omega
  have hnew:∀k,v'.ownBlock=some k→v0.ownBlock=some k∨k=w2.heap.size:=fun k hk=>by
   rcases hv with e3|e3
   ·exact .inl (e3▸hk)
   ·rw[e3]at hk;exact .inr (tF hk).symm
  have hsz2:w.heap.size≤w2.heap.size:=by have:=hb.size;omega
  have hrb:jI C=jI C1++(v0.ownBlock.toList++jI C2):=by
   unfold jI;rw[e,List.filterMap_append,List.filterMap_cons];cases v0.ownBlock<;>rfl
  have hrb':jI (C1++(p',v',rs++[n])::C2)=jI C1++(v'.ownBlock.toList++jI C2):=by
   unfold jI;rw[List.filterMap_append,List.filterMap_cons];cases v'.ownBlock<;>rfl
  have hlt:∀k∈jI C,k<w.heap.size:=fun k hk=>by
   obtain⟨x,hx,e1⟩:=fX.1 hk
   exact(aF (h.row x hx) e1).2
  have hrn:=a.rn;rw[hrb]at hrn hlt;simp only[tQ,sI,xU]at hrn hlt;refine⟨w4,s1,s3,C1++(p',v',rs++[n])::C2,?_,?_,?_⟩
  ·rw[e,sQ,sT,sQ,sT];exact(putKi_old (fun x hx=>by obtain⟨y,hy,rfl⟩:=sH.1 hx;exact a1 y hy) (fun x hx=>by obtain⟨y,hy,rfl⟩:=sH.1 hx;exact a2 y hy)).symm
  ·refine h.kids_step (fun k hk=>?_) ?_ (fun x hx=>?_) ?_ (fun k hk=>?_)
   ·simp only[sK,sH]at hk;rcases hk with rfl|rfl|rfl|rfl|⟨x,hx,rfl⟩
    ·exact hkp _ h.blk.lt a.gc (fun e2=>(harow _ e2).1 rfl)
    ·exact hkp _ h.kinds.lt a.kc (fun e2=>(harow _ e2).2.1 rfl)
    ·exact hkp _ h.vals.lt a.vc (fun e2=>(harow _ e2).2.2.1 rfl)
    ·exact hkp _ h.lists.lt a.cl.symm (fun e2=>(harow _ e2).2.2.2.2.1 rfl)
    ·exact hkp _ (h.each x hx).lt (a.vs x hx).2.2.2.1 (fun e2=>(harow _ e2).2.2.2.2.2 x hx rfl)
   ·refine s2.perm ?_;rw[←sT (f:=fun x:Wh×Value×List Rf=>(whV x.1,x.2.1)) (a:=(p',v',rs++[n]))];exact perm_cons_mid.map _
   ·have hold:∀x,x∈C→(x∈C1∨x∈C2)→w4.ownsRow B 24 2 x.2.1 x.2.2.length (aE x.2.2):=fun x hx hx2=>aU (h.row x hx) fun k hk=>hkp k (aF (h.row x hx) hk).2 (a.rs x hx k hk).2.2.2.1 fun e2=>by
     rcases hx2 with hx2|hx2
     ·exact hrn.2.2 k (fX.2 ⟨x,hx2,hk⟩) k (.inl e2) rfl
     ·exact hrn.2.1.2.2 k e2 k (fX.2 ⟨x,hx2,hk⟩) rfl
    rcases sI.1 hx with hx|hx
    ·exact hold x (by rw[e];exact tE _ hx) (.inl hx)
    ·rcases sK.1 hx with rfl|hx
     ·simp only[sG,vY,hrc];exact aU ho fun k hk=>bO s3 (aF ho hk).2 (fun e2=>hcb3 (e2▸hk))
     ·exact hold x (by rw[e];exact tT _ (tS _ hx)) (.inr hx)
   ·rw[hrb'];simp only[tQ,sI,xU];refine⟨hrn.1,⟨by cases v'.ownBlock<;>simp,hrn.2.1.2.1,fun k hk j hj e2=>?_⟩,fun k hk j hj e2=>?_⟩
    ·subst e2;rcases hnew k hk with h5|h5
     ·exact hrn.2.1.2.2 k h5 k hj rfl
     ·have:=hlt k (.inr (.inr hj));omega
    ·subst e2;rcases hj with hj|hj
     ·rcases hnew k hj with h5|h5
      ·exact hrn.2.2 k hk k (.inl h5) rfl
      ·have:=hlt k (.inl hk);omega
     ·exact hrn.2.2 k hk k (.inr hj) rfl
   ·have hin:k∈jI C∨k=w2.heap.size:=by
     rw[hrb']at hk;rw[hrb];simp only[sI,xU]at hk ⊢;rcases hk with hk|hk|hk
     ·exact .inl (.inl hk)
     ·rcases hnew k hk with h5|h5
      ·exact .inl (.inr (.inl h5))
      ·exact .inr h5
     ·exact .inl (.inr (.inr hk))
    rcases hin with hin|rfl
    ·obtain⟨x,hx,e1⟩:=fX.1 hin
     obtain⟨q1,q2,q3,q4,q5,q6⟩:=a.rs x hx k e1
     simp only[sK,sH,not_or,not_exists,not_and];exact⟨q1,q2,q3,q4,q5,fun y hy=>q6 y hy⟩
    ·have hall:=h.lt;intro hm;have:w2.heap.size<w.heap.size:=hall _ (by
      simp only[sK,sH]at hm;rw[aN];rcases hm with h|h|h|h|h|⟨x,hx,h⟩
      ·exact .inl h
      ·exact .inr (.inl h)
      ·exact .inr (.inr (.inl h))
      ·exact .inr (.inr (.inr (.inl h)))
      ·exact .inr (.inr (.inr (.inr (.inl h))))
      ·exact .inr (.inr (.inr (.inr (.inr (.inl ⟨x,hx,h⟩))))))
     omega
  ·intro k hk;rcases aN.1 hk with e2|e2|e2|e2|e2|e2|⟨x,hx,e2⟩
   ·exact .inl (aN.2 (.inl e2))
   ·exact .inl (aN.2 (.inr (.inl e2)))
   ·exact .inl (aN.2 (.inr (.inr (.inl e2))))
   ·exact .inl (aN.2 (.inr (.inr (.inr (.inl e2)))))
   ·exact .inl (aN.2 (.inr (.inr (.inr (.inr (.inl e2))))))
   ·exact .inl (aN.2 (.inr (.inr (.inr (.inr (.inr (.inl e2)))))))
   ·rcases sI.1 hx with hx|hx
    ·exact .inl (aN.2 (.inr (.inr (.inr (.inr (.inr (.inr ⟨x,by rw[e];exact tE _ hx,e2⟩)))))))
    ·rcases sK.1 hx with rfl|hx
     ·rcases hnew k e2 with h5|h5
      ·exact .inl (hmem0 k h5).1
      ·exact .inr h5
     ·exact .inl (aN.2 (.inr (.inr (.inr (.inr (.inr (.inr ⟨x,by rw[e];exact tT _ (tS _ hx),e2⟩)))))))
 ·have hno:∀x∈C,x.1≠p:=fun x hx e=>hm ⟨x,hx,e⟩
  obtain⟨kl,hkl⟩:=iP h1 h2 h3
  obtain⟨w1,c,r1,r2,r3⟩:=aI.entry_new h.kids bY Tryz.underlying97 (zero_ids w) (by rw[sP];exact hl) hkl (fun q hq e=>by
   obtain⟨y,hy,rfl⟩:=sH.1 hq
   exact hno y hy (pA e))
  refine⟨w1,.slice none 0 0,c,[],r1,r3,bT _ _ _ _,.inl rfl,(fun k hk=>by cases hk),fun w2 w3 v' hb hg ho hv=>?_⟩
  have hE3:rF w3 126 cb (whV p) (.slice none 0 0) c (C.map fun x=>(whV x.1,x.2.1)):=by
   have hE2:=r2.keep (hb.block _ r2.lt);exact hE2.keep (hg.block _ hE2.lt (fun e2=>by cases e2))
  obtain⟨w4,s1,s2,s3⟩:=hE3.store v' 97
  have hs1:=eE r3;have hs4:=eE s3;have hkp:∀k,k<w.heap.size→k≠cb→w4.heap[k]?=w.heap[k]?:=fun k k1 k2=>by
   have q1:k<w1.heap.size:=by omega
   have q2:k<w2.heap.size:=sE q1 hb.size;have q3:k<w3.heap.size:=sE q2 hg.size;rw[bO s3 q3 k2,hg.block k q2 (fun e2=>by cases e2),hb.block k q1,bO r3 k1 k2]
  have hnew:∀k,v'.ownBlock=some k→k=w2.heap.size:=fun k hk=>by
   rcases hv with e3|e3
   ·rw[e3]at hk;cases hk
   ·rw[e3]at hk;exact(tF hk).symm
  have hsz2:w.heap.size≤w2.heap.size:=by have:=hb.size;omega
  have hcb3:v'.ownBlock≠some cb:=fun e2=>by
   have:=hnew _ e2
   have:=h.kids.lt
   omega
  have hrb':jI (C++[(p,v',[n])])=jI C++v'.ownBlock.toList:=by
   unfold jI;rw[List.filterMap_append,List.filterMap_cons];cases v'.ownBlock<;>rfl
  have hlt:∀k∈jI C,k<w.heap.size:=fun k hk=>by
   obtain⟨x,hx,e1⟩:=fX.1 hk
   exact(aF (h.row x hx) e1).2
  refine⟨w4,s1,s3,C++[(p,v',[n])],?_,?_,?_⟩
  ·rw[putKi_new (fun x hx=>by obtain⟨y,hy,rfl⟩:=sH.1 hx;exact hno y hy),sQ];rfl
  ·refine h.kids_step (fun k hk=>?_) ?_ (fun x hx=>?_) ?_ (fun k hk=>?_)
   ·simp only[sK,sH]at hk;rcases hk with rfl|rfl|rfl|rfl|⟨x,hx,rfl⟩
    ·exact hkp _ h.blk.lt a.gc
    ·exact hkp _ h.kinds.lt a.kc
    ·exact hkp _ h.vals.lt a.vc
    ·exact hkp _ h.lists.lt a.cl.symm
    ·exact hkp _ (h.each x hx).lt (a.vs x hx).2.2.2.1
   ·refine s2.perm ?_;rw[sQ];exact(List.perm_append_singleton _ _).symm
   ·rcases sI.1 hx with hx|hx
    ·exact aU (h.row x hx) fun k hk=>hkp k (aF (h.row x hx) hk).2 (a.rs x hx k hk).2.2.2.1
    ·rw[sN.1 hx];refine aU ?_ fun k hk=>bO s3 (aF ho hk).2 (fun e2=>hcb3 (e2▸hk))
     simpa[aE] using ho
   ·rw[hrb'];simp only[tQ,xU];refine⟨a.rn,by cases v'.ownBlock<;>simp,fun k hk j hj e2=>?_⟩
    have:=hlt k hk
    have:=hnew j hj
    omega
   ·have hin:k∈jI C∨k=w2.heap.size:=by
     rw[hrb']at hk;simp only[sI,xU]at hk;rcases hk with hk|hk
     ·exact .inl hk
     ·exact .inr (hnew k hk)
    rcases hin with hin|rfl
    ·obtain⟨x,hx,e1⟩:=fX.1 hin
     obtain⟨q1,q2,q3,q4,q5,q6⟩:=a.rs x hx k e1
     simp only[sK,sH,not_or,not_exists,not_and];exact⟨q1,q2,q3,q4,q5,fun y hy=>q6 y hy⟩
    ·have hall:=h.lt;intro hm;have:w2.heap.size<w.heap.size:=hall _ (by
      simp only[sK,sH]at hm;rw[aN];rcases hm with h|h|h|h|h|⟨x,hx,h⟩
      ·exact .inl h
      ·exact .inr (.inl h)
      ·exact .inr (.inr (.inl h))
      ·exact .inr (.inr (.inr (.inl h)))
      ·exact .inr (.inr (.inr (.inr (.inl h))))
      ·exact .inr (.inr (.inr (.inr (.inr (.inl ⟨x,hx,h⟩))))))
     omega
  ·intro k hk;rcases aN.1 hk with e2|e2|e2|e2|e2|e2|⟨x,hx,e2⟩
   ·exact .inl (aN.2 (.inl e2))
   ·exact .inl (aN.2 (.inr (.inl e2)))
   ·exact .inl (aN.2 (.inr (.inr (.inl e2))))
   ·exact .inl (aN.2 (.inr (.inr (.inr (.inl e2)))))
   ·exact .inl (aN.2 (.inr (.inr (.inr (.inr (.inl e2))))))
   ·exact .inl (aN.2 (.inr (.inr (.inr (.inr (.inr (.inl e2)))))))
   ·rcases sI.1 hx with hx|hx
    ·exact .inl (aN.2 (.inr (.inr (.inr (.inr (.inr (.inr ⟨x,hx,e2⟩)))))))
    ·rw[sN.1 hx]at e2;exact .inr (hnew k e2)
end
end
section
structure DoM(B q:Nat)(M:List Nat)(w0 w:World)(x:OpI)(pe:Rf)(g kb vb cb lb:Nat)(KL:StK)(V:dM)(C:dE)(LL:LisL):Prop where
 sg:SG B w g kb vb cb lb KL V C LL
 bo:Blk w q 88 #[.int .i64 x.1.k,.int .i64 x.1.on,.int .i64 x.1.oa,.string x.1.key,.int .i64 x.1.en,.int .i64 x.1.ea,.bool x.1.ins,.int .i64 x.1.vk,.int .i64 x.1.vn,.string x.1.vt,.int .i64 x.1.va,.int .i64 x.1.vb,.slice x.1.A x.1.l.length x.1.c]
 bi:Blk w (q+1) 24 #[.int .i64 x.2.1,.int .i64 x.2.2]
 bw:Blk w (q+2) 126 #[.int .i64 x.1.on,.int .i64 x.1.oa,.string x.1.key,.int .i64 pe.1,.int .i64 pe.2]
 nq:∀k∈dL g kb vb cb lb V C,k<q∨q+3≤k
 bel:Below B w0 w
 hB:B≤w.heap.size
 nm:∀k∈dL g kb vb cb lb V C,k<q→k∈M
 chg:Chg (fun k=>k∈M) w0 w
 h0:w0.heap.size≤q
section
variable{B q:Nat}{M:List Nat}{w0 w w':World}{x:OpI}{pe:Rf}{g kb vb cb lb:Nat}{KL KL':StK}{V V':dM}{C C':dE}{LL LL':LisL}
theorem DoM.drew(h:DoM B q M w0 w x pe g kb vb cb lb KL V C LL):DoM B q M w0 w.drew x pe g kb vb cb lb KL V C LL:=⟨h.sg.drew,h.bo,h.bi,h.bw,h.nq,h.bel.drew,h.hB,h.nm,h.chg.drew,h.h0⟩
theorem DoM.alloc(h:DoM B q M w0 w x pe g kb vb cb lb KL V C LL)(o:Obj):DoM B q M w0 (w.alloc o) x pe g kb vb cb lb KL V C LL:=by
 have hb:Below w.heap.size w (w.alloc o):=(sB _ w).alloc (sC _) _;exact⟨h.sg.below hb,h.bo.keep (hb.block _ h.bo.lt),h.bi.keep (hb.block _ h.bi.lt),h.bw.keep (hb.block _ h.bw.lt),h.nq,h.bel.alloc h.hB _,(by simp;have:=h.hB;omega),h.nm,h.chg.alloc _,h.h0⟩
theorem DoM.turn(h:DoM B q M w0 w x pe g kb vb cb lb KL V C LL){b:Nat}(hb:b∈dL g kb vb cb lb V C)(ht:w.mapTurned w' b)(hs:SG B w' g kb vb cb lb KL' V' C' LL')(hn:∀k∈dL g kb vb cb lb V' C',k∈dL g kb vb cb lb V C∨q+3≤k):DoM B q M w0 w' x pe g kb vb cb lb KL' V' C' LL':=by
 have h1:=h.nq b hb;refine⟨hs,h.bo.keep (bO ht h.bo.lt (by omega)),h.bi.keep (bO ht h.bi.lt (by omega)),h.bw.keep (bO ht h.bw.lt (by omega)),fun k hk=>?_,h.bel.grown ht.grown h.hB (fun j hj=>by cases hj;exact h.sg.low _ hb),(by rw[eE ht];exact h.hB),(fun k hk hkq=>(hn k hk).elim (fun h2=>h.nm k h2 hkq) (fun h2=>by omega)),h.chg.grown ht.grown (fun j hj=>by
  cases hj;have:=h.h0
  rcases h1 with h2|h2
  ·exact .inl (h.nm _ hb h2)
  ·exact .inr (by omega)),h.h0⟩
 rcases hn k hk with h2|h2
 ·exact h.nq k h2
 ·exact .inr h2
theorem DoM.far(h:DoM B q M w0 w x pe g kb vb cb lb KL V C LL){p:Addr}(hp:q+3≤p.block)(hn:p.block∉dL g kb vb cb lb V C)(hp2:B≤p.block)(v:Value):DoM B q M w0 (w.setCell p v) x pe g kb vb cb lb KL V C LL:=by
 have hk:∀k,k≠p.block→(w.setCell p v).heap[k]?=w.heap[k]?:=fun k hk=>sZ _ _ _ _ hk
 refine⟨h.sg.keep fun k hk2=>hk k fun e=>hn (e▸hk2),h.bo.keep (hk _ (by omega)),h.bi.keep (hk _ (by omega)),h.bw.keep (hk _ (by omega)),h.nq,h.bel.setCell hp2 _,(by simpa[World.setCell] using h.hB),h.nm,h.chg.setCell (.inr (by have:=h.h0;omega)) _,h.h0⟩
theorem DoM.elem(h:DoM B q M w0 w x pe g kb vb cb lb KL V C LL)(hq:B≤q+2)(n:Rf):DoM B q M w0 ((w.setCell ⟨q+2,3,none⟩ (.int .i64 n.1)).setCell ⟨q+2,4,none⟩ (.int .i64 n.2)) x n g kb vb cb lb KL V C LL:=by
 have hk:∀k,k≠q+2→((w.setCell ⟨q+2,3,none⟩ (.int .i64 n.1)).setCell ⟨q+2,4,none⟩ (.int .i64 n.2)).heap[k]?=w.heap[k]?:=fun k hk=>(sZ _ _ _ _ (by exact hk)).trans (sZ _ _ _ _ (by exact hk))
 refine⟨h.sg.keep fun k hk2=>hk k fun e=>by have:=h.nq k hk2;omega,h.bo.keep (hk _ (by omega)),h.bi.keep (hk _ (by omega)),(h.bw.set_ 3 _).set_ 4 _,h.nq,(h.bel.setCell (p:=⟨q+2,3,none⟩) hq _).setCell (p:=⟨q+2,4,none⟩) hq _,(by simpa[World.setCell] using h.hB),h.nm,(h.chg.setCell (p:=⟨q+2,3,none⟩) (.inr (by have:=h.h0;show _≤q+2;omega)) _).setCell (p:=⟨q+2,4,none⟩) (.inr (by have:=h.h0;show _≤q+2;omega)) _,h.h0⟩
end
structure DoT(B q:Nat)(M:List Nat)(w0 w:World)(x:OpI)(pe:Rf)(g kb vb cb lb:Nat)(V:dM)(C:dE):Prop where
 bg:Blk w g 100 #[.map (some kb),.map (some vb),.map (some cb),.map (some lb)]
 bo:Blk w q 88 #[.int .i64 x.1.k,.int .i64 x.1.on,.int .i64 x.1.oa,.string x.1.key,.int .i64 x.1.en,.int .i64 x.1.ea,.bool x.1.ins,.int .i64 x.1.vk,.int .i64 x.1.vn,.string x.1.vt,.int .i64 x.1.va,.int .i64 x.1.vb,.slice x.1.A x.1.l.length x.1.c]
 bi:Blk w (q+1) 24 #[.int .i64 x.2.1,.int .i64 x.2.2]
 bw:Blk w (q+2) 126 #[.int .i64 x.1.on,.int .i64 x.1.oa,.string x.1.key,.int .i64 pe.1,.int .i64 pe.2]
 nq:∀k∈dL g kb vb cb lb V C,k<q∨q+3≤k
 low:∀k∈dL g kb vb cb lb V C,B≤k
 bel:Below B w0 w
 hB:B≤w.heap.size
 nm:∀k∈dL g kb vb cb lb V C,k<q→k∈M
 chg:Chg (fun k=>k∈M) w0 w
 h0:w0.heap.size≤q
section
variable{B q:Nat}{M:List Nat}{w0 w w':World}{x:OpI}{pe:Rf}{g kb vb cb lb:Nat}{KL KL':StK}{V V':dM}{C C':dE}{LL LL':LisL}
theorem DoT.of(h:DoM B q M w0 w x pe g kb vb cb lb KL V C LL){b:Nat}(hb:b∈dL g kb vb cb lb V C)(ht:w.mapTurned w' b):DoT B q M w0 w' x pe g kb vb cb lb V C:=by
 have h1:=h.nq b hb;have hg:g≠b:=fun e=>by
  obtain⟨es,c,es',c',h2,-⟩:=ht
  have h3:=h.sg.blk;unfold Blk at h3;rw[e,h2]at h3;cases h3
 exact⟨h.sg.blk.keep (bO ht h.sg.blk.lt hg),h.bo.keep (bO ht h.bo.lt (by omega)),h.bi.keep (bO ht h.bi.lt (by omega)),h.bw.keep (bO ht h.bw.lt (by omega)),h.nq,h.sg.low,
  h.bel.grown ht.grown h.hB (fun j hj=>by cases hj;exact h.sg.low _ hb),(by rw[eE ht];exact h.hB),h.nm,h.chg.grown ht.grown (fun j hj=>by
   cases hj;have:=h.h0
   rcases h1 with h2|h2
   ·exact .inl (h.nm _ hb h2)
   ·exact .inr (by omega)),h.h0⟩
theorem DoT.hq(h:DoT B q M w0 w x pe g kb vb cb lb V C):q+3≤w.heap.size:=h.bw.lt
theorem DoT.alloc(h:DoT B q M w0 w x pe g kb vb cb lb V C)(o:Obj):DoT B q M w0 (w.alloc o) x pe g kb vb cb lb V C:=by
 have hb:Below w.heap.size w (w.alloc o):=(sB _ w).alloc (sC _) _;exact⟨h.bg.keep (hb.block _ h.bg.lt),h.bo.keep (hb.block _ h.bo.lt),h.bi.keep (hb.block _ h.bi.lt),h.bw.keep (hb.block _ h.bw.lt),h.nq,h.low,h.bel.alloc h.hB _,(by simp;have:=h.hB;omega),h.nm,h.chg.alloc _,h.h0⟩
theorem DoT.grown(h:DoT B q M w0 w x pe g kb vb cb lb V C){row:Option Nat}(hg:w.grownBy w' row)(hr:∀k,row=some k→k∈dL g kb vb cb lb V C∧k≠g):DoT B q M w0 w' x pe g kb vb cb lb V C:=by
 have hk:∀k,k<w.heap.size→(k=g∨q≤k∧k<q+3)→w'.heap[k]?=w.heap[k]?:=fun k h1 h2=>hg.block k h1 fun e=>by
  have h3:=hr k e.symm;have h4:=h.nq k h3.1;rcases h2 with h2|h2
  ·exact h3.2 h2
  ·omega
 exact⟨h.bg.keep (hk _ h.bg.lt (.inl rfl)),h.bo.keep (hk _ h.bo.lt (.inr (by omega))),h.bi.keep (hk _ h.bi.lt (.inr (by omega))),h.bw.keep (hk _ h.bw.lt (.inr (by omega))),h.nq,h.low,
  h.bel.grown hg h.hB (fun j hj=>h.low _ (hr j hj).1),sR h.hB hg.size,h.nm,h.chg.grown hg (fun j hj=>by
   have h3:=hr j hj;have:=h.h0
   rcases h.nq j h3.1 with h2|h2
   ·exact .inl (h.nm _ h3.1 h2)
   ·exact .inr (by omega)),h.h0⟩
theorem DoT.done(h:DoT B q M w0 w x pe g kb vb cb lb V C){b N:Nat}(hb:b∈dL g kb vb cb lb V C)(ht:w.mapTurned w' b)(hS:SG B w' g kb vb cb lb KL V C' LL)(hn:∀k∈dL g kb vb cb lb V C',k∈dL g kb vb cb lb V C∨k=N)(hN:q+3≤N):DoM B q M w0 w' x pe g kb vb cb lb KL V C' LL:=by
 have h1:=h.nq b hb;refine⟨hS,h.bo.keep (bO ht h.bo.lt (by omega)),h.bi.keep (bO ht h.bi.lt (by omega)),h.bw.keep (bO ht h.bw.lt (by omega)),fun k hk=>?_,h.bel.grown ht.grown h.hB (fun j hj=>by cases hj;exact h.low _ hb),(by rw[eE ht];exact h.hB),(fun k hk hkq=>(hn k hk).elim (fun h2=>h.nm k h2 hkq) (fun h2=>by omega)),h.chg.grown ht.grown (fun j hj=>by
  cases hj;have:=h.h0
  rcases h1 with h2|h2
  ·exact .inl (h.nm _ hb h2)
  ·exact .inr (by omega)),h.h0⟩
 rcases hn k hk with h2|h2
 ·exact h.nq k h2
 ·exact .inr (by omega)
end
/-! what the steps come to -/
theorem nodup_mid{α β:Type}{f:α→β}{l1 l2:List α}{a:α}(h:((l1++a::l2).map f).Nodup):(∀x∈l1,f x≠f a)∧(∀x∈l2,f x≠f a):=by
 simp only[sQ,sT,tQ,tN,sH,not_exists,not_and,sK]at h;exact⟨fun x hx e1=>h.2.2 _ ⟨x,hx,rfl⟩ _ (.inl rfl) e1,fun x hx e1=>h.2.1.1 x hx e1⟩
theorem setV_mid{S1 S2:StV}{p:Wh}{E0 E:List (Rf×VD)}(h1:∀e∈S1,e.1≠p)(h2:∀e∈S2,e.1≠p):setV (S1++(p,E0)::S2) p E=S1++(p,E)::S2:=by
 unfold setV;rw[sQ,sT,if_pos rfl];have g1:S1.map (fun e=>if e.1=p then (e.1,E) else e)=S1:=by
  conv=>rhs;rw[←xF S1]
  exact uP fun e he=>by rw[if_neg (h1 e he)];rfl
 have g2:S2.map (fun e=>if e.1=p then (e.1,E) else e)=S2:=by
  conv=>rhs;rw[←xF S2]
  exact uP fun e he=>by rw[if_neg (h2 e he)];rfl
 rw[g1,g2]
theorem getPl_mid{S1 S2:StV}{p:Wh}{E0:List (Rf×VD)}(h1:∀e∈S1,e.1≠p):eY (S1++(p,E0)::S2) p=E0:=by
 unfold eY;have hn:S1.find? (fun e=>decide (e.1=p))=none:=uR.2 fun e he=>by simpa using h1 e he
 rw[xI,hn];simp
theorem newV_do{K:List OpI}{x:OpI}{V1 V2:dM}{b:Nat}{E0:List (Rf×VD)}(h:(V1++(wh1 x,b,E0)::V2).map (fun x=>(x.1,x.2.2))=eS (lA K) (wh1 x))(hn:((V1++(wh1 x,b,E0)::V2).map Prod.fst).Nodup):
 (V1++(wh1 x,b,doE x E0)::V2).map (fun x=>(x.1,x.2.2))=lA (K++[x]):=by
 obtain⟨n1,n2⟩:=nodup_mid hn
 have g1:∀e∈V1.map (fun x=>(x.1,x.2.2)),e.1≠wh1 x:=fun e he=>by obtain⟨y,hy,rfl⟩:=sH.1 he;exact n1 y hy
 have g2:∀e∈V2.map (fun x=>(x.1,x.2.2)),e.1≠wh1 x:=fun e he=>by obtain⟨y,hy,rfl⟩:=sH.1 he;exact n2 y hy
 have e1:lA (K++[x])=setV (eS (lA K) (wh1 x)) (wh1 x) (doE x (eY (lA K) (wh1 x))):=by
  unfold lA;rw[xV];rfl
 rw[e1,←rX (lA K) (wh1 x) (wh1 x),←h,sQ,sT,sQ,sT,setV_mid g1 g2,getPl_mid g1]
theorem newC_do(K:List OpI)(x:OpI):lZ (K++[x])=if x.1.ins=true then lS (lZ K) (wh0 x) x.2 else lZ K:=by
 unfold lZ;rw[xV];rfl
theorem insL_do(K:List OpI)(x:OpI):iB (K++[x])=if x.1.ins=true then iB K++[(x.2,eG x)] else iB K:=by
 unfold iB;rw[uN];by_cases h:x.1.ins=true
 ·rw[if_pos h,uI (by simpa using h)];simp
 ·rw[if_neg h,uJ (by simpa using h)];simp
/-! how long -/
theorem touchV_len(S:StV)(w:Wh):(eS S w).length≤S.length+1:=by unfold eS;split<;>simp
theorem setV_len(S:StV)(w:Wh)(E:List (Rf×VD)):(setV S w E).length=S.length:=by unfold setV;simp
theorem predE_len(x:OpI)(p:Rf)(E:List (Rf×VD)):(fH x E p).length≤E.length:=by
 unfold fH;split
 ·simp
 ·exact vC _ _
theorem oI(x:OpI):∀(l:List Rf) (E:List (Rf×VD)),(l.foldl (fH x) E).length≤E.length
 | [],E=>sC _
 |p::l,E=>by rw[uZ];exact sR (oI x l _) (predE_len x p E)
theorem predE_ids(x:OpI)(p:Rf)(E:List (Rf×VD)):∀e∈fH x E p,e.1∈E.map Prod.fst:=by
 intro e he;unfold fH at he;split at he
 ·obtain⟨y,hy,rfl⟩:=sH.1 he
  have:(if y.1=p then (y.1,y.2.add x.1.vn) else y).1=y.1:=by split<;>rfl
  rw[this];exact tY hy
 ·exact tY (uH.1 he).1
theorem kX(x:OpI):∀(l:List Rf) (E:List (Rf×VD)),∀e∈l.foldl (fH x) E,e.1∈E.map Prod.fst
 | [],E=>fun e he=>tY he
 |p::l,E=>fun e he=>by
  rw[uZ]at he;have h1:=kX x l _ e he;obtain⟨y,hy,e1⟩:=sH.1 h1
  rw[←e1];exact predE_ids x p E y hy
theorem doE_len(x:OpI)(E:List (Rf×VD)):(doE x E).length≤E.length+1:=by
 unfold doE rQ;have:=oI x x.1.l E
 split
 ·simp;omega
 ·omega
theorem doE_ids(x:OpI)(E:List (Rf×VD)):∀e∈doE x E,e.1=x.2∨e.1∈E.map Prod.fst:=by
 intro e he;unfold doE rQ at he;split at he
 ·rcases sI.1 he with he|he
  ·exact .inr (kX x _ E e he)
  ·rw[sN.1 he];exact .inl rfl
 ·exact .inr (kX x _ E e he)
theorem oA{S:StV}{w:Wh}{e:Wh×List (Rf×VD)}(h:e∈eS S w):e∈S∨e=(w,[]):=by
 unfold eS at h;split at h
 ·exact .inl h
 ·rcases sI.1 h with h|h
  ·exact .inl h
  ·exact .inr (sN.1 h)
theorem getPl_mem(S:StV)(w:Wh):eY S w=[]∨∃e∈S,eY S w=e.2:=by
 unfold eY;cases hf:S.find? (fun e=>decide (e.1=w)) with
 |none=>exact .inl rfl
 |some e=>exact .inr ⟨e,uB hf,rfl⟩
structure NewVB(S:StV)(K:List OpI):Prop where
 len:S.length≤K.length
 each:∀e∈S,e.2.length≤K.length
 ids:∀e∈S,∀y∈e.2,y.1∈K.map Prod.snd
theorem newV_b(K:List OpI):NewVB (lA K) K:=by
 suffices h:∀(l P:List OpI) (S:StV),NewVB S P→NewVB (l.foldl doV S) (P++l) by
  have:=h K [] [] ⟨by simp,by simp,by simp⟩
  simpa[lA] using this
 intro l;induction l with
 |nil=>intro P S h;simpa using h
 |cons x l ih =>
  intro P S h;rw[uZ,show P++x::l=(P++[x])++l from by simp];refine ih _ _ ⟨?_,fun e he=>?_,fun e he y hy=>?_⟩
  ·unfold doV;rw[setV_len];have:=touchV_len S (wh1 x)
   have:=h.len
   simp;omega
  all_goals
   unfold doV setV at he;obtain⟨d,hd,rfl⟩:=sH.1 he
   simp only[sG,vY,sQ,sT,vM,sI,sN]
  ·split
   ·have h1:=doE_len x (eY S (wh1 x));have h2:(eY S (wh1 x)).length≤P.length:=by
     rcases getPl_mem S (wh1 x) with e1|⟨e,he,e1⟩
     ·rw[e1];simp
     ·rw[e1];exact h.each e he
    simp only;omega
   ·rcases oA hd with h1|rfl
    ·have:=h.each d h1;omega
    ·simp
  ·split at hy
   ·rcases doE_ids x _ y hy with h1|h1
    ·exact .inr h1
    ·rcases getPl_mem S (wh1 x) with e1|⟨e,he,e1⟩
     ·rw[e1]at h1;cases h1
     ·rw[e1]at h1;obtain⟨z,hz,e2⟩:=sH.1 h1
      exact .inl (e2▸h.ids e he z hz)
   ·rcases oA hd with h1|rfl
    ·exact .inl (h.ids d h1 y hy)
    ·cases hy
theorem newC_len(K:List OpI):(lZ K).length≤K.length∧∀e∈lZ K,e.2.length≤K.length:=by
 suffices h:∀(l:List OpI) (P:Nat) (S:StC),(S.length≤P∧∀e∈S,e.2.length≤P)→((l.foldl doC S).length≤P+l.length∧∀e∈l.foldl doC S,e.2.length≤P+l.length) by
  have:=h K 0 [] ⟨by simp,by simp⟩
  simpa[lZ] using this
 intro l;induction l with
 |nil=>intro P S h;simpa using h
 |cons x l ih =>
  intro P S h;rw[uZ,sW,show P+(l.length+1)=(P+1)+l.length from by omega];refine ih _ _ ?_;unfold doC;split
  ·unfold lS;split
   ·refine⟨by simp;omega,fun e he=>?_⟩
    obtain⟨d,hd,rfl⟩:=sH.1 he
    have:=h.2 d hd
    split<;>simp<;>omega
   ·refine⟨by simp;omega,fun e he=>?_⟩
    rcases sI.1 he with he|he
    ·have:=h.2 e he;omega
    ·rw[sN.1 he];simp
  ·exact⟨by omega,fun e he=>by have:=h.2 e he;omega⟩
theorem allB_snoc{g kb vb cb lb b q:Nat}{V:dM}{C:dE}{p:Wh}{E:List (Rf×VD)}{k:Nat}(h:k∈dL g kb vb cb lb (V++[(p,b,E)]) C)(hb:q≤b):k∈dL g kb vb cb lb V C∨q≤k:=by
 rcases aN.1 h with e2|e2|e2|e2|e2|⟨x,hx,e2⟩|e2
 ·exact .inl (aN.2 (.inl e2))
 ·exact .inl (aN.2 (.inr (.inl e2)))
 ·exact .inl (aN.2 (.inr (.inr (.inl e2))))
 ·exact .inl (aN.2 (.inr (.inr (.inr (.inl e2)))))
 ·exact .inl (aN.2 (.inr (.inr (.inr (.inr (.inl e2))))))
 ·rcases sI.1 hx with hx|hx
  ·exact .inl (aN.2 (.inr (.inr (.inr (.inr (.inr (.inl ⟨x,hx,e2⟩)))))))
  ·rw[sN.1 hx]at e2;exact .inr (by simp only at e2;omega)
 ·exact .inl (aN.2 (.inr (.inr (.inr (.inr (.inr (.inr e2)))))))
theorem qG{g kb vb cb lb b:Nat}{V1 V2:dM}{C:dE}{p:Wh}{E:List (Rf×VD)}: b∈dL g kb vb cb lb (V1++(p,b,E)::V2) C:=aN.2 (.inr (.inr (.inr (.inr (.inr (.inl ⟨(p,b,E),by simp,rfl⟩))))))
theorem mY{g kb vb cb lb b:Nat}{V1 V2:dM}{C:dE}{p:Wh}{E E':List (Rf×VD)}{k:Nat}(h:k∈dL g kb vb cb lb (V1++(p,b,E')::V2) C):k∈dL g kb vb cb lb (V1++(p,b,E)::V2) C:=by
 have he:(V1++(p,b,E')::V2).map (fun x=>x.2.1)=(V1++(p,b,E)::V2).map (fun x=>x.2.1):=by simp
 unfold dL at h ⊢;rw[←he];exact h
theorem elem64{x:OpI}(h1:I64R x.2)(h2:I64R (elP x)):I64R (dI x):=by
 unfold dI;split
 ·exact h1
 ·exact h2
theorem insL_new{K:List OpI}{n:Rf}(h:n∉K.map Prod.snd):∀e∈iB K,e.1≠n:=fun e he e1=>by
 unfold iB at he;obtain⟨y,hy,rfl⟩:=sH.1 he
 exact h (e1▸tY (uH.1 hy).1)
theorem insL_len(K:List OpI):(iB K).length≤K.length:=by
 unfold iB;rw[sP];exact vC _ _
theorem newK_new{K:List OpI}{n:Rf}(h:n∉K.map Prod.snd)(h0:n≠(0,0)):∀e∈fN K,e.1≠n:=fun e he e1=>by
 rcases newK_keys he with h1|h1
 ·exact h0 (e1▸h1)
 ·exact h (e1▸h1)
theorem newK_len(K:List OpI):(fN K).length≤K.length+1:=by
 unfold fN;rw[sW,sP];have:=vC (fun x:OpI=>decide (x.1.k=2)) K
 omega
theorem start_E{K:List OpI}{n:Rf}{V1 V2:dM}{p:Wh}{b:Nat}{E:List (Rf×VD)}(h:(V1++(p,b,E)::V2).map (fun x=>(x.1,x.2.2))=eS (lA K) p)(hn:n∉K.map Prod.snd):E.length≤K.length∧∀e∈E,e.1≠n:=by
 have hm:(p,E)∈eS (lA K) p:=by rw[←h];exact sH.2 ⟨(p,b,E),by simp,rfl⟩
 have hb:=newV_b K;rcases oA hm with h1|h1
 ·exact⟨hb.each _ h1,fun e he e1=>hn (e1▸hb.ids _ h1 e he)⟩
 ·cases h1;exact⟨by simp,fun e he=>by cases he⟩
theorem DoM.fin{B q:Nat}{M:List Nat}{w0 w:World}{x:OpI}{pe:Rf}{g kb vb cb lb b:Nat}{K:List OpI}{V1 V2:dM}{C:dE}{E0:List (Rf×VD)}(h:DoM B q M w0 w x pe g kb vb cb lb (fN (K++[x])) (V1++(wh1 x,b,doE x E0)::V2) C (iB (K++[x])))
 (hV:(V1++(wh1 x,b,E0)::V2).map (fun x=>(x.1,x.2.2))=eS (lA K) (wh1 x)) (hC:C.map (fun y=>(y.1,y.2.2))=lZ (K++[x])):SMem B w g kb vb cb lb (K++[x]) (V1++(wh1 x,b,doE x E0)::V2) C∧Below B w0 w∧Chg (fun k=>k∈M) w0 w:=by
 have hn:=h.sg.places;exact⟨h.sg.smem (newV_do hV (by simpa using hn)) hC,h.bel,h.chg⟩
end
section
open Go.RowKit
theorem Bk.of_base{M:List ChD}(h:Bk M):∀ {L:List ChD},L.map ChD.base=M.map ChD.base→Bk L:=by
 induction h with
 |nil =>
  intro L e;rw[vM,xB]at e;subst e;exact .nil
 |snoc hb he hw hn hr hf ih =>
  rename_i M c;intro L e;rcases wO L with rfl|⟨L',c',rfl⟩
  ·simp at e
  ·rw[wP]at e ⊢;rw[sQ,sQ]at e;obtain⟨e1,e2⟩:=List.append_inj' e rfl
   simp only[sT,vM,wM,and_true]at e2;have hrefs:aB L'=aB M:=by rw[←jD L',←jD M,e1]
   have hrf:c'.rf=c.rf:=by rw[←eW c',←eW c,e2]
   refine .snoc (ih e1) ?_ ?_ ?_ ?_ ?_
   ·rw[←mM,e2,mM];exact he
   ·intro o ho;have h1:Go.Proofs.YtmpkejflgpodkaaGreatDoor.base o∈c'.base.ops:=tY ho;rw[e2]at h1;obtain⟨o2,ho2,e3⟩:=sH.1 h1
    have h4:(Go.Proofs.YtmpkejflgpodkaaGreatDoor.base o2).vn=(Go.Proofs.YtmpkejflgpodkaaGreatDoor.base o).vn:=by rw[e3]
    have h4:o2.vn=o.vn:=h4;rw[←h4];exact hw o2 ho2
   ·rw[hrf,hrefs];exact hn
   ·rw[←kW,e1,e2,kW];exact hr
   ·rw[←mU,e1,e2,mU];exact hf
theorem qT{o:OpD}(h:fC o=0):o.key.size≤20∧o.l.length≤12∧o.k≤4:=by
 unfold fC opE at h;obtain⟨h1,h⟩:=aR h (by omega)
 obtain⟨h2,h⟩:=aR h (by omega)
 obtain⟨h3,h⟩:=aR h (by omega)
 by_cases h4:fE o.l≠0
 ·rw[if_pos h4]at h;exact absurd h h4
 ·refine⟨by omega,?_,by omega⟩
  simp only[ne_eq,Decidable.not_not]at h4;unfold fE at h4;obtain⟨h5,_⟩:=aR h4 (by omega)
  omega
theorem wrap_wf{x:Int}(h:(Lit.int .i64 x).wf=true):IntKind.i64.wrap x=x:=by
 simp only[Lit.wf,IntKind.min,IntKind.max,IntKind.signed,IntKind.bits]at h;simp at h;exact uG _ (by omega)
theorem Bk.opsOk{L:List ChD}(h:Bk L){x:OpI}(hx:x∈aH L):fC x.1=0∧(Lit.int .i64 x.1.vn).wf=true:=by
 obtain⟨c,hc,hxc⟩:=iI.1 hx
 have h1:=cR hxc;exact⟨mV (h.err c hc).1 _ h1.2.2.2,(h.err c hc).2 _ h1.2.2.2⟩
theorem Bk.rows1{L:List ChD}(h:Bk L):Rows1 (aH L) where
 nd:=h.ids
 may:=h.ahead
 wf:=fun x hx=>wrap_wf (h.opsOk hx).2
 kd:=fun x hx=>⟨(mR (h.opsOk hx).1).1,(qT (h.opsOk hx).1).2.2⟩
theorem qR(c:ChD):c.opsI.length=c.ops.length:=by
 unfold ChD.opsI;generalize c.st=st;generalize c.ops=l;induction l generalizing st with
 |nil=>rfl
 |cons o l ih=>rw[dY,sW,sW,ih]
theorem Bk.lenOps{L:List ChD}(h:Bk L):(aH L).length≤40*L.length:=by
 have hk:∀c∈L,c.ops.length≤40:=fun c hc=>(fS (h.err c hc).1).2.2.1
 clear h;induction L with
 |nil=>simp[aH]
 |cons c L ih =>
  have h1:=hk c (tA ..);have h2:=ih fun d hd=>hk d (tS _ hd)
  have h3:aH (c::L)=c.opsI++aH L:=by simp[aH]
  rw[h3,sG,qR,sW];omega
end
section
theorem sKind_any(K:List OpI)(o1 o2:Int)(A:Option Addr)(c:Nat)(w:World)(hr:aC (fun k=>k<w.heap.size) w 15 A K.length (cN K))(hl:K.length≤100000):
 Calls Tryz.prog 8 #[.agg #[.slice A K.length c],.agg #[.int .i64 o1,.int .i64 o2]] w fun e w'=>e=.returned (.int .i64 (dG K (o1,o2)))∧Below w.heap.size w w':=by
 obtain⟨n,hn⟩:∃n,K.length=n:=⟨_,rfl⟩
 have HN:=Hi hn;have hb1:Below w.heap.size w (w.alloc (.cells #[.slice A n c] 31)):=(sB _ w).alloc (sC _) _;have h1:=Blk.new w 31 #[.slice A n c];have hb2:Below w.heap.size w ((w.alloc (.cells #[.slice A n c] 31)).alloc (.cells #[.int .i64 o1,.int .i64 o2] 24)):=hb1.alloc hb1.size _;have h2:=Blk.new (w.alloc (.cells #[.slice A n c] 31)) 24 #[.int .i64 o1,.int .i64 o2];have H1:=Hi (h1.keep (sO _ (.cells #[.int .i64 o1,.int .i64 o2] 24) _ h1.lt));have H2:=Hi h2;have HB:=Hi hb2;have HR:=Hi (aA hr hb2);rw[World.size_alloc]at H2;rw[hn]at hl HR ⊢;clear hr hb1 hb2 h1 h2 hn;go_enter Tryz.func8,Tryz.ntmps8;go_upto_region 1 with fail
 generalize (w.alloc (.cells #[.slice A n c] 31)).alloc (.cells #[.int .i64 o1,.int .i64 o2] 24)=w1 at H1 H2 HB HR ⊢;obtain⟨B,hB⟩:∃B,w.heap.size=B:=⟨_,rfl⟩
 have HBB:=Hi hB;rw[hB]at H1 H2 HB ⊢;clear hB;have p1:=cZ H2.o 0 rfl;have p2:=cZ H2.o 1 rfl
 have C1:=cG o1 o2 w1;obtain⟨rb,hrb⟩:∃b,bK o1 o2=b:=⟨_,rfl⟩
 have hrd:rb=decide (((o1,o2):Rf)=(0,0)):=by rw[←hrb,eN];rfl
 have HRD:=Hi hrd;rw[hrb]at C1;clear hrb hrd;go_wp2_with fail
 go_at_call 30;refine C1.mono ?_;rintro e w2 ⟨rfl,hb⟩;have H1b:=Hi (H1.o.keep (hb.block _ H1.o.lt));have H2b:=Hi (H2.o.keep (hb.block _ H2.o.lt));have HB2:Hid (Below B w w2):=HB.o.trans (hb.mono (by rw[←HBB.o];exact HB.o.size));have HR2:=Hi (aA HR.o hb);clear C1 hb p1 p2 H1 H2 HB HR;cases rb with
 |true =>
  have HK:Hid (dG K (o1,o2)=5):=by show _=_;unfold dG;rw[if_pos (of_decide_eq_true HRD.o.symm)]
  go_wp2_with fail
  go_ret;exact⟨by rw[HK.o];rfl,by rw[HBB.o];exact HB2.o⟩
 |false =>
  have HNR:Hid (¬((o1,o2):Rf)=(0,0)):=of_decide_eq_false HRD.o.symm;have p0:=cZ H1b.o 0 rfl;have p1:=cZ H2b.o 0 rfl;have p2:=cZ H2b.o 1 rfl
  have C2:=slook_any K (o1,o2) (fun k=>k<w2.heap.size) A c w2 (by rw[HN.o];exact HR2.o) (fun _ h=>h) (by rw[HN.o];omega);rw[HN.o]at C2;go_wp2_with fail
  go_at_call 31;refine C2.mono ?_;rintro e w3 ⟨i,rfl,hi,hb⟩;have H1c:=Hi (H1b.o.keep (hb.block _ H1b.o.lt));have HB3:Hid (Below B w w3):=HB2.o.trans (hb.mono (by rw[←HBB.o];exact HB2.o.size));have HR3:=Hi (aA HR2.o hb);clear C2 hb p0 p1 p2 H1b H2b HB2 HR2;rcases hi with⟨rfl,hno⟩|⟨kk,y,rfl,hy,hlk⟩
  ·have HK:Hid (dG K (o1,o2)=0):=by show _=_;unfold dG;rw[if_neg HNR.o,hno]
   clear hno;go_wp2_with fail
   go_ret;exact⟨by rw[HK.o];rfl,by rw[HBB.o];exact HB3.o⟩
  ·have hK2:=HR3.o;obtain⟨b,o,hA,-,key⟩:=iA hK2 HN.o hy
   subst hA;have hkn:kk<n:=by rw[←HN.o];exact(sF.1 hy).1
   have p0:=cZ H1c.o 0 rfl;have d0:w3.cell? ⟨b,o+kk*15,none⟩=some (.int .i64 y.1.k):=key 0 _ (by omega) rfl;have d7:w3.cell? ⟨b,o+kk*15+7,none⟩=some (.int .i64 y.1.vk):=key 7 _ (by omega) rfl;have hk0:decide ((kk:Int)<0)=false:=decide_eq_false (by omega);clear key hK2;by_cases h2:y.1.k=2
   ·have HK:Hid (dG K (o1,o2)=y.1.vk):=by show _=_;unfold dG;rw[if_neg HNR.o,hlk];simp only[h2,if_true]
    have e1:(y.1.k != 2)=false:=by simp[h2]
    clear hlk hy h2;go_wp2_with fail
    go_ret;exact⟨by rw[HK.o];rfl,by rw[HBB.o];exact HB3.o⟩
   ·have HK:Hid (dG K (o1,o2)=0):=by show _=_;unfold dG;rw[if_neg HNR.o,hlk];simp only[h2,if_false]
    have e1:(y.1.k != 2)=true:=by simp[h2]
    clear hlk hy h2;go_wp2_with fail
    go_ret;exact⟨by rw[HK.o];rfl,by rw[HBB.o];exact HB3.o⟩
end
section
open Go.RowKit
theorem sum_perm{l l':List Int}(h:l.Perm l'):l.sum=l'.sum:=by
 induction h with
 |nil=>rfl
 |cons x _ ih=>rw[List.sum_cons,List.sum_cons,ih]
 |swap x y l=>simp only[List.sum_cons];omega
 |trans _ _ h1 h2=>rw[h1,h2]
theorem incP_perm{K K':List OpI}(h:K.Perm K')(n:Rf):iR K n=iR K' n:=by
 unfold iR;exact sum_perm (h.map _)
theorem overP_perm{K K':List OpI}(h:K.Perm K')(n:Rf):gJ K n=gJ K' n:=by
 unfold gJ;rw[xZ,wR,wR];constructor
 ·rintro⟨y,hy,e⟩;exact⟨y,h.mem_iff.1 hy,e⟩
 ·rintro⟨y,hy,e⟩;exact⟨y,h.mem_iff.2 hy,e⟩
theorem atV_perm{K K':List OpI}(h:K.Perm K')(w:Wh):(atV K w).Perm (atV K' w):=by
 have h1:cB K w=cB K' w:=by
  funext x;unfold cB;rw[overP_perm h]
 have h2:(fun x:OpI=>(x.2,gQ K x))=fun x=>(x.2,gQ K' x):=by
  funext x;unfold gQ;rw[incP_perm h]
 unfold atV;rw[h1,h2];exact(h.filter _).map _
theorem overP_base(K:List OpI)(n:Rf):gJ (K.map bI) n=gJ K n:=by
 unfold gJ;rw[List.any_map];rfl
theorem incP_base(K:List OpI)(n:Rf):iR (K.map bI) n=iR K n:=by
 unfold iR;rw[vG];rfl
theorem atV_base(K:List OpI)(w:Wh):atV (K.map bI) w=atV K w:=by
 unfold atV;rw[List.filter_map,vG];have h1:cB (K.map bI) w∘bI=cB K w:=by
  funext x;show cB (K.map bI) w (bI x)=_;unfold cB;rw[overP_base];rfl
 have h2:((fun x:OpI=>(x.2,gQ (K.map bI) x))∘bI)=fun x=>(x.2,gQ K x):=by
  funext x;show((bI x).2,gQ (K.map bI) (bI x))=_
  unfold gQ;rw[incP_base];rfl
 rw[h1,h2]
theorem atV_same{K K':List OpI}(h:(K.map bI).Perm (K'.map bI))(w:Wh):(atV K w).Perm (atV K' w):=by
 rw[←atV_base K,←atV_base K'];exact atV_perm h w
theorem mW{K:List OpI}(h:(K.map Prod.snd).Nodup)(w:Wh):((atV K w).map Prod.fst).Nodup:=by
 unfold atV;rw[vG];exact h.sublist (xK.map _)
theorem atV_len(K:List OpI)(w:Wh):(atV K w).length≤K.length:=by
 unfold atV;rw[sP];exact vC _ _
def jU(l:List (Rf×VD))(e:Rf×VD):List (Rf×VD):=l.takeWhile (fun q=>aP e.1 q.1)++e::l.dropWhile (fun q=>aP e.1 q.1)
theorem nJ{α β:Type}(f:α→β)(p:β→Bool):∀l:List α,(l.map f).takeWhile p=(l.takeWhile (p∘f)).map f
 | []=>rfl
 |x::l=>by
  rw[sT,List.takeWhile_cons,List.takeWhile_cons];show(if p (f x) then _ else _)=_
  split
  ·rename_i h;simp only[Function.comp,h,if_true,sT];rw[←nJ f p l]
  ·rename_i h;simp only[Function.comp,h];rfl
theorem nV{α β:Type}(f:α→β)(p:β→Bool):∀l:List α,(l.map f).dropWhile p=(l.dropWhile (p∘f)).map f
 | []=>rfl
 |x::l=>by
  rw[sT,List.dropWhile_cons,List.dropWhile_cons];show(if p (f x) then _ else _)=_
  split
  ·rename_i h;simp only[Function.comp,h,if_true];rw[←nV f p l]
  ·rename_i h;simp only[Function.comp,h];rfl
theorem putDV_fst(l:List (Rf×VD))(e:Rf×VD):(jU l e).map Prod.fst=kM (l.map Prod.fst) e.1:=by
 unfold jU kM;rw[sQ,sT,nJ,nV];rfl
theorem putDV_perm(l:List (Rf×VD))(e:Rf×VD):(jU l e).Perm (e::l):=by
 unfold jU;have:=uV (p:=fun q:Rf×VD=>aP e.1 q.1) (l:=l)
 conv=>rhs;rw[←this]
 exact vU
def fallV(E:List (Rf×VD)):List (Rf×VD):=E.foldl jU []
theorem fallV_go:∀(E out:List (Rf×VD)),(E.foldl jU out).Perm (out++E)∧(E.foldl jU out).map Prod.fst=(E.map Prod.fst).foldl kM (out.map Prod.fst)
 | [],out=>⟨by simp,rfl⟩
 |e::E,out=>by
  obtain⟨h1,h2⟩:=fallV_go E (jU out e)
  rw[uZ];refine⟨h1.trans ?_,by rw[h2,putDV_fst];rfl⟩
  refine((putDV_perm out e).append_right E).trans ?_
  exact vU.symm
theorem pX{E:List (Rf×VD)}(h:(E.map Prod.fst).Nodup):(fallV E).Perm E∧iU ((fallV E).map Prod.fst):=by
 obtain⟨h1,h2⟩:=fallV_go E []
 refine⟨by unfold fallV;simpa using h1,?_⟩
 unfold fallV;rw[h2];exact(qP (E.map Prod.fst) [] List.Pairwise.nil (by simpa using h)).1
theorem iU.nodup'{l:List Rf}(h:iU l):l.Nodup:=h.imp fun hx e=>by rw[e,dR]at hx;cases hx
theorem fall_eq{a b:List Rf}(ha:iU a)(hb:iU b)(h:∀r,r∈a↔r∈b):a=b:=by
 have h1:lI a.reverse:=by unfold lI;rw[List.pairwise_reverse];exact ha
 have h2:lI b.reverse:=by unfold lI;rw[List.pairwise_reverse];exact hb
 obtain⟨a1,a2⟩:=oU h1
 obtain⟨b1,b2⟩:=oU h2
 have:=asc_eq a1 a2 b1 b2 fun r=>by rw[uK,uK,h r]
 exact List.reverse_inj.1 this
theorem fall_pairs:∀ {a b:List (Rf×VD)},a.Perm b→iU (a.map Prod.fst)→iU (b.map Prod.fst)→a=b:=by
 intro a b hp ha hb;have hf:a.map Prod.fst=b.map Prod.fst:=fall_eq ha hb fun r=>(hp.map Prod.fst).mem_iff
 have hn:=hb.nodup';clear ha hb;induction a generalizing b with
 |nil=>exact hp.nil_eq
 |cons x a ih =>
  cases b with
  |nil=>cases hf
  |cons y b =>
   simp only[sT,wM]at hf;rw[sT,tN]at hn;have hxy:x=y:=by
    rcases sK.1 (hp.mem_iff.1 (tA ..)) with h|h
    ·exact h
    ·exact(hn.1 (by rw[←hf.1];exact tY h)).elim
   subst hxy;rw[ih hp.cons_inv hf.2 hn.2]
end
section
def cmpD(r q:Rf):Int:=pZ q r
theorem lt_cmpD(x y:Rf):ltOf cmpD x y=ltOf pZ y x:=rfl
theorem swo_cmpD:Sort.SWO (ltOf cmpD) where
 irrefl x:=by rw[lt_cmpD,lE];simp
 trans x y z h1 h2:=by rw[lt_cmpD,lE]at *;simp only[decide_eq_true_eq]at *;omega
 ntrans x y z h1 h2:=by rw[lt_cmpD,lE]at *;simp only[decide_eq_false_iff_not]at *;omega
theorem at1_any(r q:Rf)(w:World):Calls Tryz.prog 99 #[bB r,bB q] w fun e w'=>e=.returned (.int .i64 (cmpD r q))∧Gr w w':=by
 obtain⟨ra,rs⟩:=r
 obtain⟨qa,qs⟩:=q
 have C:=fun V=>mJ (qa,qs) (ra,rs) V
 simp only[bB,cmpD]at C ⊢;generalize pZ (qa,qs) (ra,rs)=z at C ⊢;go_enter Tryz.func99,Tryz.ntmps99;have hB:Gr w ((w.alloc (.cells #[.int .i64 ra,.int .i64 rs] 24)).alloc (.cells #[.int .i64 qa,.int .i64 qs] 24)):=((Gr.refl w).alloc _).alloc _;have HB:=Hi hB;clear hB;go_wp2_with fail
 go_at_call 44;refine(C _).mono ?_
 rintro e w3 ⟨rfl,hg⟩;have HG:Hid (Gr w w3):=HB.o.trans hg;clear hg C;go_wp2_with fail
 go_ret;exact⟨rfl,HG.o⟩
def DescW(l:List Rf):Prop:=∀(i j:Nat) (x y:Rf),i<j→l[i]?=some x→l[j]?=some y→¬(x.1<y.1∨x.1=y.1∧x.2<y.2)
theorem sortD_any(g cap:Nat)(l:List Rf)(w:World)(h:bF w g l)(hg:g<w.heap.size)(hl:l.length≤1000000):
 Calls Tryz.prog 43 #[.slice (some ⟨g,0,none⟩) l.length cap,.func (.func 99) #[] #[]] w fun e w' =>
  e=.returned (.tuple #[])∧∃l',l'.Perm l∧DescW l'∧bF w' g l'∧Chg (fun k=>k=g) w w':=by
 have eg:∀args w,(callFunc 99 args).run Tryz.prog w=.ok (.enter 99 args) w:=enters_of Tryz.func99 (by kernel_rfl) (wY (show Tryz.f99.body.isSome=true by kernel_rfl)).symm;have hc:CmpLays Tryz.prog 99 #[] jQ 2 cmpD g 0 l.toArray.size w:=fun _ _ _ _ x y=>at1_any x y _
 have:=AnyQ.slices_SortFunc Tryz.sortId 2 Tryz.isAgg24 Tryz.sizeOf24 jQ (fun _=>rfl) encR_one cmpD swo_cmpD 99 #[] g 0 cap l.toArray w eg hc h.holds hg (by simp;omega)
 rw[show l.toArray.size=l.length from by simp]at this;refine this.mono ?_;rintro e w' ⟨rfl,d',n,os,hp,hs,rfl⟩;have hsz:d'.size=l.length:=by simpa using hp.1
 refine⟨rfl,d'.toList,?_,?_,bF.of_holds (by simpa using holdsK_sortWorldK_c jQ 2 w g 0 l.toArray d' n os h.holds hg (by simpa using hsz)),kC⟩
 ·have h1:d'.extract 0 l.length=d':=by rw[←hsz];exact wS
  have h2:l.toArray.extract 0 l.length=l.toArray:=by
   have:l.length=l.toArray.size:=by simp
   rw[this];exact wS
  have h3:=hp.2.2;rw[h1,h2]at h3;exact h3
 ·intro i j x y hij hx hy;have hj:j<l.length:=by
   rw[←hsz];rcases vF j d'.size with h|h
   ·exact h
   ·rw[uF (by simpa using h)]at hy;cases hy
  have h1:=hs i j (vI _) hij hj;have ex:d'[i]! = x:=by
   rw[vZ]at hx;rw[wJ,vN,hx];rfl
  have ey:d'[j]! = y:=by
   rw[vZ]at hy;rw[wJ,vN,hy];rfl
  rw[lt_cmpD,lE,ex,ey]at h1;simpa using h1
theorem sortOwnD(A:Option Addr)(cap:Nat)(l:List Rf)(base:Nat)(w:World)(ho:w.ownsRow base 24 2 (.slice A l.length cap) l.length (aE l))(hl:l.length≤1000000):
 Calls Tryz.prog 43 #[.slice A l.length cap,.func (.func 99) #[] #[]] w fun e w' =>
  e=.returned (.tuple #[])∧∃l',l'.Perm l∧DescW l'∧aC (fun k=>k<w'.heap.size) w' 2 A l.length (aE l')∧Chg (fun k=>A=some ⟨k,0,none⟩∧base≤k∧k<w.heap.size) w w':=by
 rcases uS l.length with h0|h0
 ·obtain rfl:=tV.1 h0;refine(sortNoneI A cap _ w).mono ?_
  rintro e w' ⟨rfl,rfl⟩;exact⟨rfl,[],vP _,fun i j x y _ hx=>by simp at hx,⟨rfl,fun h=>by cases h⟩,Chg.refl _⟩
 ·obtain⟨g,cap',hA,hg1,hg2⟩:=ho.form h0
  simp only[tZ,true_and]at hA;obtain⟨rfl,rfl⟩:=hA
  have hrow:bF w g l:=fun j u hu=>by
   have hj:j<l.length*2:=by
    rcases vF j (l.length*2) with h|h
    ·exact h
    ·rw[uF (by rw[aY];exact h)]at hu;cases hu
   exact⟨(wC ho j hj).trans hu,xD ho j⟩
  refine(sortD_any g cap l w hrow hg2 hl).mono ?_
  rintro e w' ⟨rfl,l',hp,ha,hr,hc⟩;refine⟨rfl,l',hp,ha,?_,hc.mono fun k _ hk=>by rw[show k=g from hk];exact⟨rfl,hg1,hg2⟩⟩
  have h1:=hr.reads.more (D':=fun k=>k<w'.heap.size) fun k hk=>by rw[hk];exact sE hg2 hc.size
  rw[hp.length_eq]at h1;exact h1
theorem desc_fall{l:List Rf}(h:DescW l)(hn:l.Nodup):iU l:=by
 unfold iU;rw[wN];intro i j hi hj hij;have h1:=h i j l[i] l[j] hij (sD hi) (sD hj);have h2:l[i]≠l[j]:=fun e=>by
  have:=(List.getElem_inj hn).1 e
  omega
 rcases jB h2 with h3|h3
 ·exact(h1 (by simpa[aP] using h3)).elim
 ·exact h3
end
section
open Go.RowKit
def valJ(K:List OpI)(x:OpI):VD:=if x.1.vk=4 then (fG x).add (iR K x.2) else fG x
theorem valOf0_k(x:OpI):(fG x).k=x.1.vk:=by unfold fG;split<;>rfl
theorem valOf0_n(x:OpI):(fG x).n=x.1.vn:=by unfold fG;split<;>rfl
theorem incP_none{n:Rf}: ∀ {K:List OpI},(∀y∈K,y.1.k=4→n∉y.1.l)→iR K n=0
 | [],_=>rfl
 |y::K,h=>by
  have ih:=incP_none (K:=K) fun z hz=>h z (tS _ hz)
  unfold iR at ih ⊢;rw[sT,List.sum_cons,ih];by_cases hk:y.1.k=4
  ·rw[if_pos hk,wW (h y (tA ..) hk)];simp
  ·rw[if_neg hk];simp
theorem Rows1.inc0{K:List OpI}(h:Rows1 K){x:OpI}(hx:x∈K)(hk:¬x.1.vk=4):iR K x.2=0:=by
 refine incP_none fun y hy hy4 hm=>?_
 obtain⟨P,Q,e⟩:=vH hy
 obtain⟨z,hz,h1,h2,h3,h4⟩:=h.pred e hm
 have hzx:z=x:=qY h.nd (by rw[e];exact tE _ hz) hx h1;rw[hzx]at h4;exact hk (h4 hy4).2
theorem Rows1.val{K:List OpI}(h:Rows1 K){x:OpI}(hx:x∈K):valJ K x=gQ K x:=by
 unfold valJ gQ;split
 ·rfl
 ·rename_i hk;rw[h.inc0 hx hk,VD.add_zero (by rw[valOf0_n];exact h.wf x hx)]
def atG(K:List OpI)(w:Wh)(i:Nat):List (Rf×VD):=(((K.take i).filter (cB K w)).map fun x=>(x.2,valJ K x)).foldl jU []
def atJ(K:List OpI)(w:Wh):List (Rf×VD):=atG K w K.length
theorem atJ_is{K:List OpI}(h:Rows1 K)(w:Wh):atJ K w=fallV (atV K w):=by
 unfold atJ atG fallV atV;rw[sL (sC _)];congr 1;refine uP fun x hx=>?_
 rw[h.val (uH.1 hx).1]
theorem atG_yes{K:List OpI}{w:Wh}{i:Nat}{x:OpI}(h:K[i]?=some x)(hl:cB K w x=true):atG K w (i+1)=jU (atG K w i) (x.2,valJ K x):=by
 unfold atG;rw[sS,h];simp[uN,hl]
theorem atG_no{K:List OpI}{w:Wh}{i:Nat}{x:OpI}(h:K[i]?=some x)(hl:cB K w x=false):atG K w (i+1)=atG K w i:=by
 unfold atG;rw[sS,h];simp[uN,hl]
theorem fallV_len:∀(E out:List (Rf×VD)),(E.foldl jU out).length=out.length+E.length
 | [],out=>by simp
 |e::E,out=>by
  rw[uZ,fallV_len E];have:=(putDV_perm out e).length_eq
  simp only[sW]at this ⊢;omega
theorem atG_len(K:List OpI)(w:Wh)(i:Nat):(atG K w i).length≤i:=by
 unfold atG;rw[fallV_len,sP];have h1:=vC (cB K w) (K.take i);rw[tD]at h1;simp only[wA];omega
theorem putDV_at{l:List (Rf×VD)}{e:Rf×VD}{k:Nat}(hk:k≤l.length)(h1:∀x∈l.take k,aP e.1 x.1=true)(h2:∀x,l[k]?=some x→aP e.1 x.1=false):jU l e=l.take k++e::l.drop k:=by
 unfold jU;obtain⟨e1,e2⟩:=gB (fun q:Rf×VD=>aP e.1 q.1) l k hk h1 h2
 rw[e1,e2]
theorem overP_no{K:List OpI}{n:Rf}(h:∀y∈K,¬y.1.k=4→n∉y.1.l):gJ K n=false:=by
 unfold gJ;rw[List.any_eq_false];intro y hy;by_cases hk:y.1.k=4
 ·simp[hk]
 ·simp[h y hy hk]
theorem overP_yes{K:List OpI}{n:Rf}{y:OpI}(hy:y∈K)(hk:¬y.1.k=4)(hm:n∈y.1.l):gJ K n=true:=by
 unfold gJ;rw[wR];exact⟨y,hy,by simp[hk,hm]⟩
theorem incP_take{K:List OpI}{n:Rf}{i:Nat}{y:OpI}(h:K[i]?=some y):iR (K.take (i+1)) n=iR (K.take i) n+if y.1.k=4 then (y.1.l.count n:Int)*y.1.vn else 0:=by
 rw[sS,h];exact kQ _ _ _
end
section
structure OpsR(D:Nat→Prop)(w:World)(A:Option Addr)(K:List OpI):Prop where
 row:aC D w 15 A K.length (cN K)
 each:∀x∈K,aC D w 2 x.1.A x.1.l.length (aE x.1.l)∧x.1.l.length≤100000
theorem OpsR.keep{D:Nat→Prop}{w w':World}{A:Option Addr}{K:List OpI}(h:OpsR D w A K)(hk:dS D w w'):OpsR D w' A K :=
 ⟨h.row.keep hk,fun x hx=>⟨(h.each x hx).1.keep hk,(h.each x hx).2⟩⟩
theorem OpsR.more{D D':Nat→Prop}{w:World}{A:Option Addr}{K:List OpI}(h:OpsR D w A K)(hD:∀k,D k→D' k):OpsR D' w A K :=
 ⟨h.row.more hD,fun x hx=>⟨(h.each x hx).1.more hD,(h.each x hx).2⟩⟩
theorem OpsR.below{w w':World}{A:Option Addr}{K:List OpI}(h:OpsR (fun k=>k<w.heap.size) w A K)(hb:Below w.heap.size w w'):OpsR (fun k=>k<w'.heap.size) w' A K :=
 (h.keep fun k hk=>hb.block k hk).more fun _ hk=>sE hk hb.size
theorem OpsR.preds{D:Nat→Prop}{w:World}{A:Option Addr}{K:List OpI}(h:OpsR D w A K){i:Nat}{x:OpI}(hx:K[i]?=some x):aC D w 2 x.1.A x.1.l.length (aE x.1.l):=(h.each x (sJ hx)).1
theorem iK{α:Type}{l:List α}{k:Nat}{x y:α}(h:l[k]?=some x)(hy:y∈l.take (k+1)):y∈l.take k∨y=x:=by
 rw[sS,h]at hy;simpa using hy
theorem sOver_any(K:List OpI)(n1 n2:Int)(A:Option Addr)(c:Nat)(w:World)(hr:OpsR (fun k=>k<w.heap.size) w A K)(hl:K.length≤100000):
 Calls Tryz.prog 37 #[.agg #[.slice A K.length c],.agg #[.int .i64 n1,.int .i64 n2]] w fun e w'=>e=.returned (.bool (gJ K (n1,n2)))∧Below w.heap.size w w':=by
 obtain⟨n,hn⟩:∃n,K.length=n:=⟨_,rfl⟩
 have HN:=Hi hn;have hb1:Below w.heap.size w (w.alloc (.cells #[.slice A n c] 31)):=(sB _ w).alloc (sC _) _;have h1:=Blk.new w 31 #[.slice A n c];have hb2:Below w.heap.size w ((w.alloc (.cells #[.slice A n c] 31)).alloc (.cells #[.int .i64 n1,.int .i64 n2] 24)):=hb1.alloc hb1.size _;have h2:=Blk.new (w.alloc (.cells #[.slice A n c] 31)) 24 #[.int .i64 n1,.int .i64 n2];have H1:=Hi (h1.keep (sO _ (.cells #[.int .i64 n1,.int .i64 n2] 24) _ h1.lt));have H2:=Hi h2;have HB:=Hi hb2;have HR:=Hi (hr.below hb2);rw[World.size_alloc]at H2;rw[hn]at hl ⊢;clear hr hb1 hb2 h1 h2 hn;go_enter Tryz.func37,Tryz.ntmps37;go_upto_region 2 with fail
 generalize (w.alloc (.cells #[.slice A n c] 31)).alloc (.cells #[.int .i64 n1,.int .i64 n2] 24)=V at H1 H2 HB HR ⊢;obtain⟨B,hB⟩:∃B,w.heap.size=B:=⟨_,rfl⟩
 have HBB:=Hi hB;rw[hB]at H1 H2 HB ⊢;clear hB;go_loopw [4,5,6] (fun s4 s5 _ wr=>∃i:Nat,s5=.int .i64 i∧s4=.bool false∧i≤n∧Hid (∀y∈K.take i,¬y.1.k=4→(n1,n2)∉y.1.l)∧∃m,wr=V.drewN m) (fun _ s5 _ _=>n-(intOf s5).toNat)
 case atStart=>exact⟨0,rfl,rfl,by omega,by show ∀y∈_,_;simp,0,rfl⟩
 case round =>
  obtain⟨i,rfl,rfl,hi,HI,m,rfl⟩:=hrel
  have p0:=cZ H1.o 0 rfl;by_cases hlt:i<n
  ·obtain⟨y,hy⟩:∃y,K[i]?=some y:=⟨_,sD (by rw[HN.o];exact hlt)⟩
   obtain⟨b,o,hA,-,key⟩:=iA (show aC _ V 15 A n (cN K) from HN.o▸HR.o.row) HN.o hy
   have HPR:=Hi (HR.o.preds hy);have HYL:=(HR.o.each y (sJ hy)).2;have HY:=Hi hy;subst hA;have y0:V.cell? ⟨b,o+i*15,none⟩=some (.int .i64 y.1.k):=key 0 _ (by omega) rfl;have y12:V.cell? ⟨b,o+i*15+12,none⟩=some (.slice y.1.A y.1.l.length y.1.c):=key 12 _ (by omega) rfl;obtain⟨nl,hnl⟩:∃k,y.1.l.length=k:=⟨_,rfl⟩
   obtain⟨PA,hPA⟩:∃k,y.1.A=k:=⟨_,rfl⟩
   have HNL:=Hi hnl;rw[hnl,hPA]at y12 HPR;rw[hnl]at HYL;clear key hy hnl hPA;by_cases hk:y.1.k=4
   ·have e1:(y.1.k == 4)=true:=by simp[hk]
    have HI2:Hid (∀y∈K.take (i+1),¬y.1.k=4→(n1,n2)∉y.1.l):=fun z hz h4=>by
     rcases iK HY.o hz with h|h
     ·exact HI.o z h h4
     ·exact(h4 (h▸hk)).elim
    clear hk;go_wp2_with fail
    go_roundw
    case rel=>exact⟨i+1,by go_num,rfl,by omega,HI2,m,rfl⟩
    case measure=>simp[intOf];omega
   ·have e1:(y.1.k == 4)=false:=by simp[hk]
    have HK:=Hi hk;clear hk;go_upto_region 6 with fail
    go_loopw [4,6] (fun s4 s6 wr=>∃j:Nat,s6=.int .i64 j∧s4=.bool false∧j≤nl∧Hid ((n1,n2)∉y.1.l.take j)∧∃m,wr=V.drewN m) (fun _ s6 _=>nl-(intOf s6).toNat)
    case atStart=>exact⟨0,rfl,rfl,by omega,by show _∉_;simp,m,rfl⟩
    case round =>
     obtain⟨j,rfl,rfl,hj,HJ,m2,rfl⟩:=hrel
     have q1:=cZ H2.o 0 rfl;have q2:=cZ H2.o 1 rfl
     by_cases hjl:j<nl
     ·obtain⟨⟨p1,p2⟩,hp⟩:∃p,y.1.l[j]?=some p:=⟨_,sD (by rw[HNL.o];exact hjl)⟩
      obtain⟨pb,po,rfl,-,hc⟩:=HPR.o.at_ (by omega) (by omega)
      have z0:V.cell? ⟨pb,po+j*2,none⟩=some (.int .i64 p1):=hc _ _ ((aL hp).1);have z1:V.cell? ⟨pb,po+j*2+1,none⟩=some (.int .i64 p2):=by have:=hc _ _ ((aL hp).2);rw[←tL]at this;exact this
      have HP:=Hi hp;have E:=fun w=>iS p1 p2 n1 n2 w
      obtain⟨eb,heb⟩:∃eb,(p1 == n1&&p2 == n2)=eb:=⟨_,rfl⟩
      rw[heb]at E;have HEB:Hid (eb=decide ((p1,p2)=(n1,n2))):=by show _=_;rw[eN,heb]
      clear hc hp heb;go_upto_region 8 with fail
      go_quiet (fail)
      change Exit.then _ _ _ _ ((V.drewN m2).drewN nq);have HD:Hid ((V.drewN m2).drewN nq=V.drewN (m2+nq)):=by show _=_;rw[tK]
      generalize hm9:m2+nq=m9 at HD;rw[HD.o];clear HD hm9;cases eb with
      |true =>
       have HE:Hid (gJ K (n1,n2)=true):=overP_yes (sJ HY.o) HK.o (by rw[←of_decide_eq_true HEB.o.symm];exact sJ HP.o);clear z0 z1 q1 q2 E;go_wp2_with fail
       go_ret;exact⟨by rw[HE.o];rfl,by rw[HBB.o];exact aJ HB.o _⟩
      |false =>
       have HJ2:Hid ((n1,n2)∉y.1.l.take (j+1)):=fun h=>by
        rcases iK HP.o h with h|h
        ·exact HJ.o h
        ·exact of_decide_eq_false HEB.o.symm h.symm
       clear z0 z1 q1 q2 E;go_wp2_with fail
       go_roundw
       case rel=>exact⟨j+1,by go_num,rfl,by omega,HJ2,_,rfl⟩
       case measure=>simp[intOf];omega
     ·have HI2:Hid (∀y∈K.take (i+1),¬y.1.k=4→(n1,n2)∉y.1.l):=fun z hz h4=>by
       rcases iK HY.o hz with h|h
       ·exact HI.o z h h4
       ·have:=HJ.o
        rw[sL (by rw[HNL.o];omega)]at this;rw[h];exact this
      clear HJ;go_wp2_with fail
      go_roundw
      case rel=>exact⟨i+1,by go_num,rfl,by omega,HI2,m2,rfl⟩
      case measure=>simp[intOf];omega
  ·have HE:Hid (gJ K (n1,n2)=false):=overP_no fun y hy h4=>HI.o y (by rw[sL (by rw[HN.o];omega)];exact hy) h4
   go_wp2_with fail
   go_ret;exact⟨by rw[HE.o];rfl,by rw[HBB.o];exact aJ HB.o _⟩
end
section
theorem clear_ids(w:World)(g o n c:Nat)(hn:0<n)(hc:∀i,i<n*2→(w.cell? ⟨g,o+i,none⟩).isSome=true)(hf:∀i,i<n*2→w.frozen? ⟨g,o+i,none⟩=false):
 (Builtin.clear_ #[28] 0 #[.slice (some ⟨g,o,none⟩) n c]).run Tryz.prog w=.ok (.tuple #[]) (w.setCells g o (List.replicate (n*2) (.int .i64 0))):=by
 have hz:(zeroValue 24).run Tryz.prog w=.ok (.agg #[.int .i64 0,.int .i64 0]) w:=Tryz.zeroValue24 w;have hzc:(Builtin.zeroCells (Value.agg #[.int .i64 0,.int .i64 0]).cells n).toList=List.replicate (n*2) (.int .i64 0):=by
  apply List.ext_getElem
  ·simp[Builtin.zeroCells,Value.cells]
  ·intro i h1 h2;simp only[Builtin.zeroCells,Value.cells];rcases Nat.mod_two_eq_zero_or_one i with h|h<;>simp[h]
 have hst:=run_storeCells_cells (P:=Tryz.prog) g o (List.replicate (n*2) (.int .i64 0)) 0 w (by simpa using hc) (by simpa using hf) (by intro v hv;rw[List.eq_of_mem_replicate hv];rfl);simp only[xP]at hst;obtain⟨m,rfl⟩:∃m,n=m+1:=⟨n-1,by omega⟩
 simp[Builtin.clear_,run_underlying Tryz.underlying28,hz,hzc,hst]
theorem rU(l:List Rf)(A:Option Addr)(c:Nat)(w:World)(hr:aC (fun k=>k<w.heap.size) w 2 A l.length (aE l))(hl:l.length≤9223372036854775807)(gf:Nat)(lb:Array Value)(p:Rf→Bool)
 (eg:∀args w,(callFunc gf args).run Tryz.prog w=.ok (.enter gf args) w) (hp:PredB gf lb l p w) :
 Calls Tryz.prog 98 #[.slice A l.length c,.func (.func gf) #[] lb] w fun e w'=>e=.returned (.int .i64 (iC p l))∧Below w.heap.size w w':=by
 obtain⟨n,hn⟩:∃n,l.length=n:=⟨_,rfl⟩
 have HN:=Hi hn;have HR:=Hi hr;have HP:=Hi hp;rw[hn]at hl ⊢;clear hn hr hp;go_enter Tryz.func98,Tryz.ntmps98;go_wp2_with fail
 go_loopw [5,8] (fun _ s8 wr=>∃k:Nat,s8=.int .i64 k∧k≤n∧Hid (∀y∈l.take k,p y=false)∧Hid (Below w.heap.size w wr)) (fun _ s8 _=>n-(intOf s8).toNat)
 case atStart=>exact⟨0,rfl,by omega,by show ∀y∈_,_;simp,sB _ _⟩
 case round =>
  obtain⟨k,rfl,hk,HI,HW⟩:=hrel
  by_cases hlt:k<n
  ·obtain⟨b1,o1,rfl,-,hc1⟩:=(aA HR.o HW.o).at_ (by rw[HN.o];omega) (by omega)
   obtain⟨x,hx⟩:∃x,l[k]?=some x:=⟨_,sD (by rw[HN.o];exact hlt)⟩
   have x1:wr.cell? ⟨b1,o1+k*2,none⟩=some (.int .i64 x.1):=hc1 _ _ (aL hx).1;have x2:wr.cell? ⟨b1,o1+k*2+1,none⟩=some (.int .i64 x.2):=hc1 _ _ (aL hx).2;have HX:=Hi hx;clear hc1 hx;go_wp2_with fail
   refine(HP.o wr x (sJ HX.o) HW.o).mono ?_
   rintro e w2 ⟨rfl,hb⟩;replace HW:Hid (Below w.heap.size w w2):=HW.o.trans (hb.mono HW.o.size);clear hb x1 x2;cases hpx:p x with
   |true =>
    have HE:Hid (iC p l=(k:Int)):=by show _=_;unfold iC;rw[pU p HX.o hpx HI.o]
    clear hpx;go_wp2_with fail
    go_ret;exact⟨by rw[HE.o];rfl,HW.o⟩
   |false =>
    have HI2:Hid (∀y∈l.take (k+1),p y=false):=kB HX.o HI.o hpx;clear hpx;go_wp2_with fail
    go_roundw
    case rel=>exact⟨k+1,by go_num,by omega,HI2,HW⟩
    case measure=>simp[intOf];omega
  ·have HE:Hid (iC p l=-1):=by show _=_;unfold iC;rw[idx_none p (by have:=HI.o;rwa [sL (by rw[HN.o];omega)]at this)]
   go_wp2_with fail
   go_ret;exact⟨by rw[HE.o];rfl,HW.o⟩
theorem deleteFI_any(g cap n:Nat)(l:List Rf)(w:World)(h:bF w g l)(hg:g<w.heap.size)(hn:l.length=n)(hl:n≤1000000)(hc:n≤cap)(hm:cap≤9223372036854775807)(gf:Nat)(lb:Array Value)(p:Rf→Bool)
 (eg:∀args w,(callFunc gf args).run Tryz.prog w=.ok (.enter gf args) w) (hp:PredG gf lb l p g w) :
 Calls Tryz.prog 64 #[.slice (some ⟨g,0,none⟩) n cap,.func (.func gf) #[] lb] w fun e w' =>
  e=.returned (.slice (some ⟨g,0,none⟩) (l.filter fun r=>!p r).length cap)∧bF w' g (l.filter fun r=>!p r)∧Chg (fun k=>k=g) w w':=by
 have C1:=rU l (some ⟨g,0,none⟩) cap w (h.reads.more fun k hk=>by rw[hk];exact hg) (by omega) gf lb p eg (fun W r hr hb=>hp W r hr (Chg.of_below hb));rw[hn]at C1;have HR:=Hi h;have HP:=Hi hp;have HN:=Hi hn;have HG:=Hi hg;clear h hp hn hg;go_enter Tryz.func64,Tryz.ntmps64;go_wp2_with fail
 go_at_call 98;refine C1.mono ?_;rintro e w1 ⟨rfl,hb⟩;have HR1:=Hi (HR.o.keep (hb.block _ HG.o));have HC1:Hid (Chg (fun k=>k=g) w w1):=Chg.of_below hb;clear C1 hb;unfold iC;cases hf:l.findIdx? p with
 |none =>
  have HF:Hid ((l.filter fun r=>!p r)=l):=by
   show _=_;rw[vX];intro r hr;rw[vV.1 hf r hr];rfl
  clear hf;go_wp2_with fail
  go_ret;exact⟨by rw[HF.o,HN.o];rfl,by rw[HF.o];exact HR1.o,HC1.o⟩
 |some k =>
  obtain⟨hkl,hpk,hlt⟩:=wF.1 hf
  have HST:Hid (l.take k=(l.take (k+1)).filter fun r=>!p r):=by
   show _=_;rw[filter_snoc (sF.2 ⟨hkl,rfl⟩),hpk];simp only[Bool.not_true,vB,if_false,uL];symm;rw[vX];intro r hr;obtain⟨j,hj,e⟩:=vW hr
   have hj':j<k:=by rw[tD]at hj;omega
   have:=hlt j hj'
   rw[List.getElem_take]at e;rw[e]at this;simpa using this
  have hk1:k+1≤n:=by rw[←HN.o];omega
  have hkz:((k:Int) == -1)=false:=by simp
  clear hf hkl hpk hlt;go_wp2_with fail
  go_loopw [5,6,7] (fun s5 s6 _ wr=>∃(i j:Nat) (xs:List Rf),s5=.int .i64 i∧s6=.int .i64 j∧i<j∧j≤n∧Hid (bF wr g xs∧xs.length=n∧xs.take i=((l.take j).filter fun r=>!p r)∧xs.drop j=l.drop j)∧Hid (Chg (fun k=>k=g) w wr)) (fun _ s6 _ _=>n-(intOf s6).toNat)
  case atStart=>exact⟨k,k+1,l,rfl,by go_num,by omega,hk1,Hi ⟨HR1.o,HN.o,HST.o,rfl⟩,HC1⟩
  case round =>
   clear HR1 HC1;obtain⟨i,j,xs,rfl,rfl,hij,hj,HX,HC⟩:=hrel
   by_cases hjl:j<n
   ·obtain⟨x,hx⟩:∃x,l[j]?=some x:=⟨_,sD (by rw[HN.o];exact hjl)⟩
    have hxx:xs[j]?=some x:=by
     have h1:(xs.drop j)[0]?=(l.drop j)[0]?:=by rw[HX.o.2.2.2]
     rw[wB,wB]at h1;rw[←hx];simpa using h1
    have x1:wr.cell? ⟨g,j*2,none⟩=some (.int .i64 x.1):=HX.o.1.cell1 hxx;have x2:wr.cell? ⟨g,j*2+1,none⟩=some (.int .i64 x.2):=HX.o.1.cell2 hxx;have hgl:g<wr.heap.size:=sE HG.o HC.o.size;have HXM:=Hi (sJ hx);have HFS:=Hi (filter_snoc (p:=fun r=>!p r) hx);have HD1:Hid (xs.drop (j+1)=l.drop (j+1)):=by show _=_;rw[←xO,←xO,HX.o.2.2.2]
    clear hx hxx;go_upto_region 8 with fail
    have HQ:=Hi (Blk.new wr 24 #[.int .i64 x.1,.int .i64 x.2]);have HX2:=Hi (HX.o.1.keep (w':=wr.alloc (.cells #[.int .i64 x.1,.int .i64 x.2] 24)) (sO _ _ _ hgl));have HC2:=Hi (HC.o.alloc (.cells #[.int .i64 x.1,.int .i64 x.2] 24));clear x1 x2 HC;generalize wr.alloc (.cells #[.int .i64 x.1,.int .i64 x.2] 24)=w2 at HQ HX2 HC2 ⊢;generalize wr.heap.size=qx at HQ hgl ⊢;have q1:=cZ HQ.o 0 rfl;have q2:=cZ HQ.o 1 rfl
    go_wp2_with fail
    refine(HP.o w2 x HXM.o HC2.o).mono ?_
    rintro e w3 ⟨rfl,hb⟩;have HQ3:=Hi (HQ.o.keep (hb.block _ HQ.o.lt));have HX3:=Hi (HX2.o.keep (hb.block _ (sE HG.o HC2.o.size)));have HC3:Hid (Chg (fun k=>k=g) w w3):=HC2.o.trans (Chg.of_below hb) fun _ _ h=>h
    clear q1 q2 hb HQ HX2 HC2;cases hpx:p x with
    |true =>
     have HF2:Hid (xs.take i=((l.take (j+1)).filter fun r=>!p r)):=by show _=_;rw[HFS.o,hpx,HX.o.2.2.1];simp
     clear hpx;go_wp2_with fail
     go_roundw
     case rel=>exact⟨i,j+1,xs,rfl,by go_num,by omega,by omega,Hi ⟨HX3.o,HX.o.2.1,HF2.o,HD1.o⟩,HC3⟩
     case measure=>simp[intOf];omega
    |false =>
     have hil:i<xs.length:=by rw[HX.o.2.1];omega
     have HF2:Hid ((xs.set i x).take (i+1)=((l.take (j+1)).filter fun r=>!p r)):=by
      show _=_;rw[HFS.o,hpx,←HX.o.2.2.1,sS,List.getElem?_set_self hil,List.take_set_of_le (sC i)];rfl
     have HD2:Hid ((xs.set i x).drop (j+1)=l.drop (j+1)):=by
      show _=_;rw[List.drop_set_of_lt (by omega),HD1.o]
     have HX4:=Hi (HX3.o.set i x hil);have HC4:Hid (Chg (fun k=>k=g) w ((w3.setCell ⟨g,i*2,none⟩ (.int .i64 x.1)).setCell ⟨g,i*2+1,none⟩ (.int .i64 x.2))):=(HC3.o.setCell (p:=⟨g,i*2,none⟩) (.inl rfl) _).setCell (p:=⟨g,i*2+1,none⟩) (.inl rfl) _;have HSL:Hid ((xs.set i x).length=n):=by show _=_;rw[List.length_set];exact HX.o.2.1
     have q1:=cZ HQ3.o 0 rfl;have q2:=cZ HQ3.o 1 rfl
     obtain⟨y,hy⟩:∃y,xs[i]?=some y:=⟨_,sD hil⟩
     have s1:w3.cell? ⟨g,i*2,none⟩=some (.int .i64 y.1):=HX3.o.cell1 hy;have s2:w3.cell? ⟨g,i*2+1,none⟩=some (.int .i64 y.2):=HX3.o.cell2 hy;have f1:w3.frozen? ⟨g,i*2,none⟩=false:=(HX3.o _ _ (aL hy).1).2;have f2:w3.frozen? ⟨g,i*2+1,none⟩=false:=(HX3.o _ _ (aL hy).2).2;clear hpx hy hil;go_wp2_with fail
     go_roundw
     case rel=>exact⟨i+1,j+1,xs.set i x,by go_num,by go_num,by omega,by omega,Hi ⟨HX4.o,HSL.o,HF2.o,HD2.o⟩,HC4⟩
     case measure=>simp[intOf];omega
   ·have HFI:Hid ((l.filter fun r=>!p r)=xs.take i):=by
     show _=_;rw[HX.o.2.2.1,sL (by rw[HN.o];omega)]
    have HIL:Hid ((xs.take i).length=i):=by show _=_;rw[tD,HX.o.2.1];omega
    have hzz:∀t,t<(n-i)*2→(wr.cell? ⟨g,i*2+t,none⟩).isSome=true∧wr.frozen? ⟨g,i*2+t,none⟩=false:=by
     intro t ht;have hlen:i*2+t<(aE xs).length:=by rw[aY,HX.o.2.1];omega
     have:=HX.o.1 _ _ (sD hlen)
     exact⟨by rw[this.1];rfl,this.2⟩
    have hclr:=clear_ids wr g (i*2) (n-i) (cap-i) (by omega) (fun t ht=>(hzz t ht).1) (fun t ht=>(hzz t ht).2);have hcm:¬cap=i:=by omega
    clear hzz;go_wp2_with fail
    go_ret;exact⟨by rw[HFI.o,HIL.o];rfl,by rw[HFI.o];exact HX.o.1.cleared i _,eI _ _ HC.o⟩
end
section
theorem indexI_any(l:List Rf)(r1 r2:Int)(A:Option Addr)(c:Nat)(w:World)(hr:aC (fun k=>k<w.heap.size) w 2 A l.length (aE l))(hl:l.length≤1000000):
 Calls Tryz.prog 63 #[.slice A l.length c,.agg #[.int .i64 r1,.int .i64 r2]] w fun e w'=>e=.returned (.int .i64 (iC (fun x=>decide (x=(r1,r2))) l))∧Below w.heap.size w w':=by
 obtain⟨n,hn⟩:∃n,l.length=n:=⟨_,rfl⟩
 have HN:=Hi hn;have hb:Below w.heap.size w (w.alloc (.cells #[.int .i64 r1,.int .i64 r2] 24)):=(sB _ w).alloc (sC _) _;have HQ:=Hi (Blk.new w 24 #[.int .i64 r1,.int .i64 r2]);have HB:=Hi hb;have HR:=Hi (aA hr hb);rw[hn]at HR hl ⊢;clear hr hb hn;go_enter Tryz.func63,Tryz.ntmps63;go_upto_region 2 with fail
 generalize w.alloc (.cells #[.int .i64 r1,.int .i64 r2] 24)=V at HQ HB HR ⊢;obtain⟨B,hB⟩:∃B,w.heap.size=B:=⟨_,rfl⟩
 have HBB:=Hi hB;rw[hB]at HQ HB ⊢;clear hB;go_loopw [5,8] (fun _ s8 wr=>∃i:Nat,s8=.int .i64 i∧i≤n∧Hid (∀y∈l.take i,decide (y=(r1,r2))=false)∧∃m,wr=V.drewN m) (fun _ s8 _=>n-(intOf s8).toNat)
 case atStart=>exact⟨0,rfl,by omega,by show ∀y∈_,_;simp,0,rfl⟩
 case round =>
  obtain⟨i,rfl,hi,HI,m,rfl⟩:=hrel
  by_cases hlt:i<n
  ·obtain⟨⟨p1,p2⟩,hp⟩:∃p,l[i]?=some p:=⟨_,sD (by rw[HN.o];exact hlt)⟩
   obtain⟨pb,po,rfl,-,hc⟩:=HR.o.at_ (by omega) (by omega)
   have z0:V.cell? ⟨pb,po+i*2,none⟩=some (.int .i64 p1):=hc _ _ ((aL hp).1);have z1:V.cell? ⟨pb,po+i*2+1,none⟩=some (.int .i64 p2):=by have:=hc _ _ ((aL hp).2);rw[←tL]at this;exact this
   have q0:=cZ HQ.o 0 rfl;have q1:=cZ HQ.o 1 rfl
   have HP:=Hi hp;have E:=fun w=>iS r1 r2 p1 p2 w
   obtain⟨eb,heb⟩:∃eb,(r1 == p1&&r2 == p2)=eb:=⟨_,rfl⟩
   rw[heb]at E;have HEB:Hid (eb=decide ((r1,r2)=(p1,p2))):=by show _=_;rw[eN,heb]
   clear hc hp heb;go_upto_region 4 with fail
   go_quiet (fail)
   change Exit.then _ _ _ _ ((V.drewN m).drewN nq);have HD:Hid ((V.drewN m).drewN nq=V.drewN (m+nq)):=by show _=_;rw[tK]
   generalize hm9:m+nq=m9 at HD;rw[HD.o];clear HD hm9;cases eb with
   |true =>
    have HF:Hid (iC (fun x=>decide (x=(r1,r2))) l=(i:Int)):=by
     show _=_;unfold iC;rw[pU _ HP.o (decide_eq_true (of_decide_eq_true HEB.o.symm).symm) HI.o]
    clear z0 z1 q0 q1 E;go_wp2_with fail
    go_ret;exact⟨by rw[HF.o];rfl,by rw[HBB.o];exact aJ HB.o _⟩
   |false =>
    have HI2:Hid (∀y∈l.take (i+1),decide (y=(r1,r2))=false):=kB HP.o HI.o (decide_eq_false fun e=>of_decide_eq_false HEB.o.symm e.symm);clear z0 z1 q0 q1 E;go_wp2_with fail
    go_roundw
    case rel=>exact⟨i+1,by go_num,by omega,HI2,_,rfl⟩
    case measure=>simp[intOf];omega
  ·have HF:Hid (iC (fun x=>decide (x=(r1,r2))) l=-1):=by
    show _=_;unfold iC;rw[idx_none _ fun y hy=>HI.o y (by rw[sL (by rw[HN.o];omega)];exact hy)]
   go_wp2_with fail
   go_ret;exact⟨by rw[HF.o];rfl,by rw[HBB.o];exact aJ HB.o _⟩
end
section
theorem valEq(x y:VD):(x.k == y.k&&(x.n == y.n&&(x.t.toList == y.t.toList&&(x.a == y.a&&x.b == y.b))))=true↔x=y:=by
 obtain⟨a,b,t,c,d⟩:=x
 obtain⟨a',b',t',c',d'⟩:=y
 simp only[tB,VD.mk.injEq];constructor
 ·rintro⟨h1,h2,h3,h4,h5⟩
  exact⟨by simpa using h1,by simpa using h2,oB h3,by simpa using h4,by simpa using h5⟩
 ·rintro⟨rfl,rfl,rfl,rfl,rfl⟩
  simp
theorem jT{w:World}{D:Nat→Prop}{A:Option Addr}{n k:Nat}{l:List VD}{v:VD}(h:aC D w 5 A n (bH l))(hn:l.length=n)(hk:l[k]?=some v):
 ∃b o,A=some ⟨b,o,none⟩∧D b∧w.cell? ⟨b,o+k*5,none⟩=some (.int .i64 v.k)∧w.cell? ⟨b,o+k*5+1,none⟩=some (.int .i64 v.n)∧w.cell? ⟨b,o+k*5+2,none⟩=some (.string v.t)∧w.cell? ⟨b,o+k*5+3,none⟩=some (.int .i64 v.a)∧w.cell? ⟨b,o+k*5+4,none⟩=some (.int .i64 v.b):=by
 have hkl:=(sF.1 hk).1;obtain⟨b,o,e,hb,hc⟩:=h.at_ (by omega) (by omega)
 have key:∀i u,i<5→(mZ v)[i]?=some u→w.cell? ⟨b,o+k*5+i,none⟩=some u:=fun i u hi hu=>by
  have h1:=valsC_at hk i hi;rw[hu]at h1;have h2:=hc _ _ h1;rw[←tL]at h2;exact h2
 exact⟨b,o,e,hb,key 0 _ (by omega) rfl,key 1 _ (by omega) rfl,key 2 _ (by omega) rfl,key 3 _ (by omega) rfl,key 4 _ (by omega) rfl⟩
theorem sameVals_any(a b:List VD)(D D':Nat→Prop)(A B:Option Addr)(ca cb:Nat)(w:World)(ha:aC D w 5 A a.length (bH a))(hb:aC D' w 5 B b.length (bH b))(hla:a.length≤9223372036854775807):
 Calls Tryz.prog 17 #[.slice A a.length ca,.slice B b.length cb] w fun e w'=>∃bb,e=.returned (.bool bb)∧(bb=true↔a=b)∧∃n,w'=w.drewN n:=by
 by_cases hl:a.length=b.length
 case neg =>
  have hne:¬a=b:=fun e=>hl (by rw[e])
  have HNE:=Hi hne;have hl':(a.length:Int)≠b.length:=by omega
  clear ha hb hne hla;generalize a.length=na at *;generalize b.length=nb at *;go_enter Tryz.func17,Tryz.ntmps17;go_wp2_with fail
  go_ret;exact⟨false,rfl,⟨fun h=>(by cases h),fun h=>(HNE.o h).elim⟩,0,rfl⟩
 case pos =>
  have HA:=Hi ha;have HB:=Hi hb;obtain⟨n,hn⟩:∃n,a.length=n:=⟨_,rfl⟩
  have HN:=Hi hn;have HN':Hid (b.length=n):=hl.symm.trans hn;rw[←hl,hn];rw[hn]at hla;clear ha hb hl hn;go_enter Tryz.func17,Tryz.ntmps17;go_upto_region 4 with fail
  go_loopw [5] (fun s5 wr=>∃k:Nat,s5=.int .i64 k∧k≤n∧Hid (a.take k=b.take k)∧∃m,wr=w.drewN m) (fun s5 _=>n-(intOf s5).toNat)
  case atStart=>exact⟨0,rfl,by omega,by show _=_;simp,0,rfl⟩
  case round =>
   obtain⟨k,rfl,hk,HI,m,rfl⟩:=hrel
   by_cases hlt:k<n
   ·obtain⟨r,hr⟩:∃r,a[k]?=some r:=⟨_,sD (by rw[HN.o];exact hlt)⟩
    obtain⟨q,hq⟩:∃q,b[k]?=some q:=⟨_,sD (by rw[HN'.o];exact hlt)⟩
    obtain⟨b1,o1,hA,-,x0,x1,x2,x3,x4⟩:=jT HA.o rfl hr
    obtain⟨b2,o2,hB,-,y0,y1,y2,y3,y4⟩:=jT HB.o rfl hq
    subst hA hB;have HX:Hid (a.take (k+1)=a.take k++[r]∧b.take (k+1)=b.take k++[q]):=by
     refine⟨?_,?_⟩
     ·rw[sS,hr];rfl
     ·rw[sS,hq];rfl
    have HRQ:=Hi (And.intro hr hq);have E:=fun w=>eq_val r.k r.n r.t r.a r.b q.k q.n q.t q.a q.b w
    obtain⟨eb,heb⟩:∃eb,(r.k == q.k&&(r.n == q.n&&(r.t.toList == q.t.toList&&(r.a == q.a&&r.b == q.b))))=eb:=⟨_,rfl⟩
    have HEB:Hid (eb=true↔r=q):=by show _↔_;rw[←heb];exact valEq r q
    rw[heb]at E;clear hr hq heb;go_upto_region 6 with fail
    go_quiet (fail)
    change Exit.then _ _ _ _ ((w.drewN m).drewN nq);have HD:Hid ((w.drewN m).drewN nq=w.drewN (m+nq)):=by show _=_;rw[tK]
    generalize hm9:m+nq=m9 at HD;rw[HD.o];clear HD hm9;cases eb with
    |true =>
     have HT:Hid (a.take (k+1)=b.take (k+1)):=by show _=_;rw[HX.o.1,HX.o.2,HI.o,HEB.o.1 rfl]
     clear x0 x1 x2 x3 x4 y0 y1 y2 y3 y4 E;go_wp2_with fail
     go_roundw
     case rel=>exact⟨k+1,by go_num,by omega,HT,_,rfl⟩
     case measure=>simp[intOf];omega
    |false =>
     have HD:Hid (¬a=b):=fun e=>by
      have h:=HRQ.o;rw[e,h.2]at h;have h1:=HEB.o.2 (tF h.1).symm;cases h1
     clear x0 x1 x2 x3 x4 y0 y1 y2 y3 y4 E;go_wp2_with fail
     go_ret;exact⟨false,rfl,⟨fun h=>(by cases h),fun h=>(HD.o h).elim⟩,_,rfl⟩
   ·have HD:Hid (a=b):=by
     have h1:=HI.o;rw[sL (by rw[HN.o];omega),sL (by rw[HN'.o];omega)]at h1;exact h1
    go_wp2_with fail
    go_ret;exact⟨true,rfl,⟨fun _=>HD.o,fun _=>rfl⟩,m,rfl⟩
end
end Go.Proofs.YtmpkejflgpodkaaGreatDoor
