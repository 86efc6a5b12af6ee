/- Contracts: the program's writer: a text. -/
import Derived.Test.YtmpkejflgpodkaaGreatDoorP0
import Derived.StillTailTactics
import Derived.RegionTactic
import Derived.Deep.RegionHeld3
set_option linter.unusedVariables false
set_option linter.unusedSimpArgs false
namespace Go.Proofs.YtmpkejflgpodkaaGreatDoor
open Go.ChangeShapes Go.WideShapes Go.ChangeAt Go.RowKit
section
theorem reads_newC(wr:World)(t:TypeId)(l:List Value)(n:Nat)(hn:l.length=n)(cs:Array Value)(hcs:cs.toList=l)(H:Nat)(hH:wr.heap.size=H):aC (fun k=>k=H) (wr.alloc (.cells cs t)) 1 (some ⟨H,0,none⟩) n l:=by
 subst hH hn;refine⟨by simp,fun _=>⟨_,rfl,rfl,fun j u hu=>?_⟩⟩
 have e:((⟨wr.heap.size,0,none⟩:Addr).add j)=⟨wr.heap.size,j,none⟩:=by unfold Addr.add;split<;>simp_all
 have hb:(wr.alloc (.cells cs t)).heap[wr.heap.size]?=some (.cells cs t):=heap_alloc_new wr _;rw[e,cell_of_row _ _ j _ _ _ hb,←hu,←hcs];simp
end
section
theorem Chg.put1{a w:World}{g:Nat}(h:Chg (fun k=>k=g) a w)(i:Nat)(u:Value):Chg (fun k=>k=g) a (w.setCell ⟨g,i,none⟩ u):=h.setCell (p:=⟨g,i,none⟩) (.inl rfl) u
def cV(l:List UInt8)(most:Nat)(at_:Nat)(bad:Bool):Nat×Nat×Bool :=
 if bad then (0,at_,true) else
 match nC (l.drop at_) with
 |none=>(0,at_,true)
 |some (n,k)=>if n≤most then (n,at_+k,false) else (0,at_,true)
end
section
def nP(l:List UInt8)(at_:Nat)(bad:Bool):Int×Nat×Bool :=
 if bad then (0,at_,true) else
 match getS (l.drop at_) with
 |none=>(0,at_,true)
 |some (n,k)=>(n,at_+k,false)
theorem rdInt_bd{l:List UInt8}{at_:Nat}{bad:Bool}: -9223372036854775808≤(nP l at_ bad).1∧(nP l at_ bad).1≤9223372036854775807:=by
 unfold nP;split
 ·simp
 ·cases h:getS (l.drop at_) with
  |none=>simp
  |some x =>
   obtain⟨n,k⟩:=x
   unfold getS at h;cases hg:nC (l.drop at_) with
   |none=>rw[hg]at h;cases h
   |some y =>
    obtain⟨m,k'⟩:=y
    rw[hg]at h;simp only[vK,uA,uT]at h;obtain⟨rfl,_⟩:=h
    exact unzz_bd (getN_lt hg)
end
section
open Go
section
variable{P:Program}{ops:Array Oper}{md:Region.Mode}{w:World}
def pF(md:Region.Mode)(ops:Array Oper)(m n:Nat):Bool :=
 (List.range n).all fun i=>decide (i<m)||(List.range (n+1)).any fun j=>decide (i<j)&&Region.waitsFor md ops j i
theorem rJ{m n:Nat}{listed:Array Bool}(hs:pF md ops m n=true)(hc:Region.chainB md ops n=true)(hn:n<ops.size)(inv:HeadInv md ops n listed):
 ∀(d i:Nat),n-i=d→m≤i→i<n→listed.getD i true=false→∀t,n≤t→t∉Region.ready md ops listed:=by
 intro d;induction d using Nat.strongRecOn with
 |_ d ih =>
  intro i hd hmi hi hun t ht hr;obtain⟨_,ot,hot,hall⟩:=mem_ready.1 hr
  have htlt:t<ops.size:=(vQ.1 hot).1;by_cases htn:t=n
  ·subst htn;have h1:=tP.1 hs i (List.mem_range.2 hi);simp only[xY,decide_eq_true_eq]at h1;have h1:=h1.resolve_left (by omega);obtain⟨j,hj,hj2⟩:=wR.1 h1
   simp only[tB,decide_eq_true_eq]at hj2;obtain⟨oj,hoj,e,he,hb,hon⟩:=Region.waitsFor_spec hj2.2
   have hjle:j≤t:=by have:=List.mem_range.1 hj;omega
   by_cases hjt:j=t
   ·subst hjt;have:oj=ot:=tF (hoj.symm.trans hot)
    subst this;have h2:=hall e he hb;rw[hon,getD_both hun]at h2;cases h2
   ·cases hl:listed.getD j false with
    |true =>
     have h2:=inv.closed j oj hoj hl e he hb;rw[hon,getD_both hun]at h2;cases h2
    |false =>
     have hjs:j<listed.size:=by rw[inv.size];omega
     exact ih (t-j) (by omega) j rfl (by omega) (by omega) (getD_in hjs hl) t (sC _) hr
  ·have h1:=tP.1 hc t (List.mem_range.2 htlt);simp only[xY,decide_eq_true_eq]at h1;rcases h1 with h1|h1
   ·omega
   ·obtain⟨o',ho',e,he,hb,hon⟩:=Region.waitsFor_spec h1
    have:o'=ot:=tF (ho'.symm.trans hot)
    subst this;have h2:=hall e he hb;rw[hon,getD_both (inv.tail (t-1) (by omega) (by omega))]at h2;cases h2
theorem wpAnyL_firstF{m n i:Nat}{oi:Oper}{v:Value}{L:Array Bool→Act→Prop}(hi:ops[i]?=some oi)(hsel:∀(j:Nat) (o:Oper) cs b,ops[j]?=some o→o.op≠.select cs b)
 (hs:pF md ops m n=true) (hc:Region.chainB md ops n=true) (hn:n<ops.size) (hin:i<n) (hmi:m≤i)
 (hdone:∀listed a,L listed a→∀j∈Region.ready md ops listed,n≤j) :
 ∀(f:Nat) (listed:Array Bool) (a:Act),HeadInv md ops n listed →
  (∀j oj,ops[j]?=some oj→j≠i→listed.getD j true=false→(∀e∈oj.after,Region.binds md e=true→e.on≠i)→oi.apart ops oj=true) →
  i∈Region.ready md ops listed→YieldsAt P ops w oi v a →
  wpAnyL P md ops w n L f (listed.setIfInBounds i true) (a.put oi.dst v)→wpAnyL P md ops w n L (f+1) listed a:=by
 intro f;induction f with
 |zero =>
  intro listed a inv _ hr hy H;have hun:=(mem_ready.1 hr).1;refine⟨fun h=>(by rw[h]at hr;cases hr),fun j hj=>?_⟩
  have hjn:j<n:=by
   rcases vF j n with h|h
   ·exact h
   ·exact absurd hj (rJ hs hc hn inv _ i rfl hmi hin hun j h)
  refine⟨hjn,?_⟩
  by_cases hji:j=i
  ·subst hji;exact hy.stOp hi H
  ·have:=hdone _ _ H j (ready_mono hj hji)
   omega
 |succ f ih =>
  intro listed a inv hfree hr hy H;have hun:=(mem_ready.1 hr).1;refine⟨fun h=>(by rw[h]at hr;cases hr),fun j hj=>?_⟩
  have hjn:j<n:=by
   rcases vF j n with h|h
   ·exact h
   ·exact absurd hj (rJ hs hc hn inv _ i rfl hmi hin hun j h)
  refine⟨hjn,?_⟩
  by_cases hji:j=i
  ·subst hji;exact hy.stOp hi H
  ·have h1:=(H.2 j (ready_mono hj hji)).2;obtain⟨hjun,oj,hoj,hall⟩:=mem_ready.1 hj
   have hnot:∀e∈oj.after,Region.binds md e=true→e.on≠i:=fun e he hb heq=>by
    have h1:=hall e he hb;rw[heq,getD_both hun]at h1;cases h1
   have h2:=stOp_put hoj (hfree j oj hoj hji hjun hnot) (fun cs b=>hsel i oi cs b hi) (fun cs b=>hsel j oj cs b hoj) hy h1;have hfree':∀k ok,ops[k]?=some ok→k≠i→(listed.setIfInBounds j true).getD k true=false →
    (∀e∈ok.after,Region.binds md e=true→e.on≠i)→oi.apart ops ok=true:=fun k ok hk hki hun hno=>by
    refine hfree k ok hk hki ?_ hno;by_cases hjk:j=k
    ·subst hjk;exact hjun
    ·rw[getD_set_ne true hjk]at hun;exact hun
   refine stOp_mono (fun a' h3=>ih (listed.setIfInBounds j true) a' (inv.set hj hjn) hfree' (ready_mono hr (Ne.symm hji)) h3.1 ?_) h2;rw[Array.setIfInBounds_comm _ _ hji];exact h3.2
theorem rI{m n g:Nat}{Lq:Act→Prop}(hsel:Region.noSelect ops=true)(hs:pF md ops m n=true)(hc:Region.chainB md ops n=true)(hn:n<ops.size):
 ∀(l:List Oper) (k:Nat) (listed:Array Bool) (a:Act),(∀j,j<l.length→l[j]?=ops[k+j]?)→k+l.length=n→m≤k→HeadInv md ops n listed →
 Region.lexHead md ops g l.length k listed=true→wpStill P ops w Lq l a →
 wpAnyL P md ops w n (fun listed' a'=>Region.seqB md ops g n listed'=true∧Lq a') l.length listed a
 | [],k,listed,a,_,hk,_,_,hB,h=>by
   have:k=n:=by simpa using hk
   subst this;exact⟨by simpa[Region.lexHead] using hB,h⟩
 |o::l,k,listed,a,hl,hk,hmk,inv,hB,h=>by
  have h0:ops[k]?=some o:=by simpa using (hl 0 (by simp)).symm
  simp only[sW,Region.lexHead,tB]at hB;obtain⟨⟨hr,hf⟩,hB'⟩:=hB
  have hkn:k<n:=by simp only[sW]at hk;omega
  have hr':k∈Region.ready md ops listed:=by simpa using hr
  have hst:stOp P ops w k (wpStill P ops w Lq l) a:=by unfold stOp;simp only[h0];exact h
  obtain⟨v,hy,hK⟩:=yieldsAt_of_stOp h0 hst
  exact wpAnyL_firstF h0 (Region.noSelect_spec hsel) hs hc hn hkn hmk (fun listed' a' hL=>seqB_ready hL.1) l.length listed a inv (Region.free_spec h0 hf) hr' hy
   (rI hsel hs hc hn l (k+1) _ _ (fun j hj=>by have:=hl (j+1) (by simp;omega);simpa[tL,Nat.add_comm 1 j] using this) (by simp only[sW]at hk;omega) (by omega) (inv.set hr' hkn) hB' hK)
end
def moveTailB(md:Region.Mode)(ops:Array Oper)(n:Nat):Bool :=
 Region.noSelect ops&&decide (n<ops.size)&&decide (1≤n)&&pF md ops 1 n&&Region.chainB md ops n&&Region.free md ops (Array.replicate ops.size false) 0&&(Region.ready md ops (Array.replicate ops.size false)).contains 0 &&
  Region.lexHead md ops (ops.size-n) (n-1) 1 ((Array.replicate ops.size false).setIfInBounds 0 true)
theorem fR{P:Program}{id:Nat}{Q:Exit→Act→World→Prop}{a:Act}{w:World}{o:Oper}{l:List Oper}(n:Nat)(v:Value)(hm:P.follows .mixedOrders=true)(hB:moveTailB .any (o::l).toArray n=true)
 (hQ:∀c a w,Q (.panic c) (a.put o.dst v) w→Q (.panic c) a w) (hy:Yields P (o::l).toArray o v a)
 (h:wpStill P (o::l).toArray w.drew (fun a'=>wpList P (o::l).toArray Q (l.drop (n-1)) a' w.drew) (l.take (n-1)) (a.put o.dst v)):(Code.region id (o::l).toArray true).wp P Q a w:=by
 simp only[moveTailB,tB,decide_eq_true_eq]at hB;obtain⟨⟨⟨⟨⟨⟨⟨hsel,hn⟩,hn1⟩,hs⟩,hc⟩,hf⟩,hr⟩,hlex⟩:=hB
 have hn':n<l.length+1:=by simpa using hn
 have hsz:(o::l).toArray.size=l.length+1:=by simp
 have inv0:HeadInv .any (o::l).toArray n (Array.replicate (o::l).toArray.size false) :=
  ⟨by simp,fun j oj _ hl=>(by rw[getD_replicate_false]at hl;cases hl),fun t _ ht=>getD_in (by simpa using ht) (getD_replicate_false _ _)⟩
 have hr':0∈Region.ready .any (o::l).toArray (Array.replicate (o::l).toArray.size false):=by simpa using hr
 have inv1:=inv0.set hr' (by omega);have htl:(l.take (n-1)).length=n-1:=by simp;omega
 have hdl:(l.drop (n-1)).length=(o::l).toArray.size-n:=by simp;omega
 have H:=rI (md:=.any) (w:=w.drew) (m:=1) (g:=(o::l).toArray.size-n) hsel hs hc hn (l.take (n-1)) 1 _ _ (fun j hj=>by
  have hj':j<n-1:=by rw[htl]at hj;exact hj
  rw[List.getElem?_take_of_lt hj',show 1+j=j+1 from by omega];simp) (by rw[htl];omega) (sC _) inv1 (by rw[htl];exact hlex) h
 refine wp_region_any hm ?_;have:=wpAny_of_head (Q':=Q) (g:=(o::l).toArray.size-n) (fun listed a' hL=>by
  have:=wpAny_of_seq (md:=.any) (Q':=Q) (l.drop (n-1)) n listed a' w.drew (fun j=>by
   rw[wB,show n+j=(n-1+j)+1 from by omega];simp) (by rw[hdl];exact hL.1) hL.2
  rwa [hdl]at this) _ _ _ H
 rw[htl,show n-1+((o::l).toArray.size-n)=l.length from by rw[hsz];omega]at this;show wpAny P .any (o::l).toArray Q (o::l).toArray.size _ a w.drew;rw[hsz];rw[hsz]at this hf hr;exact wpAny_take (i:=0) (oi:=o) (by simp) hsel hf hr hQ hy this
end
section
open Go.ChangeMaps (setBlock modify_eq_set set_perm map_eraseIdx heap_setBlock_same heap_setBlock_other)
open Go.MapKept Go.WideShapes Go.RowKit
open Go.WideElems (Fit rd rg pl rd_key rd_val rg_of rd_mk other_key)
open Go.Maps (Keyed)
variable{w:World}{k e t:TypeId}{b:Nat}{l:List (Value×Value)}
theorem aI.drop_none(h:aI w k b l)(K:Keyed Tryz.prog k)(ht:Tryz.prog.underlying t=some (.map k e)){key:Value}{kl:Lit}(hkl:keyOf Tryz.prog k key=some kl)(hm:∀p∈l,p.1≠key)(ty:TypeId):
 ∃w',(Builtin.delete_ #[t,k] ty #[.map (some b),key]).run Tryz.prog w=.ok (.tuple #[]) w'∧aI w' k b l∧w.mapTurned w' b:=by
 obtain⟨es,cl,hb,F,hp⟩:=h
 rcases K.find w hkl es.toList F.keys with⟨h1,h2⟩|⟨j,e0,h1,h2,h3⟩
 ·refine⟨setBlock w b (.map es cl),?_,⟨es,cl,heap_setBlock_same hb _,F,hp⟩,hY hb⟩
  simp[Builtin.delete_,run_underlying ht,MapKept.run_getObj_map hb,K.check w _ hkl,h1,MapKept.run_setObj_map _ hb,Result.andThen,setBlock]
 ·exact absurd h3 (hm (e0.key,e0.val) (hp.mem_iff.1 (sH.2 ⟨e0,sJ h2,rfl⟩)))
end
namespace Go.Proofs.YtmpkejflgpodkaaGreatDoor.Loc
open Go.RowKit
theorem qF{l:List Oper}{i:Nat}{o:Oper}{rest:List Oper}(h:l.drop i=o::rest):l.toArray[i]?=some o:=by
 have h2:(l.drop i)[0]?=some o:=by rw[h];rfl
 rw[wB]at h2;simpa using h2
section
variable{P:Program}{l:List Oper}{Q:Exit→Act→World→Prop}{md:Region.Mode}{S:World→Prop}
theorem bA{i:Nat}{oi:Oper}{rest:List Oper}{v:Value}{fuel:Nat}{listed:Array Bool}{a:Act}{w:World}(hl:l.drop i=oi::rest)
 (hs:Region.noSelect l.toArray=true) (hf:Region.free md l.toArray listed i=true) (hr:(Region.ready md l.toArray listed).contains i=true)
 (hQ:∀c a w,Q (.panic c) (a.put oi.dst v) w→Q (.panic c) a w) (hy:YieldsIf P l.toArray S oi v a) (hS:S w)
 (h:wpAnyH P md l.toArray Q S fuel (listed.setIfInBounds i true) (a.put oi.dst v) w):wpAnyH P md l.toArray Q S (fuel+1) listed a w :=
 wpAnyH_take (qF hl) hs hf hr hQ hy hS h
theorem gN{fuel:Nat}{listed:Array Bool}{a:Act}{w:World}{i:Nat}{o:Oper}{rs:List Nat}{rest:List Oper}(hl:l.drop i=o::rest)
 (h:∀K':Act→World→Prop,Shut (∀a w,S w→(S w→wpAnyH P md l.toArray Q S fuel (listed.setIfInBounds i true) a w)→K' a w)→if Region.wanted o (yielded l.toArray a.tmps)=true then Oper.wp P o a w K' Q else K' (a.put o.dst undef) w)
 (hs:AllReadyH P md l.toArray Q S fuel listed a w rs):AllReadyH P md l.toArray Q S fuel listed a w (i::rs):=AllReadyH.cons (qF hl) h hs
end
end Go.Proofs.YtmpkejflgpodkaaGreatDoor.Loc
section
theorem size_val(w:World):(sizeOf 50).run Tryz.prog w=.ok 5 w:=by kernel_rfl
theorem size_id(w:World):(sizeOf 24).run Tryz.prog w=.ok 2 w:=by kernel_rfl
theorem slice_to{t e:TypeId}(ht:Tryz.prog.underlying t=some (.slice e)){size:Nat}(hs:∀w,(sizeOf e).run Tryz.prog w=.ok size w)(A:Option Addr){n c k:Nat}(hk:k≤n)(hc:n≤c)(w:World):
 (Instr.slice t (.slice A n c) none (some (.int .i64 k)) none).run Tryz.prog w=.ok (.slice A k c) w:=by
 have h1:(0:Int)≤(k:Int)∧(k:Int)≤(c:Int):=by omega
 have h2:(if c=0 then A else A.map (·.add (0*size)))=A:=by
  cases A with
  |none=>split<;>rfl
  |some a=>split<;>simp[Addr.add]
 have h3:k≤c:=by omega
 simp[Instr.slice,Instr.sliceBounds,Instr.sliceBound,asIntOf,run_underlying ht,hs,h3,Result.andThen];simpa using h2
theorem slice_from{t e:TypeId}(ht:Tryz.prog.underlying t=some (.slice e)){size:Nat}(hs:∀w,(sizeOf e).run Tryz.prog w=.ok size w)(A:Option Addr){n c k:Nat}(hk:k≤n)(w:World):
 (Instr.slice t (.slice A n c) (some (.int .i64 k)) none none).run Tryz.prog w=.ok (.slice (if c=k then A else A.map (·.add (k*size))) (n-k) (c-k)) w:=by
 have h1:(0:Int)≤(k:Int)∧(k:Int)≤(n:Int):=by omega
 simp[Instr.slice,Instr.sliceBounds,Instr.sliceBound,asIntOf,run_underlying ht,hs,hk,Result.andThen]
def mZ(v:VD):List Value:=[.int .i64 v.k,.int .i64 v.n,.string v.t,.int .i64 v.a,.int .i64 v.b]
def bH(l:List VD):List Value:=l.flatMap mZ
theorem gP(a b:List VD):bH (a++b)=bH a++bH b:=by simp[bH]
theorem hX(l:List VD):∀u∈bH l,u.oneCell'=true:=by
 intro u hu;obtain⟨r,_,h⟩:=vL.1 hu
 simp only[mZ,sK,tX,or_false]at h;rcases h with rfl|rfl|rfl|rfl|rfl<;>rfl
theorem valsC_take:∀(l:List VD) (k:Nat),(bH l).take (k*5)=bH (l.take k)
 | [],k=>by simp[bH]
 |v::l,0=>by simp[bH]
 |v::l,k+1=>by
  have ih:=valsC_take l k;have e:bH (v::l)=mZ v++bH l:=by simp[bH]
  rw[e,List.take_append,show(mZ v).length=5 from rfl,sL (show(mZ v).length≤(k+1)*5 by show 5≤_;omega),show(k+1)*5-5=k*5 from by omega,ih];simp[bH]
theorem valsC_drop:∀(l:List VD) (k:Nat),(bH l).drop (k*5)=bH (l.drop k)
 | [],k=>by simp[bH]
 |v::l,0=>by simp
 |v::l,k+1=>by
  have ih:=valsC_drop l k;have e:bH (v::l)=mZ v++bH l:=by simp[bH]
  rw[e,List.drop_append,show(mZ v).length=5 from rfl,xE (show(mZ v).length≤(k+1)*5 by show 5≤_;omega),show(k+1)*5-5=k*5 from by omega,ih];simp
theorem valsC_at:∀ {l:List VD} {k:Nat} {v:VD},l[k]?=some v→∀i,i<5→(bH l)[k*5+i]?=(mZ v)[i]?
 | [],k,r,h=>by simp at h
 |x::l,0,o,h=>fun i hi=>by
  simp at h;subst h;simp only[bH,tM,xW,vE];exact tU (by show i<5;omega)
 |x::l,k+1,o,h=>fun i hi=>by
  have ih:=valsC_at (l:=l) (k:=k) (by simpa using h) i hi;have e:bH (x::l)=mZ x++bH l:=by simp[bH]
  rw[e,tR (by show 5≤_;omega),show(mZ x).length=5 from rfl,show(k+1)*5+i-5=k*5+i from by omega];exact ih
theorem kY{w:World}{base base':Nat}{e e':TypeId}{size size' n n':Nat}{v v':Value}{xs xs':List Value}(h:w.ownsRow base e size v n xs)(h':w.ownsRow base' e' size' v' n' xs')(hne:e≠e'):∀k,v.ownBlock=some k→v'.ownBlock≠some k:=by
 intro k hk;rcases h.2 with⟨rfl,_⟩|⟨g,cap,cur,rfl,_,hh,_⟩
 ·cases hk
 ·have:g=k:=by simpa[Value.ownBlock] using hk
  subst this;rcases h'.2 with⟨rfl,_⟩|⟨g',cap',cur',rfl,_,hh',_⟩
  ·intro e;cases e
  ·intro e;have:g'=g:=by simpa[Value.ownBlock] using e
   subst this;rw[hh]at hh';injection hh' with hh'
   injection hh' with _ hh'
   exact hne hh'
theorem Blk.rangeFrom{w:World}{g:Nat}{t:TypeId}{cs:List Value}(h:Blk w g t cs.toArray)(o n:Nat):w.rangeAt g o ((cs.drop o).take n):=fun j u hj=>by
 rw[h.cell (o+j)];rw[List.getElem?_take]at hj;split at hj
 ·rw[wB]at hj;simpa using hj
 ·cases hj
theorem pS:(Tryz.prog.info? 50).map (fun i=>(i.zero,i.size,i.bytes))=some (some (.agg #[.int .i64 0,.int .i64 0,.string ⟨#[]⟩,.int .i64 0,.int .i64 0]),5,48):=by kernel_rfl
theorem info_Val5:(Tryz.prog.info? 50).map (·.size)=some 5:=by kernel_rfl
theorem info_Op13':(Tryz.prog.info? 88).map (·.size)=some 13:=by kernel_rfl
end
section
open Go.ChangeShapes Go.WideShapes Go.ChangeAt Go.RowKit Go.Deep
theorem kR:Tryz.prog.cellsOf 3=1:=by kernel_rfl
theorem qA:Tryz.prog.cellsOf 9=1:=by kernel_rfl
theorem cells_bool:Tryz.prog.cellsOf 4=1:=by kernel_rfl
end
section
open Go.ChangeShapes Go.WideShapes Go.ChangeAt Go.RowKit Go.Deep
theorem bulk_one{H:Type}(d:DataW H):1≤Rows.uptoBulk d:=by
 cases d with
 |lit l=>cases l<;>simp[Rows.uptoBulk]
 |nil=>simp[Rows.uptoBulk]
 |ptr d=>simp[Rows.uptoBulk]
 |slice elems spare=>simp[Rows.uptoBulk]
 |agg parts=>simp[Rows.uptoBulk]
 |iface t d=>simp[Rows.uptoBulk]
 |map entries=>simp[Rows.uptoBulk]
 |held h=>simp[Rows.uptoBulk]
theorem bulk_len{H:Type}(l:List (DataW H)):l.length≤Rows.uptoBulkAll l:=by
 induction l with
 |nil=>simp[Rows.uptoBulkAll]
 |cons x r ih=>have:=bulk_one x;simp only[Rows.uptoBulkAll,sW];omega
theorem bulk_slice{H:Type}(elems spare:List (DataW H)):elems.length≤Rows.uptoBulk (.slice elems spare):=by
 have h1:=bulk_len elems;simp only[Rows.uptoBulk];omega
theorem cell_lt{w:World}{p:Addr}{u:Value}(h:w.cell? p=some u):p.block<w.heap.size:=by
 unfold World.cell? at h;cases hh:w.heap[p.block]? with
 |none=>rw[hh]at h;simp at h
 |some o=>exact(vQ.1 hh).1
theorem flat_at{α:Type}(cells:α→List Value)(size:Nat)(h:∀a,(cells a).length=size):∀(l:List α) (i r:Nat) (a:α),l[i]?=some a→r<size→(l.flatMap cells)[i*size+r]?=(cells a)[r]?
 | [],i,r,a,hi,_=>by simp at hi
 |x::l,0,r,a,hi,hr=>by
  simp at hi;subst hi;rw[tM,tU (by rw[h];omega)];simp
 |x::l,i+1,r,a,hi,hr=>by
  have e:(i+1)*size+r=size+(i*size+r):=by rw[Nat.add_mul];omega
  rw[tM,tR (by rw[h,e];omega),h,e,Nat.add_sub_cancel_left];exact flat_at cells size h l i r a (by simpa using hi) hr
theorem mF{α:Type}(cells:α→List Value)(size:Nat)(h:∀a,(cells a).length=size):∀(l:List α),(l.flatMap cells).length=l.length*size
 | []=>by simp
 |x::l=>by rw[tM,sG,h,mF cells size h l,sW,Nat.add_mul];omega
section
variable{H:Type}{enc:TypeId×Value→H}{P:Program}{w:World}{base:Nat}{spare:Nat→Bool}{held:Bool}
theorem open_rows{α:Type}[Inhabited α](cells:α→List Value)(size:Nat)(hsz:∀a,(cells a).length=size)(hs:0<size)(ok:α→DataW H→Prop){b0:Nat}{t e:TypeId}{v:Value}{d:DataW H}{ps:List MemPlace}
 (ht:P.underlying t=some (.slice e)) (hc:P.cellsOf e=size)
 (hel:∀fuel cs x,DataW.trod enc P w base spare held fuel e cs=some x→∃a,cs=cells a∧ok a x.1)
 (hval:Value.okWide P w .any b0 t v) (hd:DataW.Trod enc P w base spare held t v d ps) :
 ∃A c,∃l:List α,v=.slice A l.length c∧l.length≤c∧c≤maxLen∧aC (· < w.heap.size) w size A l.length (l.flatMap cells)∧l.length≤Rows.uptoBulk d ∧
  ((l=[]∧d=.nil)∨∃es sp,d=.slice es sp∧es.length=l.length∧∀(i:Nat) (a:α) (x:DataW H),l[i]?=some a→es[i]?=some x→ok a x):=by
 obtain⟨A,n,c,rfl⟩:=okWide_slice ht hval
 obtain⟨fuel,hf⟩:=hd
 rcases open_slice ht hf with⟨h1,h2⟩|⟨a,len,cap,m,nn,Dd,Pl,h1,hb,hl,hm,hmm,hx,hi⟩
 ·simp only[Value.cells,wM,and_true,tZ]at h1;obtain⟨rfl,rfl,rfl⟩:=h1
  simp only[uT]at h2;obtain⟨rfl,rfl⟩:=h2
  exact⟨none,0,[],rfl,by simp,by simp,aC.none_,by simp,.inl ⟨rfl,rfl⟩⟩
 ·simp only[Value.cells,wM,and_true,tZ]at h1;obtain⟨rfl,rfl,rfl⟩:=h1
  simp only[uT]at hx;obtain⟨rfl,rfl⟩:=hx
  have hlm:n≤m:=by rw[hmm];split<;>omega
  obtain⟨f,hfx⟩:=choose_lt (α:=α) (p:=fun i x=>w.cells? base (a.add (i*P.cellsOf e)) (P.cellsOf e)=some (cells x)∧ok x (Dd i)) (n:=n) (fun i hin=>by
   obtain⟨cs',h1,h2⟩:=hi i (by omega)
   obtain⟨x,rfl,hx⟩:=hel _ _ _ h2
   exact⟨x,h1,hx⟩)
  have hget:∀i x,((List.range n).map f)[i]?=some x→i<n∧x=f i:=by
   intro i x h;rw[uY]at h;by_cases hin:i<n
   ·rw[xJ hin]at h;simp at h;exact⟨hin,h.symm⟩
   ·rw[uF (by simpa using hin)]at h;simp at h
  refine⟨some a,c,(List.range n).map f,by simp,by simpa using hl,hm,⟨?_,fun h0=>⟨a,rfl,?_,?_⟩⟩,?_,.inr ⟨_,_,rfl,by simp,?_⟩⟩
  ·rw[mF cells size hsz]
  ·simp only[sP,List.length_range]at h0;have h1:=(hfx 0 h0).1;obtain⟨_,_,h3⟩:=World.cells?_some h1
   have h4:=h3 0 (by omega);have h5:0<(cells (f 0)).length:=by rw[hsz];omega
   rw[sD h5]at h4;have:=cell_lt h4
   rw[fP,fP]at this;exact this
  ·intro j u hj;have hjl:j<n*size:=by
    have:=(sF.1 hj).1
    rw[mF cells size hsz]at this;simpa using this
   have hdm:j / size*size+j % size=j:=by rw[yB];exact Nat.div_add_mod j size
   have hq:j / size<n:=Nat.div_lt_of_lt_mul (by rw[yB];exact hjl);have hr:j % size<size:=Nat.mod_lt _ hs;have h1:=flat_at cells size hsz ((List.range n).map f) (j / size) (j % size) (f (j / size)) (by rw[uY,xJ hq];rfl) hr;rw[hdm,hj]at h1;obtain⟨_,_,h3⟩:=World.cells?_some (hfx _ hq).1
   have h4:=h3 (j % size) (by omega);rw[←h1,hc,oV,hdm]at h4;exact h4
  ·have:=bulk_slice ((List.range n).map Dd) ((List.range (m-n)).map fun j=>Dd (n+j))
   simpa using this
  ·intro i x y h1 h2;obtain⟨hin,rfl⟩:=hget i x h1
   rw[uY,xJ hin]at h2;simp at h2;subst h2;exact(hfx i hin).2
end
end
section
open Go.ChangeShapes Go.WideShapes Go.ChangeAt Go.RowKit Go.Deep
set_option maxRecDepth 100000
section
variable{H:Type}{enc:TypeId×Value→H}{w:World}{base:Nat}{spare:Nat→Bool}{held:Bool}
theorem qB:Tryz.prog.cellsOf 24=2:=by kernel_rfl
theorem cells_value:Tryz.prog.cellsOf 50=5:=by kernel_rfl
theorem pB{fuel:Nat}{cs:List Value}{x:DataW H×List MemPlace}(h:DataW.trod enc Tryz.prog w base spare held fuel 24 cs=some x):
 ∃a b,cs=[.int .i64 a,.int .i64 b]∧(Lit.int .i64 a).wf=true∧(Lit.int .i64 b).wf=true∧x=(.agg [.lit (.int .i64 a),.lit (.int .i64 b)],[]):=by
 obtain⟨xs,n,_,rfl,hl,hn,hf⟩:=DataW.trod_struct Tryz.underlying24 h
 rw[qB]at hl
 match cs,hl with
 | [c0,c1],_ =>
   match xs,hn with
   | [y0,y1],_ =>
     have f0:DataW.trod enc Tryz.prog w base spare held n 3 (List.take (Tryz.prog.cellsOf 3) (List.drop 0 [c0,c1]))=some y0:=hf 0 _ rfl;have f1:DataW.trod enc Tryz.prog w base spare held n 3 (List.take (Tryz.prog.cellsOf 3) (List.drop 1 [c0,c1]))=some y1:=hf 1 _ rfl;rw[kR]at f0 f1;obtain⟨a,e0,rfl,wa⟩:=DataW.trod_int Tryz.underlying3 f0
     obtain⟨b,e1,rfl,wb⟩:=DataW.trod_int Tryz.underlying3 f1
     simp at e0 e1;subst e0 e1;exact⟨a,b,rfl,wa,wb,rfl⟩
theorem trod_value{fuel:Nat}{cs:List Value}{x:DataW H×List MemPlace}(h:DataW.trod enc Tryz.prog w base spare held fuel 50 cs=some x):
 ∃k n t a b,cs=[.int .i64 k,.int .i64 n,.string t,.int .i64 a,.int .i64 b]∧(Lit.int .i64 k).wf=true∧(Lit.int .i64 n).wf=true∧t.size≤maxLen∧(Lit.int .i64 a).wf=true∧(Lit.int .i64 b).wf=true ∧
  x=(.agg [.lit (.int .i64 k),.lit (.int .i64 n),.lit (.string t.data.toList),.agg [.lit (.int .i64 a),.lit (.int .i64 b)]],[]):=by
 obtain⟨xs,n,_,rfl,hl,hn,hf⟩:=DataW.trod_struct Tryz.underlying50 h
 rw[cells_value]at hl
 match cs,hl with
 | [c0,c1,c2,c3,c4],_ =>
   match xs,hn with
   | [y0,y1,y2,y3],_ =>
     have f0:DataW.trod enc Tryz.prog w base spare held n 3 (List.take (Tryz.prog.cellsOf 3) (List.drop 0 [c0,c1,c2,c3,c4]))=some y0:=hf 0 _ rfl;have f1:DataW.trod enc Tryz.prog w base spare held n 3 (List.take (Tryz.prog.cellsOf 3) (List.drop 1 [c0,c1,c2,c3,c4]))=some y1:=hf 1 _ rfl;have f2:DataW.trod enc Tryz.prog w base spare held n 9 (List.take (Tryz.prog.cellsOf 9) (List.drop 2 [c0,c1,c2,c3,c4]))=some y2:=hf 2 _ rfl;have f3:DataW.trod enc Tryz.prog w base spare held n 24 (List.take (Tryz.prog.cellsOf 24) (List.drop 3 [c0,c1,c2,c3,c4]))=some y3:=hf 3 _ rfl;rw[kR]at f0 f1;rw[qA]at f2;rw[qB]at f3;obtain⟨k,e0,rfl,wk⟩:=DataW.trod_int Tryz.underlying3 f0
     obtain⟨n,e1,rfl,wn⟩:=DataW.trod_int Tryz.underlying3 f1
     obtain⟨t,e2,rfl,wt⟩:=DataW.trod_string Tryz.underlying9 f2
     obtain⟨a,b,e3,wa,wb,rfl⟩:=pB f3
     simp at e0 e1 e2 e3;obtain⟨rfl,rfl⟩:=e3
     subst e0 e1 e2;exact⟨k,n,t,a,b,rfl,wk,wn,wt,wa,wb,rfl⟩
theorem open_id{W:World}{r:Reach}{b0:Nat}{v:Value}{d:DataW H}{p:List MemPlace}(hv:Value.okWide Tryz.prog W r b0 24 v)
 (h:DataW.Trod enc Tryz.prog w base spare held 24 v d p) :
 ∃a b,v=.agg #[.int .i64 a,.int .i64 b]∧(Lit.int .i64 a).wf=true∧(Lit.int .i64 b).wf=true∧d=.agg [.lit (.int .i64 a),.lit (.int .i64 b)]∧p=[]:=by
 obtain⟨cs,rfl,_⟩:=okWide_struct Tryz.underlying24 hv
 obtain⟨fuel,hf⟩:=h
 obtain⟨a,b,hcs,wa,wb,hx⟩:=pB hf
 simp only[uT]at hx;refine⟨a,b,?_,wa,wb,hx.1,hx.2⟩
 have:cs.toList=[Value.int .i64 a,.int .i64 b]:=hcs
 rw[←Array.toArray_toList (xs:=cs),this]
end
end
end Go.Proofs.YtmpkejflgpodkaaGreatDoor
