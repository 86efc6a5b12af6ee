/- A map's block, told by the list of its entries (in whatever order): looked up, written, struck, counted, ranged over. -/
import Derived.Test.YtjhkcbideddlgaaGreatP0
import Derived.Maps.RangeWalk
import Derived.DeepKeys4
import Derived.Deep.RegionHeld3
import Derived.ChangeSlices
set_option linter.unusedVariables false
set_option linter.unusedSimpArgs false
namespace Go.Proofs.YtjhkcbideddlgaaGreat
open Go.ChangeShapes Go.WideShapes Go.ChangeAt Go.RowKit
section
open Go.ChangeMaps (setBlock modify_eq_set set_perm map_eraseIdx heap_setBlock_same heap_setBlock_other)
open Go.MapKept Go.WideShapes Go.RowKit
open Go.WideElems (Fit rd rg pl rd_key rd_val rg_of rd_mk other_key)
open Go.Maps (Keyed)
def heldR(v:Value):Option (DataW Value×List MemPlace):=some (.held v,[])
def mP(es:Array MapEntry):List (Value×Value):=es.toList.map fun e=>(e.key,e.val)
def aJ(w:World)(k:TypeId)(b:Nat)(l:List (Value×Value)):Prop :=
 ∃es clock,w.heap[b]?=some (.map es clock)∧Fit Tryz.prog k heldR es clock∧(mP es).Perm l
section
variable{w:World}{k e t:TypeId}{b:Nat}{l:List (Value×Value)}
theorem rd_held{P:Program}{x:MapEntry}{kl:Lit}(h:keyOf P k x.key=some kl):rd P k heldR x=some (kl,.held x.val):=by
 unfold rd;rw[h];rfl
theorem iC{α:Type}(l:List α)(j:Nat)(x:α)(h:l[j]?=some x):l.Perm (x::l.eraseIdx j):=by
 obtain⟨h1,h2⟩:=sE.1 h
 have:=set_perm l j h1 x
 rw[←h2,List.set_getElem_self,h2]at this;exact this
theorem aJ.lt(h:aJ w k b l):b<w.heap.size:=by
 obtain⟨es,c,hb,_⟩:=h
 exact(vO.1 hb).1
theorem aJ.made(w:World)(k:TypeId):aJ (w.alloc (.map #[] 0)) k w.heap.size [] :=
 ⟨#[],0,(MapKept.heap_alloc w _).1,⟨by simp,stamped_empty 0,by simp⟩,vF _⟩
theorem aJ.keep{w':World}(h:aJ w k b l)(hk:w'.heap[b]?=w.heap[b]?):aJ w' k b l:=by
 obtain⟨es,c,hb,F,h⟩:=h
 exact⟨es,c,hk.trans hb,F,h⟩
theorem aJ.no_cells(h:aJ w k b l):∀cs t,w.heap[b]?≠some (.cells cs t):=by
 obtain⟨es,c,hb,_⟩:=h
 intro cs t e;rw[hb]at e;cases e
theorem aJ.keys(h:aJ w k b l):∀p∈l,∃kl,keyOf Tryz.prog k p.1=some kl:=by
 obtain⟨es,c,hb,F,h⟩:=h
 intro p hp;obtain⟨x,hx,rfl⟩:=sW.1 (h.mem_iff.2 hp)
 obtain⟨y,hy⟩:=F.reads x hx
 exact⟨_,rd_key hy⟩
theorem ents_apart{es:Array MapEntry}{c:Nat}(F:Fit Tryz.prog k heldR es c):(mP es).Pairwise (fun p q=>p.1≠q.1):=by
 unfold mP;rw[vY];exact((stamped_iff es c).1 F.stamped).2.2
theorem aJ.apart(h:aJ w k b l):l.Pairwise (fun p q=>p.1≠q.1):=by
 obtain⟨es,c,hb,F,h⟩:=h
 exact(h.pairwise_iff (fun {a b} (h:a.1≠b.1)=>h.symm)).1 (ents_apart F)
theorem aJ.one(h:aJ w k b l){p q:Value×Value}(hp:p∈l)(hq:q∈l)(he:p.1=q.1):p=q:=by
 have ha:=h.apart;clear h;induction l with
 |nil=>cases hp
 |cons x l ih =>
  obtain⟨h1,h2⟩:=uZ.1 ha
  rcases sO.1 hp with ep|hp
  ·rcases sO.1 hq with eq|hq
   ·rw[ep,eq]
   ·rw[ep]at he;exact absurd he (h1 q hq)
  ·rcases sO.1 hq with eq|hq
   ·rw[eq]at he;exact absurd he.symm (h1 p hp)
   ·exact ih hp hq h2
theorem aJ.hit(h:aJ w k b l)(K:Keyed Tryz.prog k)(ht:Tryz.prog.underlying t=some (.map k e)){z:Value}(hz:(zeroValue e).run Tryz.prog w=.ok z w){key v:Value}(hm:(key,v)∈l)(c:Bool):
 (Instr.lookup t (.map (some b)) key c).run Tryz.prog w=.ok (if c then .tuple #[v,.bool true] else v) w:=by
 have h0:=h;obtain⟨es,cl,hb,F,hp⟩:=h
 obtain⟨kl,hkl⟩:=h0.keys _ hm
 rcases Maps.fit_look c K ht hz hb F hkl with⟨_,h2,_⟩|⟨e0,y,h1,h2,h3,_⟩
 ·obtain⟨x,hx,hx2⟩:=sW.1 (hp.mem_iff.2 hm)
  exact absurd (congrArg Prod.fst hx2) (h2 x hx)
 ·have:(e0.key,e0.val)=(key,v):=h0.one (hp.mem_iff.1 (sW.2 ⟨e0,h1,rfl⟩)) hm h2
  rw[h3,show e0.val=v from congrArg Prod.snd this]
theorem aJ.miss(h:aJ w k b l)(K:Keyed Tryz.prog k)(ht:Tryz.prog.underlying t=some (.map k e)){z:Value}(hz:(zeroValue e).run Tryz.prog w=.ok z w){key:Value}{kl:Lit}(hkl:keyOf Tryz.prog k key=some kl)(hm:∀p∈l,p.1≠key)(c:Bool):
 (Instr.lookup t (.map (some b)) key c).run Tryz.prog w=.ok (if c then .tuple #[z,.bool false] else z) w:=by
 obtain⟨es,cl,hb,F,hp⟩:=h
 rcases Maps.fit_look c K ht hz hb F hkl with⟨h1,h2,_⟩|⟨e0,y,h1,h2,_⟩
 ·exact h1
 ·exact absurd h2 (hm (e0.key,e0.val) (hp.mem_iff.1 (sW.2 ⟨e0,h1,rfl⟩)))
theorem aJ.len(h:aJ w k b l)(ht:Tryz.prog.underlying t=some (.map k e))(ty:TypeId):(Builtin.len_ #[t] ty #[.map (some b)]).run Tryz.prog w=.ok (.int .i64 l.length) w:=by
 obtain⟨es,cl,hb,F,hp⟩:=h
 have:l.length=es.size:=by rw[←hp.length_eq];simp[mP]
 rw[this];simp[Builtin.len_,run_underlying ht,MapKept.run_getObj_map hb,goInt,Result.andThen]
theorem oF{es es':Array MapEntry}{c c':Nat}(hb:w.heap[b]?=some (.map es c)):w.mapTurned (setBlock w b (.map es' c')) b:=⟨es,c,es',c',hb,rfl⟩
theorem aJ.store(h:aJ w k b l)(K:Keyed Tryz.prog k)(ht:Tryz.prog.underlying t=some (.map k e))(hn:l.length<maxLen){key v:Value}{kl:Lit}(hkl:keyOf Tryz.prog k key=some kl)(hm:∀p∈l,p.1≠key):
 ∃w',(Instr.mapUpdate t (.map (some b)) key v).run Tryz.prog w=.ok () w'∧aJ w' k b (l++[(key,v)])∧w.mapTurned w' b:=by
 obtain⟨es,cl,hb,F,hp⟩:=h
 have hsz:es.size=l.length:=by rw[←hp.length_eq];simp[mP]
 rcases K.find w hkl es.toList F.keys with⟨h1,h2⟩|⟨j,e0,h1,h2,h3⟩
 ·refine⟨setBlock w b (.map (es.push ⟨key,v,cl⟩) (cl+1)),?_,⟨es.push ⟨key,v,cl⟩,cl+1,heap_setBlock_same hb _,⟨by simp;omega,stamped_push F.stamped h2,?_⟩,?_⟩,oF hb⟩
  ·simp[Instr.mapUpdate,run_underlying ht,MapKept.run_getObj_map hb,K.check w false hkl,h1,MapKept.run_setObj_map _ hb,Result.andThen,setBlock]
  ·intro x hx;simp only[Array.toList_push,sG,sP]at hx;rcases hx with hx|rfl
   ·exact F.reads x hx
   ·exact⟨_,rd_held hkl⟩
  ·unfold mP at hp ⊢;rw[Array.toList_push,tN];exact hp.append_right _
 ·exact absurd h3 (hm (e0.key,e0.val) (hp.mem_iff.1 (sW.2 ⟨e0,sJ h2,rfl⟩)))
theorem perm_tail{α β:Type}{l l':List (α×β)}{p q:α×β}(hp:(p::l).Perm (q::l'))(he:p=q):l.Perm l':=by
 subst he;exact hp.cons_inv
theorem aJ.over(h:aJ w k b l)(K:Keyed Tryz.prog k)(ht:Tryz.prog.underlying t=some (.map k e)){key v v0:Value}{l':List (Value×Value)}(hm:l.Perm ((key,v0)::l')):
 ∃w',(Instr.mapUpdate t (.map (some b)) key v).run Tryz.prog w=.ok () w'∧aJ w' k b ((key,v)::l')∧w.mapTurned w' b:=by
 have h0:=h;obtain⟨kl,hkl⟩:=h.keys (key,v0) (hm.mem_iff.2 (by simp))
 obtain⟨es,cl,hb,F,hp⟩:=h
 rcases K.find w hkl es.toList F.keys with⟨h1,h2⟩|⟨j,e0,h1,h2,h3⟩
 ·obtain⟨x,hx,hx2⟩:=sW.1 ((hp.trans hm).mem_iff.2 (tM ..))
  exact absurd (congrArg Prod.fst hx2) (h2 x hx)
 ·have hj:es[j]?=some e0:=by simpa using h2
  have hjl:j<es.toList.length:=(sE.1 h2).1;have hlist:(es.modify j (fun e'=>{ e' with key:=key,val:=v })).toList=es.toList.set j { e0 with key:=key,val:=v }:=by rw[Array.toList_modify,modify_eq_set _ _ _ _ h2]
  have hkeyf:∀e',es[j]?=some e'→({ e' with key:=key,val:=v } : MapEntry).key=e'.key:=fun e' he'=>by rw[hj]at he';cases he';exact h3.symm
  refine⟨setBlock w b (.map (es.modify j (fun e'=>{ e' with key:=key,val:=v })) cl),?_,⟨es.modify j (fun e'=>{ e' with key:=key,val:=v }),cl,heap_setBlock_same hb _,⟨by simpa using F.size,stamped_modify F.stamped _ _ (fun _ _=>rfl) (fun e' _ he'=>hkeyf e' he'),?_⟩,?_⟩,oF hb⟩
  ·simp[Instr.mapUpdate,run_underlying ht,MapKept.run_getObj_map hb,K.check w false hkl,h1,hj,h3,K.stays w hkl,MapKept.run_setObj_map _ hb,Result.andThen,setBlock]
  ·intro x hx;rw[hlist]at hx;rcases List.mem_or_eq_of_mem_set hx with hx|rfl
   ·exact F.reads x hx
   ·exact⟨_,rd_held (x:={ e0 with key:=key,val:=v }) hkl⟩
  ·unfold mP at hp ⊢;rw[hlist,List.map_set];have e1:((es.toList.map fun e=>(e.key,e.val)).set j (key,v)).Perm ((key,v)::(es.toList.map fun e=>(e.key,e.val)).eraseIdx j):=set_perm _ _ (by simpa using hjl) _;refine e1.trans (List.Perm.cons _ ?_);have e2:((es.toList.map fun e=>(e.key,e.val))).Perm ((e0.key,e0.val)::(es.toList.map fun e=>(e.key,e.val)).eraseIdx j):=by
    have h5:(es.toList.map fun e=>(e.key,e.val))[j]?=some (e0.key,e0.val):=by rw[uQ,h2];rfl
    exact iC _ _ _ h5
   have e3:=(e2.symm.trans hp).trans hm;refine perm_tail e3 ?_;exact h0.one (hp.mem_iff.1 (e2.mem_iff.2 (tM ..))) (hm.mem_iff.2 (tM ..)) h3
theorem aJ.drop(h:aJ w k b l)(K:Keyed Tryz.prog k)(ht:Tryz.prog.underlying t=some (.map k e)){key v0:Value}{l':List (Value×Value)}(hm:l.Perm ((key,v0)::l'))(ty:TypeId):
 ∃w',(Builtin.delete_ #[t,k] ty #[.map (some b),key]).run Tryz.prog w=.ok (.tuple #[]) w'∧aJ w' k b l'∧w.mapTurned w' b:=by
 have h0:=h;obtain⟨kl,hkl⟩:=h.keys (key,v0) (hm.mem_iff.2 (by simp))
 obtain⟨es,cl,hb,F,hp⟩:=h
 rcases K.find w hkl es.toList F.keys with⟨h1,h2⟩|⟨j,e0,h1,h2,h3⟩
 ·obtain⟨x,hx,hx2⟩:=sW.1 ((hp.trans hm).mem_iff.2 (tM ..))
  exact absurd (congrArg Prod.fst hx2) (h2 x hx)
 ·have hjl:j<es.toList.length:=(sE.1 h2).1;have hjs:j<es.size:=by simpa using hjl
  have hsub:(es.eraseIdxIfInBounds j).toList=es.toList.eraseIdx j:=by
   unfold Array.eraseIdxIfInBounds;rw[dif_pos hjs];simp
  refine⟨setBlock w b (.map (es.eraseIdxIfInBounds j) cl),?_,⟨_,cl,heap_setBlock_same hb _,⟨sY (MapFrom.size_erase es j) F.size,stamped_erase F.stamped j,?_⟩,?_⟩,oF hb⟩
  ·simp[Builtin.delete_,run_underlying ht,MapKept.run_getObj_map hb,K.check w _ hkl,h1,MapKept.run_setObj_map _ hb,Result.andThen,setBlock]
  ·intro x hx;rw[hsub]at hx;exact F.reads x ((wT _ _).subset hx)
  ·unfold mP at hp ⊢;rw[hsub,map_eraseIdx];have e2:((es.toList.map fun e=>(e.key,e.val))).Perm ((e0.key,e0.val)::(es.toList.map fun e=>(e.key,e.val)).eraseIdx j):=by
    have h5:(es.toList.map fun e=>(e.key,e.val))[j]?=some (e0.key,e0.val):=by rw[uQ,h2];rfl
    exact iC _ _ _ h5
   have e3:=(e2.symm.trans hp).trans hm;refine perm_tail e3 ?_;exact h0.one (hp.mem_iff.1 (e2.mem_iff.2 (tM ..))) (hm.mem_iff.2 (tM ..)) h3
def bC(w:World)(k:TypeId)(b r:Nat)(l todo:List (Value×Value)):Prop :=
 ∃es clock since seen c0,w.heap[b]?=some (.map es clock)∧Fit Tryz.prog k heldR es clock∧(mP es).Perm l∧w.heap[r]?=some (.mapIter (some b) since seen c0) ∧
  (∀x∈es.toList,x.born<since)∧(mP (leftOf es seen)).Perm todo∧since≤c0∧since≤clock
theorem bC.map{r:Nat}{todo:List (Value×Value)}(h:bC w k b r l todo):aJ w k b l:=by
 obtain⟨es,c,_,_,_,hb,F,hp,_⟩:=h
 exact⟨es,c,hb,F,hp⟩
theorem bC.lt{r:Nat}{todo:List (Value×Value)}(h:bC w k b r l todo):r<w.heap.size:=by
 obtain⟨es,c,_,_,_,hb,F,hp,hr,_⟩:=h
 exact(vO.1 hr).1
theorem bC.keep{w':World}{r:Nat}{todo:List (Value×Value)}(h:bC w k b r l todo)(hk:w'.heap[b]?=w.heap[b]?)(hk':w'.heap[r]?=w.heap[r]?):bC w' k b r l todo:=by
 obtain⟨es,c,s,sn,c0,hb,F,hp,hr,rest⟩:=h
 exact⟨es,c,s,sn,c0,hk.trans hb,F,hp,hk'.trans hr,rest⟩
theorem bC.sub{r:Nat}{todo:List (Value×Value)}(h:bC w k b r l todo):∀p∈todo,p∈l:=by
 obtain⟨es,c,_,sn,_,hb,F,hp,hr,_,ht,_⟩:=h
 intro p hp';obtain⟨x,hx,rfl⟩:=sW.1 (ht.mem_iff.2 hp')
 exact hp.mem_iff.1 (sW.2 ⟨x,by simp[leftOf]at hx;simpa using hx.1,rfl⟩)
theorem aJ.range(h:aJ w k b l)(ht:Tryz.prog.underlying t=some (.map k e)):
 ∃w',(Instr.range t (.map (some b))).run Tryz.prog w=.ok (.pointer (some ⟨w.heap.size,0,none⟩)) w'∧bC w' k b w.heap.size l l∧Below w.heap.size w w'∧w'.heap.size=w.heap.size+1:=by
 have hlt:=h.lt;obtain⟨es,clock,hb,F,hp⟩:=h
 refine⟨_,run_range_map w t k e b es clock ht hb,⟨es,clock,clock,#[],clock,((MapKept.heap_alloc w _).2 b hlt).trans hb,F,hp,(MapKept.heap_alloc w _).1,F.stamped.1,?_,sB _,sB _⟩,(sA _ _).alloc (sB _) _,by simp⟩
 have:leftOf es #[]=es:=by simp[leftOf]
 rw[this];exact hp
theorem bC.next{r:Nat}{todo:List (Value×Value)}(h:bC w k b r l todo)(ty:TypeId):
 (todo=[]∧(Instr.next (.pointer (some ⟨r,0,none⟩)) false ty).run Tryz.prog w=.ok (.tuple #[.bool false]) w) ∨
 ∃key v todo' w',todo.Perm ((key,v)::todo')∧(Instr.next (.pointer (some ⟨r,0,none⟩)) false ty).run Tryz.prog w=.ok (.tuple #[.bool true,key,v]) w' ∧
  bC w' k b r l todo'∧w.grownBy w' (some r)∧w'.heap.size=w.heap.size∧(Instr.entry (.pointer (some ⟨r,0,none⟩))).run Tryz.prog w'=.ok (.tuple #[key,v]) w':=by
 obtain⟨es,clock,since,seen,c0,hb,F,hp,hr,hold,htodo,hsc,hsk⟩:=h
 have hne:r≠b:=by intro e;rw[e,hb]at hr;cases hr
 rcases run_next_at (P:=Tryz.prog) w ty r b since c0 seen es clock hr hb hold hsc with⟨h0,hrun⟩|⟨x,hx,w1,hal,hrun⟩
 ·left;refine⟨?_,hrun⟩
  have:=htodo.length_eq
  simp only[mP,tF,vB,h0]at this;exact uK.1 this.symm
 ·right;obtain⟨hem,hes⟩:=mem_left hx
  have hr1:w1.heap[r]?=some (.mapIter (some b) since seen c0):=by rcases hal with rfl|rfl<;>exact hr
  have hb1:w1.heap[b]?=some (.map es clock):=by rcases hal with rfl|rfl<;>exact hb
  have hset:=heap_set (o':=.mapIter (some b) since (seen.push x.born) clock) hr1;have hb':(setBlock w1 r (.mapIter (some b) since (seen.push x.born) clock)).heap[b]?=some (.map es clock):=(hset.2 b (fun e1=>hne e1.symm)).trans hb1;have hborn:=((stamped_iff es clock).1 F.stamped).2.1;refine⟨x.key,x.val,mP (leftOf es (seen.push x.born)),_,htodo.symm.trans ?_,hrun,⟨es,clock,since,seen.push x.born,clock,hb',F,hp,hset.1,hold,vF _,hsk,hsk⟩,?_,?_,run_entry_at _ r b since seen es clock x hset.1 hb' hem hborn⟩
  ·have key:∀L:List MapEntry,(L.map (·.born)).Nodup→x∈L→seen.contains x.born=false→((L.filter fun e=>!seen.contains e.born).map fun e=>(e.key,e.val)).Perm ((x.key,x.val)::(L.filter fun e=>!(seen.push x.born).contains e.born).map fun e=>(e.key,e.val)):=by
    intro L;induction L with
    |nil=>intro _ h _;cases h
    |cons y L ih =>
     intro hn hm hs;rw[tU,uI]at hn;have hstep:∀z∈L,z.born≠y.born:=fun z hz e=>hn.1 (sW.2 ⟨z,hz,e⟩)
     by_cases hxy:x=y
     ·subst hxy;rw[vK (by rw[hs];rfl),wA (by rw[contains_push];simp),tU];refine List.Perm.cons _ (List.Perm.of_eq ?_);congr 1;refine List.filter_congr fun z hz=>?_
      rw[contains_push];have:(z.born == x.born)=false:=by simp[hstep z hz]
      rw[this];simp
     ·have hm':x∈L:=by rcases sO.1 hm with e|h;exact absurd e hxy;exact h
      have ih':=ih hn.2 hm' hs;have hb2:(y.born == x.born)=false:=by simp[(hstep x hm').symm]
      have hc:(seen.push x.born).contains y.born=seen.contains y.born:=by rw[contains_push,hb2];simp
      cases hsy:seen.contains y.born with
      |true=>rw[wA (by rw[hsy];simp),wA (by rw[hc,hsy];simp)];exact ih'
      |false =>
       rw[vK (by rw[hsy];rfl),vK (by rw[hc,hsy];rfl),tU,tU];exact(List.Perm.cons _ ih').trans (List.Perm.swap _ _ _)
   have:=key es.toList hborn hem hes
   simpa[mP,leftOf] using this
  ·rcases hal with rfl|rfl<;>exact⟨rfl,rfl,rfl,by simp[setBlock],fun i _ hi=>hset.2 i (fun e1=>hi (by rw[e1]))⟩
  ·rcases hal with rfl|rfl<;>simp[setBlock]
end
end
section
open Go.Maps (Keyed)
theorem eM:Keyed Tryz.prog 45 :=
 Keyed.of_law (deep_law_laid laidOut (m:=2) (by omega) (of_decide_eq_true (by kernel_rfl)) (by kernel_rfl) (by rw[Tryz.underlying45]))
theorem rR:Keyed Tryz.prog 48 :=
 Keyed.of_law (deep_law_laid laidOut (m:=2) (by omega) (of_decide_eq_true (by kernel_rfl)) (by kernel_rfl) (by rw[Tryz.underlying48]))
def eL(r:Rf):Prop:=(-9223372036854775808≤r.1∧r.1≤9223372036854775807)∧(-9223372036854775808≤r.2∧r.2≤9223372036854775807)
theorem wf64{x:Int}(h:-9223372036854775808≤x∧x≤9223372036854775807):(Lit.int .i64 x).wf=true:=by
 simp only[Lit.wf,IntKind.min,IntKind.max,IntKind.signed,IntKind.bits];simpa using h
theorem jL{r:Rf}(h:eL r):∃kl,keyOf Tryz.prog 45 (dB r)=some kl:=by
 have hk:Tryz.prog.keyType 45=true:=by kernel_rfl
 have hc:Tryz.prog.cellsOf 45=2:=by kernel_rfl
 have hi:Tryz.prog.cellsOf 3=1:=by kernel_rfl
 have hf:(dB r).formed Tryz.prog 45=true:=by simp[dB,Value.formed,Tryz.underlying45,hc]
 obtain⟨d,hd⟩:∃d,Tryz.prog.types.size=d+1:=⟨Tryz.prog.types.size-1,by have:0<Tryz.prog.types.size:=of_decide_eq_true (by kernel_rfl);omega⟩
 unfold keyOf;rw[Tryz.underlying45];simp only[hk,hf,Bool.and_true,if_true,hd];have e:∃ls,Tryz.prog.keyLits (d+1+1) 45 (dB r).cells.toList=some ls:=by
  unfold Program.keyLits;rw[Tryz.underlying45];simp[dB,Value.cells,hc,hi,Program.keyLits,Tryz.underlying3,wf64 h.1,wf64 h.2]
 obtain⟨ls,e⟩:=e
 exact⟨_,by rw[e];rfl⟩
theorem keyOf_id{r:Rf}(h:eL r):∃kl,keyOf Tryz.prog 48 (dB r)=some kl:=by
 have hk:Tryz.prog.keyType 48=true:=by kernel_rfl
 have hc:Tryz.prog.cellsOf 48=2:=by kernel_rfl
 have hi:Tryz.prog.cellsOf 3=1:=by kernel_rfl
 have hf:(dB r).formed Tryz.prog 48=true:=by simp[dB,Value.formed,Tryz.underlying48,hc]
 obtain⟨d,hd⟩:∃d,Tryz.prog.types.size=d+1:=⟨Tryz.prog.types.size-1,by have:0<Tryz.prog.types.size:=of_decide_eq_true (by kernel_rfl);omega⟩
 unfold keyOf;rw[Tryz.underlying48];simp only[hk,hf,Bool.and_true,if_true,hd];have e:∃ls,Tryz.prog.keyLits (d+1+1) 48 (dB r).cells.toList=some ls:=by
  unfold Program.keyLits;rw[Tryz.underlying48];simp[dB,Value.cells,hc,hi,Program.keyLits,Tryz.underlying3,wf64 h.1,wf64 h.2]
 obtain⟨ls,e⟩:=e
 exact⟨_,by rw[e];rfl⟩
theorem gP{r q:Rf}(h:dB r=dB q):r=q:=by
 obtain⟨a,b⟩:=r
 obtain⟨c,d⟩:=q
 simpa[dB] using h
/-! ### at the operation, for the walk -/
section
variable(w:World){ops:Array Oper}{rest:List Oper}{o:Oper}{a:Act}{Q:Exit→Act→World→Prop}
theorem eX(hg:o.guard=none)(m x v:Operand)(t:TypeId)(hop:o.op=Op.mapUpdate t m x v∨o.op=Op.insert t m x v)(b:Nat)(key val:Value)(hm:a.eval m=.map (some b))(hx:a.eval x=key)(hv:a.eval v=val)
 (R:World→Prop) (h:∃w',(Instr.mapUpdate t (.map (some b)) key val).run Tryz.prog w=.ok () w'∧R w')
 (hK:∀w',R w'→wpList Tryz.prog ops Q rest (a.put o.dst undef) w'):wpList Tryz.prog ops Q (o::rest) a w:=by
 refine wpList_plain hg fun K' hK'=>?_
 obtain⟨w',hrun,hR⟩:=h
 unfold Oper.wp;rcases hop with hop|hop<;>simp[execOp,hop,hm,hx,hv,hrun,Result.andThen]<;>exact hK' _ _ (hK w' hR)
theorem wpL_delete(hg:o.guard=none)(m x:Operand)(t k:TypeId)(hop:o.op=Op.call { callee:=Callee.builtin Builtin.delete,args:=#[m,x],argTypes:=#[t,k] })(b:Nat)(key:Value)(hm:a.eval m=.map (some b))(hx:a.eval x=key)
 (R:World→Prop) (h:∀ty,∃w',(Builtin.delete_ #[t,k] ty #[.map (some b),key]).run Tryz.prog w=.ok (.tuple #[]) w'∧R w')
 (hK:∀w',R w'→wpList Tryz.prog ops Q rest (a.put o.dst (.tuple #[])) w'):wpList Tryz.prog ops Q (o::rest) a w:=by
 refine wpList_plain hg fun K' hK'=>?_
 obtain⟨w',hrun,hR⟩:=h o.type
 unfold Oper.wp;simp[execOp,hop,resolve,invoke,builtin,hm,hx,hrun,Result.andThen];exact hK' _ _ (hK w' hR)
theorem lE(hg:o.guard=none)(m:Operand)(t:TypeId)(hop:o.op=Op.range t m)(k e:TypeId)(ht:Tryz.prog.underlying t=some (.map k e))(b:Nat)(l:List (Value×Value))(hm:a.eval m=.map (some b))(h:aJ w k b l)
 (hK:∀w',bC w' k b w.heap.size l l→Below w.heap.size w w'→w'.heap.size=w.heap.size+1→wpList Tryz.prog ops Q rest (a.put o.dst (.pointer (some ⟨w.heap.size,0,none⟩))) w') :
 wpList Tryz.prog ops Q (o::rest) a w:=by
 refine wpList_plain hg fun K' hK'=>?_
 obtain⟨w',hrun,r1,r2,r3⟩:=h.range ht
 unfold Oper.wp;simp[execOp,hop,hm,hrun,Result.andThen];exact hK' _ _ (hK w' r1 r2 r3)
theorem wpL_next(hg:o.guard=none)(it:Operand)(hop:o.op=Op.next it false)(k:TypeId)(b r:Nat)(l todo:List (Value×Value))(hit:a.eval it=.pointer (some ⟨r,0,none⟩))(h:bC w k b r l todo)
 (hDone:todo=[]→wpList Tryz.prog ops Q rest (a.put o.dst (.tuple #[.bool false])) w)
 (hMore:∀(key v:Value) (todo':List (Value×Value)) (w':World),todo.Perm ((key,v)::todo')→bC w' k b r l todo'→w.grownBy w' (some r)→w'.heap.size=w.heap.size →
   (Instr.entry (.pointer (some ⟨r,0,none⟩))).run Tryz.prog w'=.ok (.tuple #[key,v]) w'→wpList Tryz.prog ops Q rest (a.put o.dst (.tuple #[.bool true,key,v])) w') :
 wpList Tryz.prog ops Q (o::rest) a w:=by
 refine wpList_plain hg fun K' hK'=>?_
 unfold Oper.wp;rcases h.next o.type with⟨h0,hrun⟩|⟨key,v,todo',w',hp,hrun,hI,hg,hs,hen⟩
 ·simp[execOp,hop,hit,hrun,Result.andThen];exact hK' _ _ (hDone h0)
 ·simp[execOp,hop,hit,hrun,Result.andThen];exact hK' _ _ (hMore key v todo' w' hp hI hg hs hen)
end
/-! ### sets of refs -/
def fD(w:World)(b:Nat)(S:List Rf):Prop:=aJ w 45 b (S.map fun r=>(dB r,.bool true))
theorem zero_bool(w:World):(zeroValue 4).run Tryz.prog w=.ok (.bool false) w:=by kernel_rfl
theorem fD.made(w:World):fD (w.alloc (.map #[] 0)) w.heap.size []:=aJ.made w _
theorem fD.nodup{w:World}{b:Nat}{S:List Rf}(h:fD w b S):S.Nodup:=by
 have h1:=aJ.apart h;rw[vY]at h1;exact h1.imp fun h e=>h (by rw[e])
theorem fD.look{w:World}{b:Nat}{S:List Rf}(h:fD w b S){r:Rf}(hr:eL r):
 (Instr.lookup 102 (.map (some b)) (dB r) false).run Tryz.prog w=.ok (.bool (decide (r∈S))) w:=by
 by_cases hm:r∈S
 ·rw[sH hm];exact aJ.hit h eM Tryz.underlying102 (zero_bool w) (sW.2 ⟨r,hm,rfl⟩) false
 ·rw[sI hm];obtain⟨kl,hk⟩:=jL hr
  refine aJ.miss h eM Tryz.underlying102 (zero_bool w) hk (fun p hp e=>?_) false;obtain⟨q,hq,rfl⟩:=sW.1 hp
  exact hm (gP e▸hq)
theorem perm_pick{S:List Rf}{r:Rf}(hm:r∈S):∃S',S.Perm (r::S'):=by
 obtain⟨a,b,rfl⟩:=wR hm
 exact⟨a++b,wL⟩
theorem fD.add{w:World}{b:Nat}{S:List Rf}(h:fD w b S){r:Rf}(hr:eL r)(hn:S.length<maxLen):
 ∃w',(Instr.mapUpdate 102 (.map (some b)) (dB r) (.bool true)).run Tryz.prog w=.ok () w'∧(∃S',fD w' b S'∧(∀x,x∈S'↔x∈S∨x=r)∧S'.length≤S.length+1)∧w.mapTurned w' b:=by
 by_cases hm:r∈S
 ·obtain⟨S',hp⟩:=perm_pick hm
  obtain⟨w',h1,h2,h3⟩:=aJ.over (v:=.bool true) (v0:=.bool true) (l':=S'.map fun r=>(dB r,.bool true)) h eM Tryz.underlying102 (hp.map _)
  refine⟨w',h1,⟨r::S',h2,fun x=>?_,by rw[hp.length_eq];exact Nat.le_succ _⟩,h3⟩
  rw[hp.mem_iff,sO];constructor
  ·exact Or.inl
  ·rintro(h|h)
   ·exact h
   ·exact Or.inl h
 ·obtain⟨kl,hk⟩:=jL hr
  obtain⟨w',h1,h2,h3⟩:=aJ.store (v:=.bool true) h eM Tryz.underlying102 (by rw[tF];exact hn) hk (fun p hp e=>by
   obtain⟨q,hq,rfl⟩:=sW.1 hp
   exact hm (gP e▸hq))
  refine⟨w',h1,⟨S++[r],?_,fun x=>by simp,by simp⟩,h3⟩
  have e:(S++[r]).map (fun r=>(dB r,Value.bool true))=S.map (fun r=>(dB r,.bool true))++[(dB r,.bool true)]:=by simp
  unfold fD;rw[e];exact h2
theorem fD.keep{w w':World}{b:Nat}{S:List Rf}(h:fD w b S)(hk:w'.heap[b]?=w.heap[b]?):fD w' b S:=aJ.keep h hk
def fK(w:World)(b r:Nat)(S todo:List Rf):Prop:=bC w 45 b r (S.map fun r=>(dB r,.bool true)) (todo.map fun r=>(dB r,.bool true))
theorem rG{α β:Type}(f:α→β):∀ {l:List α} {x:β} {m:List β},(l.map f).Perm (x::m)→∃y l',f y=x∧l.Perm (y::l')∧m.Perm (l'.map f):=by
 intro l x m h;have hx:x∈l.map f:=h.mem_iff.2 (tM ..);obtain⟨y,hy,rfl⟩:=sW.1 hx
 obtain⟨a,b,rfl⟩:=wR hy
 refine⟨y,a++b,rfl,wL,?_⟩
 have h2:((a++y::b).map f).Perm (f y::(a++b).map f):=by
  simp only[tN,tU];exact wL
 exact(h2.symm.trans h).symm.cons_inv
theorem fK.sub{w:World}{b r:Nat}{S todo:List Rf}(h:fK w b r S todo):∀x∈todo,x∈S:=by
 intro x hx;have:=bC.sub h (dB x,.bool true) (sW.2 ⟨x,hx,rfl⟩)
 obtain⟨y,hy,e⟩:=sW.1 this
 have e1:dB y=dB x:=congrArg Prod.fst e;exact gP e1▸hy
theorem bC.perm{w:World}{k:TypeId}{b r:Nat}{l todo todo':List (Value×Value)}(h:bC w k b r l todo)(hp:todo.Perm todo'):bC w k b r l todo':=by
 obtain⟨es,c,s,sn,c0,h1,h2,h3,h4,h5,h6,h7⟩:=h
 exact⟨es,c,s,sn,c0,h1,h2,h3,h4,h5,h6.trans hp,h7⟩
section
variable(w:World){ops:Array Oper}{rest:List Oper}{o:Oper}{a:Act}{Q:Exit→Act→World→Prop}
theorem qH(hg:o.guard=none)(it:Operand)(hop:o.op=Op.next it false)(b r:Nat)(S todo:List Rf)(hit:a.eval it=.pointer (some ⟨r,0,none⟩))(h:fK w b r S todo)
 (hDone:todo=[]→wpList Tryz.prog ops Q rest (a.put o.dst (.tuple #[.bool false])) w)
 (hMore:∀(x:Rf) (todo':List Rf) (w':World),todo.Perm (x::todo')→fK w' b r S todo'→w.grownBy w' (some r)→w'.heap.size=w.heap.size →
   (Instr.entry (.pointer (some ⟨r,0,none⟩))).run Tryz.prog w'=.ok (.tuple #[.agg #[.int .i64 x.1,.int .i64 x.2],.bool true]) w'→wpList Tryz.prog ops Q rest (a.put o.dst (.tuple #[.bool true,.agg #[.int .i64 x.1,.int .i64 x.2],.bool true])) w') :
 wpList Tryz.prog ops Q (o::rest) a w:=by
 refine wpL_next w hg it hop _ b r _ _ hit h (fun e=>hDone (List.map_eq_nil_iff.1 e)) fun key v todo' w' hp hI hg hs hen=>?_
 obtain⟨x,t',hx,hp1,hp2⟩:=rG _ hp
 have e1:dB x=key:=congrArg Prod.fst hx;have e2:Value.bool true=v:=congrArg Prod.snd hx;subst e1 e2;exact hMore x t' w' hp1 (hI.perm hp2) hg hs hen
end
end
section
open Go.ChangeMaps (setBlock modify_eq_set set_perm map_eraseIdx heap_setBlock_same heap_setBlock_other)
open Go.MapKept Go.WideShapes Go.RowKit
open Go.WideElems (Fit rd rg pl rd_key rd_val rg_of rd_mk other_key)
open Go.Maps (Keyed)
abbrev Wh:=Rf×ByteArray×Rf
structure VD where
 k:Int
 n:Int
 t:ByteArray
 a:Int
 b:Int
section
variable{w:World}{k e t:TypeId}{b c:Nat}{l l':List (Value×Value)}{key v0:Value}
end
end
section
theorem size_val(w:World):(sizeOf 50).run Tryz.prog w=.ok 5 w:=by kernel_rfl
theorem size_id(w:World):(sizeOf 48).run Tryz.prog w=.ok 2 w:=by kernel_rfl
theorem slice_to{t e:TypeId}(ht:Tryz.prog.underlying t=some (.slice e)){size:Nat}(hs:∀w,(sizeOf e).run Tryz.prog w=.ok size w)(A:Option Addr){n c k:Nat}(hk:k≤n)(hc:n≤c)(w:World):
 (Instr.slice t (.slice A n c) none (some (.int .i64 k)) none).run Tryz.prog w=.ok (.slice A k c) w:=by
 have h1:(0:Int)≤(k:Int)∧(k:Int)≤(c:Int):=by omega
 have h2:(if c=0 then A else A.map (·.add (0*size)))=A:=by
  cases A with
  |none=>split<;>rfl
  |some a=>split<;>simp[Addr.add]
 have h3:k≤c:=by omega
 simp[Instr.slice,Instr.sliceBounds,Instr.sliceBound,asIntOf,run_underlying ht,hs,h3,Result.andThen];simpa using h2
theorem qT{t e:TypeId}(ht:Tryz.prog.underlying t=some (.slice e)){size:Nat}(hs:∀w,(sizeOf e).run Tryz.prog w=.ok size w)(A:Option Addr){n c k:Nat}(hk:k≤n)(w:World):
 (Instr.slice t (.slice A n c) (some (.int .i64 k)) none none).run Tryz.prog w=.ok (.slice (if c=k then A else A.map (·.add (k*size))) (n-k) (c-k)) w:=by
 have h1:(0:Int)≤(k:Int)∧(k:Int)≤(n:Int):=by omega
 simp[Instr.slice,Instr.sliceBounds,Instr.sliceBound,asIntOf,run_underlying ht,hs,hk,Result.andThen]
def qM(v:VD):List Value:=[.int .i64 v.k,.int .i64 v.n,.string v.t,.int .i64 v.a,.int .i64 v.b]
def cU(l:List VD):List Value:=l.flatMap qM
theorem valsC_append(a b:List VD):cU (a++b)=cU a++cU b:=by simp[cU]
theorem oE(l:List VD):∀u∈cU l,u.oneCell'=true:=by
 intro u hu;obtain⟨r,_,h⟩:=vG.1 hu
 simp only[qM,sO,uB,or_false]at h;rcases h with rfl|rfl|rfl|rfl|rfl<;>rfl
theorem qK:∀(l:List VD) (k:Nat),(cU l).take (k*5)=cU (l.take k)
 | [],k=>by simp[cU]
 |v::l,0=>by simp[cU]
 |v::l,k+1=>by
  have ih:=qK l k;have e:cU (v::l)=qM v++cU l:=by simp[cU]
  rw[e,List.take_append,show(qM v).length=5 from rfl,sL (show(qM v).length≤(k+1)*5 by show 5≤_;omega),show(k+1)*5-5=k*5 from by omega,ih];simp[cU]
theorem qL:∀(l:List VD) (k:Nat),(cU l).drop (k*5)=cU (l.drop k)
 | [],k=>by simp[cU]
 |v::l,0=>by simp
 |v::l,k+1=>by
  have ih:=qL l k;have e:cU (v::l)=qM v++cU l:=by simp[cU]
  rw[e,List.drop_append,show(qM v).length=5 from rfl,List.drop_eq_nil_of_le (show(qM v).length≤(k+1)*5 by show 5≤_;omega),show(k+1)*5-5=k*5 from by omega,ih];simp
theorem valsC_at:∀ {l:List VD} {k:Nat} {v:VD},l[k]?=some v→∀i,i<5→(cU l)[k*5+i]?=(qM v)[i]?
 | [],k,r,h=>by simp at h
 |x::l,0,o,h=>fun i hi=>by
  simp at h;subst h;simp only[cU,tQ,Nat.zero_mul,uX];exact uD (by show i<5;omega)
 |x::l,k+1,o,h=>fun i hi=>by
  have ih:=valsC_at (l:=l) (k:=k) (by simpa using h) i hi;have e:cU (x::l)=qM x++cU l:=by simp[cU]
  rw[e,uS (by show 5≤_;omega),show(qM x).length=5 from rfl,show(k+1)*5+i-5=k*5+i from by omega];exact ih
theorem fP{w:World}{base base':Nat}{e e':TypeId}{size size' n n':Nat}{v v':Value}{xs xs':List Value}(h:w.ownsRow base e size v n xs)(h':w.ownsRow base' e' size' v' n' xs')(hne:e≠e'):∀k,v.ownBlock=some k→v'.ownBlock≠some k:=by
 intro k hk;rcases h.2 with⟨rfl,_⟩|⟨g,cap,cur,rfl,_,hh,_⟩
 ·cases hk
 ·have:g=k:=by simpa[Value.ownBlock] using hk
  subst this;rcases h'.2 with⟨rfl,_⟩|⟨g',cap',cur',rfl,_,hh',_⟩
  ·intro e;cases e
  ·intro e;have:g'=g:=by simpa[Value.ownBlock] using e
   subst this;rw[hh]at hh';injection hh' with hh'
   injection hh' with _ hh'
   exact hne hh'
theorem Blk.rangeFrom{w:World}{g:Nat}{t:TypeId}{cs:List Value}(h:Blk w g t cs.toArray)(o n:Nat):w.rangeAt g o ((cs.drop o).take n):=fun j u hj=>by
 rw[h.cell (o+j)];rw[List.getElem?_take]at hj;split at hj
 ·rw[wC]at hj;simpa using hj
 ·cases hj
theorem infoVal:(Tryz.prog.info? 50).map (fun i=>(i.zero,i.size,i.bytes))=some (some (.agg #[.int .i64 0,.int .i64 0,.string ⟨#[]⟩,.int .i64 0,.int .i64 0]),5,48):=by kernel_rfl
theorem info_Val5:(Tryz.prog.info? 50).map (·.size)=some 5:=by kernel_rfl
theorem info_Op13':(Tryz.prog.info? 53).map (·.size)=some 13:=by kernel_rfl
end
namespace Go.Proofs.YtjhkcbideddlgaaGreat.Loc
open Go.RowKit
theorem oB{l:List Oper}{i:Nat}{o:Oper}{rest:List Oper}(h:l.drop i=o::rest):l.toArray[i]?=some o:=by
 have h2:(l.drop i)[0]?=some o:=by rw[h];rfl
 rw[wC]at h2;simpa using h2
section
variable{P:Program}{l:List Oper}{Q:Exit→Act→World→Prop}{md:Region.Mode}{S:World→Prop}
theorem aK{i:Nat}{oi:Oper}{rest:List Oper}{v:Value}{fuel:Nat}{listed:Array Bool}{a:Act}{w:World}(hl:l.drop i=oi::rest)
 (hs:Region.noSelect l.toArray=true) (hf:Region.free md l.toArray listed i=true) (hr:(Region.ready md l.toArray listed).contains i=true)
 (hQ:∀c a w,Q (.panic c) (a.put oi.dst v) w→Q (.panic c) a w) (hy:YieldsIf P l.toArray S oi v a) (hS:S w)
 (h:wpAnyH P md l.toArray Q S fuel (listed.setIfInBounds i true) (a.put oi.dst v) w):wpAnyH P md l.toArray Q S (fuel+1) listed a w :=
 wpAnyH_take (oB hl) hs hf hr hQ hy hS h
theorem bK{fuel:Nat}{listed:Array Bool}{a:Act}{w:World}{i:Nat}{o:Oper}{rs:List Nat}{rest:List Oper}(hl:l.drop i=o::rest)
 (h:∀K':Act→World→Prop,Shut (∀a w,S w→(S w→wpAnyH P md l.toArray Q S fuel (listed.setIfInBounds i true) a w)→K' a w)→if Region.wanted o (yielded l.toArray a.tmps)=true then Oper.wp P o a w K' Q else K' (a.put o.dst undef) w)
 (hs:AllReadyH P md l.toArray Q S fuel listed a w rs):AllReadyH P md l.toArray Q S fuel listed a w (i::rs):=AllReadyH.cons (oB hl) h hs
end
end Go.Proofs.YtjhkcbideddlgaaGreat.Loc
section
theorem ints_at{l:List Int}{k:Nat}{x:Int}(h:l[k]?=some x):(iS l)[k]?=some (.int .i64 x):=by simp[iS,h]
theorem at_any(l:List Int)(i:Nat)(D:Nat→Prop)(A:Option Addr)(c:Nat)(w:World)(hr:aC D w 1 A l.length (iS l)):
 Calls Tryz.prog 27 #[.slice A l.length c,.int .i64 i] w fun e w'=>e=.returned (.int .i64 (l.getD i 0))∧w'=w:=by
 by_cases h:i<l.length
 ·obtain⟨b,off,rfl,hb,hcell⟩:=hr.at_ (by omega) (by omega)
  have hx:=hcell i _ (ints_at (sC h));have e1:l.getD i 0=l[i]:=by rw[vM,sC h];rfl
  rw[e1];clear hr hcell e1 hb;generalize l[i]=x at hx ⊢;generalize l.length=n at h ⊢;have h':decide ((i:Int)<(n:Int))=true:=sH (by omega);go_enter Tryz.func27,Tryz.ntmps27;go_wp2_with fail
  go_ret;exact⟨rfl,rfl⟩
 ·have e1:l.getD i 0=0:=by rw[vM,vA (by omega)];rfl
  rw[e1];clear hr e1;generalize l.length=n at h ⊢;have h':decide ((i:Int)<(n:Int))=false:=sI (by omega);go_enter Tryz.func27,Tryz.ntmps27;go_wp2_with fail
  go_ret;exact⟨rfl,rfl⟩
end
section
open Go.ChangeShapes Go.WideShapes Go.ChangeAt Go.RowKit Go.Deep
theorem wf_i64_bd{n:Int}(h:(Lit.int .i64 n).wf=true):-9223372036854775808≤n∧n≤9223372036854775807:=by
 simpa[Lit.wf,IntKind.min,IntKind.max,IntKind.signed,IntKind.bits] using h
end
section
open Go.ChangeShapes Go.WideShapes Go.ChangeAt Go.RowKit Go.Deep
theorem bulk_one{H:Type}(d:DataW H):1≤Rows.uptoBulk d:=by
 cases d with
 |lit l=>cases l<;>simp[Rows.uptoBulk]
 |nil=>simp[Rows.uptoBulk]
 |ptr d=>simp[Rows.uptoBulk]
 |slice elems spare=>simp[Rows.uptoBulk]
 |agg parts=>simp[Rows.uptoBulk]
 |iface t d=>simp[Rows.uptoBulk]
 |map entries=>simp[Rows.uptoBulk]
 |held h=>simp[Rows.uptoBulk]
theorem bulk_len{H:Type}(l:List (DataW H)):l.length≤Rows.uptoBulkAll l:=by
 induction l with
 |nil=>simp[Rows.uptoBulkAll]
 |cons x r ih=>have:=bulk_one x;simp only[Rows.uptoBulkAll,sV];omega
theorem bulk_slice{H:Type}(elems spare:List (DataW H)):elems.length≤Rows.uptoBulk (.slice elems spare):=by
 have h1:=bulk_len elems;simp only[Rows.uptoBulk];omega
theorem cell_lt{w:World}{p:Addr}{u:Value}(h:w.cell? p=some u):p.block<w.heap.size:=by
 unfold World.cell? at h;cases hh:w.heap[p.block]? with
 |none=>rw[hh]at h;simp at h
 |some o=>exact(vO.1 hh).1
theorem flat_at{α:Type}(cells:α→List Value)(size:Nat)(h:∀a,(cells a).length=size):∀(l:List α) (i r:Nat) (a:α),l[i]?=some a→r<size→(l.flatMap cells)[i*size+r]?=(cells a)[r]?
 | [],i,r,a,hi,_=>by simp at hi
 |x::l,0,r,a,hi,hr=>by
  simp at hi;subst hi;rw[tQ,uD (by rw[h];omega)];simp
 |x::l,i+1,r,a,hi,hr=>by
  have e:(i+1)*size+r=size+(i*size+r):=by rw[Nat.add_mul];omega
  rw[tQ,uS (by rw[h,e];omega),h,e,Nat.add_sub_cancel_left];exact flat_at cells size h l i r a (by simpa using hi) hr
theorem flat_len{α:Type}(cells:α→List Value)(size:Nat)(h:∀a,(cells a).length=size):∀(l:List α),(l.flatMap cells).length=l.length*size
 | []=>by simp
 |x::l=>by rw[tQ,sF,h,flat_len cells size h l,sV,Nat.add_mul];omega
section
variable{H:Type}{enc:TypeId×Value→H}{P:Program}{w:World}{base:Nat}{spare:Nat→Bool}{held:Bool}
theorem open_rows{α:Type}[Inhabited α](cells:α→List Value)(size:Nat)(hsz:∀a,(cells a).length=size)(hs:0<size)(ok:α→DataW H→Prop){b0:Nat}{t e:TypeId}{v:Value}{d:DataW H}{ps:List MemPlace}
 (ht:P.underlying t=some (.slice e)) (hc:P.cellsOf e=size)
 (hel:∀fuel cs x,DataW.trod enc P w base spare held fuel e cs=some x→∃a,cs=cells a∧ok a x.1)
 (hval:Value.okWide P w .any b0 t v) (hd:DataW.Trod enc P w base spare held t v d ps) :
 ∃A c,∃l:List α,v=.slice A l.length c∧l.length≤c∧c≤maxLen∧aC (· < w.heap.size) w size A l.length (l.flatMap cells)∧l.length≤Rows.uptoBulk d ∧
  ((l=[]∧d=.nil)∨∃es sp,d=.slice es sp∧es.length=l.length∧∀(i:Nat) (a:α) (x:DataW H),l[i]?=some a→es[i]?=some x→ok a x):=by
 obtain⟨A,n,c,rfl⟩:=okWide_slice ht hval
 obtain⟨fuel,hf⟩:=hd
 rcases open_slice ht hf with⟨h1,h2⟩|⟨a,len,cap,m,nn,Dd,Pl,h1,hb,hl,hm,hmm,hx,hi⟩
 ·simp only[Value.cells,wH,and_true,tS]at h1;obtain⟨rfl,rfl,rfl⟩:=h1
  simp only[uV]at h2;obtain⟨rfl,rfl⟩:=h2
  exact⟨none,0,[],rfl,by simp,by simp,aC.none_,by simp,.inl ⟨rfl,rfl⟩⟩
 ·simp only[Value.cells,wH,and_true,tS]at h1;obtain⟨rfl,rfl,rfl⟩:=h1
  simp only[uV]at hx;obtain⟨rfl,rfl⟩:=hx
  have hlm:n≤m:=by rw[hmm];split<;>omega
  obtain⟨f,hfx⟩:=choose_lt (α:=α) (p:=fun i x=>w.cells? base (a.add (i*P.cellsOf e)) (P.cellsOf e)=some (cells x)∧ok x (Dd i)) (n:=n) (fun i hin=>by
   obtain⟨cs',h1,h2⟩:=hi i (by omega)
   obtain⟨x,rfl,hx⟩:=hel _ _ _ h2
   exact⟨x,h1,hx⟩)
  have hget:∀i x,((List.range n).map f)[i]?=some x→i<n∧x=f i:=by
   intro i x h;rw[uQ]at h;by_cases hin:i<n
   ·rw[List.getElem?_range hin]at h;simp at h;exact⟨hin,h.symm⟩
   ·rw[vA (by simpa using hin)]at h;simp at h
  refine⟨some a,c,(List.range n).map f,by simp,by simpa using hl,hm,⟨?_,fun h0=>⟨a,rfl,?_,?_⟩⟩,?_,.inr ⟨_,_,rfl,by simp,?_⟩⟩
  ·rw[flat_len cells size hsz]
  ·simp only[tF,List.length_range]at h0;have h1:=(hfx 0 h0).1;obtain⟨_,_,h3⟩:=World.cells?_some h1
   have h4:=h3 0 (by omega);have h5:0<(cells (f 0)).length:=by rw[hsz];omega
   rw[sC h5]at h4;have:=cell_lt h4
   rw[gE,gE]at this;exact this
  ·intro j u hj;have hjl:j<n*size:=by
    have:=(sE.1 hj).1
    rw[flat_len cells size hsz]at this;simpa using this
   have hdm:j / size*size+j % size=j:=by rw[Nat.mul_comm];exact Nat.div_add_mod j size
   have hq:j / size<n:=Nat.div_lt_of_lt_mul (by rw[Nat.mul_comm];exact hjl);have hr:j % size<size:=Nat.mod_lt _ hs;have h1:=flat_at cells size hsz ((List.range n).map f) (j / size) (j % size) (f (j / size)) (by rw[uQ,List.getElem?_range hq];rfl) hr;rw[hdm,hj]at h1;obtain⟨_,_,h3⟩:=World.cells?_some (hfx _ hq).1
   have h4:=h3 (j % size) (by omega);rw[←h1,hc,add_of_add,hdm]at h4;exact h4
  ·have:=bulk_slice ((List.range n).map Dd) ((List.range (m-n)).map fun j=>Dd (n+j))
   simpa using this
  ·intro i x y h1 h2;obtain⟨hin,rfl⟩:=hget i x h1
   rw[uQ,List.getElem?_range hin]at h2;simp at h2;subst h2;exact(hfx i hin).2
theorem flat_map1{α:Type}(val:α→Value)(l:List α):l.flatMap (fun a=>[val a])=l.map val:=by
 induction l with
 |nil=>rfl
 |cons x l ih=>simp[ih]
end
end
section
open Go.ChangeShapes Go.WideShapes Go.ChangeAt Go.RowKit Go.Deep
abbrev iM:=Option Addr×Nat×List Int
def iM.val(a:iM):Value:=.slice a.1 a.2.2.length a.2.1
def iM.ok(w:World)(a:iM):Prop:=a.2.2.length≤a.2.1∧a.2.1≤maxLen∧aC (· < w.heap.size) w 1 a.1 a.2.2.length (iS a.2.2)∧∀x∈a.2.2,(Lit.int .i64 x).wf=true
section
variable{H:Type}{enc:TypeId×Value→H}{P:Program}{w:World}{base:Nat}{spare:Nat→Bool}{held:Bool}
theorem trod_row{t e:TypeId}(ht:P.underlying t=some (.slice e))(he:P.underlying e=some (.int .i64))(hc:P.cellsOf e=1)(fuel:Nat)(cs:List Value)(x:DataW H×List MemPlace)
 (h:DataW.trod enc P w base spare held fuel t cs=some x):∃a:iM,cs=[a.val]∧a.ok w:=by
 rcases open_ints ht he hc h with⟨rfl,rfl⟩|⟨a,len,cap,zs,rfl,hb,hl,hm,hz,hx,hcell,hwf⟩
 ·exact⟨(none,0,[]),rfl,by simp,by simp,aC.none_,by simp⟩
 ·have hlz:len≤zs.length:=by rw[hz];split<;>omega
  refine⟨(some a,cap,zs.take len),by simp only[iM.val,tD];rw[Nat.min_eq_left hlz],by simp only[tD];omega,hm,⟨by simp[iS],fun h0=>⟨a,rfl,?_,fun j u hj=>?_⟩⟩,fun y hy=>hwf y (uY hy)⟩
  ·simp only[tD]at h0;have:=cell_lt (hcell 0 (by omega))
   rwa [gE]at this
  ·simp only[iS,uQ]at hj;have hjl:j<len:=by
    rcases wI j len with h|h
    ·exact h
    ·rw[vA (by simp only[tD];omega)]at hj;simp at hj
   rw[List.getElem?_take_of_lt hjl]at hj;have h1:=hcell j (by omega);rw[h1];rw[sC (by omega)]at hj;simp only[vC,tW]at hj;rw[←hj,vM,sC (by omega)];rfl
theorem open_introws{b0:Nat}{t s e:TypeId}{v:Value}{d:DataW H}{ps:List MemPlace}(ht:P.underlying t=some (.slice s))(hs:P.underlying s=some (.slice e))(he:P.underlying e=some (.int .i64))(hcs:P.cellsOf s=1)(hce:P.cellsOf e=1)
 (hval:Value.okWide P w .any b0 t v) (hd:DataW.Trod enc P w base spare held t v d ps) :
 ∃A c,∃l:List iM,v=.slice A l.length c∧l.length≤c∧c≤maxLen∧aC (· < w.heap.size) w 1 A l.length (l.map iM.val)∧l.length≤Rows.uptoBulk d∧∀a∈l,a.ok w:=by
 obtain⟨A,c,l,h1,h2,h3,h4,h5,h6⟩:=open_rows (α:=iM) (fun a=>[a.val]) 1 (fun _=>rfl) (by omega) (fun a _=>a.ok w) ht hcs (fun fuel cs x h=>trod_row hs he hce fuel cs x h) hval hd
 refine⟨A,c,l,h1,h2,h3,by rw[←flat_map1];exact h4,h5,fun a ha=>?_⟩
 rcases h6 with⟨rfl,_⟩|⟨es,sp,_,hl,hok⟩
 ·simp at ha
 ·obtain⟨i,hi,rfl⟩:=List.mem_iff_getElem.1 ha
  exact hok i _ es[i] (sC hi) (sC (by omega))
end
end
end Go.Proofs.YtjhkcbideddlgaaGreat
