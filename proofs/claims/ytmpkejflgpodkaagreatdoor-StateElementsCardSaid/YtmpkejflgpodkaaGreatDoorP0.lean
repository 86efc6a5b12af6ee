/- The frame of a law's row, whatever its parameters: the call answers true, and below the heap's old size nothing has turned. -/
import Derived.Test.YtmpkejflgpodkaaGreatDoorRows
import Derived.WalkKit
import Derived.ProofKit
import Derived.OpenShut
import Derived.Below
import Derived.Carry
import Derived.ChangeSame
import Derived.Deep.Slices
import Derived.Laws.OwnMore
import Derived.Deep.AppendLies
import Derived.Deep.Draws
import Derived.Laws.Rows
import Derived.Maps.AppendAt
import Derived.RegionTactic
import Derived.OwnWalk
import Derived.Maps.RangeWalk
import Derived.Laws.BitsAllLaws
import Derived.Laws.BitsLemmas
import Derived.Laws.Bits64
import Derived.Laws.IdiomStrings
import Derived.Laws.BytesArg
import Derived.WalkLawsBesides
import Derived.WalkSpells
import Derived.BigQuiet
import Derived.Deep.QuietTactic
import Derived.Deep.RegionHeld3
import Derived.Lib.Hide
import Derived.LoopTactic
import Derived.StillTailTactics
import Derived.DeepKeys4
import Derived.Deep.DeepFit
import Derived.Deep.RegionWith
set_option linter.unusedVariables false
set_option linter.unusedSimpArgs false
namespace Go.Proofs.YtmpkejflgpodkaaGreatDoor
open Go.ChangeShapes Go.WideShapes Go.ChangeAt Go.RowKit Go.Deep
section
variable {H : Type} {enc : TypeId × Value→H} {P : Program}
theorem trodAll_below (hl : laidOutB P=true) {W W' : World} (hb : Below W.heap.size W W') (sp : Nat→Bool) :
 ∀ (ts : List TypeId) (vs : List Value) (ds : List (DataW H)) (ps : List MemPlace),(∀ t∈ts,P.readableRec t=true∧t < P.types.size) →
  DataW.TrodAll enc P W 0 (fun _=>true) true ts vs ds ps→(∀ x∈ps,x.block < W.heap.size)→(∀ x∈ps,sp x.block=true)→DataW.TrodAll enc P W' 0 sp true ts vs ds ps
 | [],vs,ds,ps,_,h,_,_=>by
   obtain ⟨rfl,rfl,rfl⟩:=trodAll_nil h
   exact trodAll_mk0
 | t::ts,vs,ds,ps,hr,h,hlt,hs=>by
   obtain ⟨v,vs',d,ds',p,q,rfl,rfl,rfl,h1,h2⟩:=trodAll_cons h
   have ht:=hr t (by simp)
   refine trodAll_cons_mk (WideElems.Trod_stays hl ht.1 ht.2 h1 (fun x hx=>hb.same (hlt x (by simp [hx]))) (fun x hx=>hs x (by simp [hx]))) ?_
   exact trodAll_below hl hb sp ts vs' ds' q (fun t' h'=>hr t' (by simp [h'])) h2 (fun x hx=>hlt x (by simp [hx])) (fun x hx=>hs x (by simp [hx]))
theorem post_of_below {f : Func} {s : ChangeSpec} {apart fresh handsOn again : Bool} {W W' : World} {args : Array Value} {v : Value} {ds gs : List (DataW H)} {before pa pv : List MemPlace}
 (hW : DataW.Whole enc P f.params.toList s.vars apart W args.toList ds gs before)
 (hres : ∀ (b : Nat) (sp : Nat→Bool) (hd : Bool),DataW.TrodAll enc P W' b sp hd f.resultTypes.toList (v.resultList f.resultTypes.size) (s.fn H (ds++gs)).results [])
 (hargs : ∀ sp : Nat→Bool,(∀ p∈before,sp p.block=true)→DataW.TrodAll enc P W' 0 sp true f.params.toList args.toList (s.fn H (ds++gs)).args pa)
 (hvars : ∀ sp : Nat→Bool,(∀ p∈before,sp p.block=true)→DataW.TrodVars enc P W' sp s.vars (s.fn H (ds++gs)).vars pv)
 (hps : before=pa++pv) (hb : Below W.heap.size W W')
 (hok : ∀ (j : Nat) (t : TypeId) (r : Value),f.resultTypes[j]?=some t→(v.resultList f.resultTypes.size)[j]?=some r→Value.okWide P W' .any 0 t r) :
 s.post enc P f apart fresh handsOn again W args v W':=by
 have hlt : ∀ p∈before,p.block < W.heap.size:=fun p hp=>hW.lt p hp
 have hold : ∀ p∈before,(fun b=>decide (b < W.heap.size)) p.block=true:=fun p hp=>by simpa using hlt p hp
 refine ⟨ds,gs,before,[],pa,pv,hW,hres _ _ _,hargs _ hold,hvars _ hold,World.keptBut_mono (fun p hp=>⟨hp,?_⟩) (hb.frame (·∈before)),fun _=>?_⟩
 · rw [hps,List.mem_append] at hp
   exact Or.inr hp
 · obtain ⟨_,_,_,_,_,hz,hn⟩:=hW
   refine ⟨hok,_,_,([]++pa)++pv,⟨[]++pa,pv,trodAll_append (hargs _ (fun _ _=>rfl)) (hres _ _ _),hvars _ (fun _ _=>rfl),rfl,?_,?_⟩,?_⟩
   · intro b off hp
     have hin : MemPlace.cell b off∈before:=by rw [hps];simpa using hp
     rw [hb.frozen (hlt _ hin)]
     exact hz b off hin
   · intro ha
     have:=hn ha
     rw [hps] at this
     simpa using this
   · intro p hp _
     rw [hps]
     simpa using hp
theorem law_post {f : Func} {s : ChangeSpec} {apart fresh handsOn again : Bool} {W W' : World} {args : Array Value} {ds gs : List (DataW H)} {before : List MemPlace} {tb : TypeId}
 (hl : laidOutB P=true) (hread : (f.params.toList.all fun t=>P.readableRec t && decide (t < P.types.size))=true) (hres : f.resultTypes=#[tb]) (htb : P.underlying tb=some .bool)
 (hvars : s.vars=[]) (hs : (s.fn H ds).results=[.lit (.bool true)]∧(s.fn H ds).args=ds∧(s.fn H ds).vars=[])
 (hW : DataW.Whole enc P f.params.toList s.vars apart W args.toList ds gs before) (hb : Below W.heap.size W W') :
 ∃ v,Ending.returned (.bool true)=.returned v∧s.post enc P f apart fresh handsOn again W args v W':=by
 have hW':=hW
 obtain ⟨p,q,hA,hV,rfl,hz,hn⟩:=hW
 rw [hvars] at hV
 obtain ⟨rfl,rfl⟩:=trodVars_none hV
 refine ⟨_,rfl,post_of_below (pa:=p) (pv:=[]) hW' ?_ ?_ ?_ rfl hb ?_⟩
 · intro b sp hd
   rw [List.append_nil,hs.1,hres]
   exact trodAll_cons_mk (shut_bool htb true) trodAll_mk0
 · intro sp hsp
   rw [List.append_nil,hs.2.1]
   refine trodAll_below hl hb sp _ _ _ _ (fun t ht=>?_) hA (fun x hx=>hW'.lt x (by simp [hx])) (fun x hx=>hsp x (by simp [hx]))
   have:=List.all_eq_true.1 hread t ht
   simpa using this
 · intro sp _
   rw [List.append_nil,hs.2.2,hvars]
   rfl
 · exact ok_one hres rfl (okWide_bool_mk htb true)
end
theorem own : ownKnob Tryz.prog.godebug=none:=by kernel_rfl
theorem laidOut : laidOutB Tryz.prog=true:=by kernel_rfl
end Go.Proofs.YtmpkejflgpodkaaGreatDoor
namespace Go.Proofs.YtmpkejflgpodkaaGreatDoor
open Go.RowKit
/-! what stays -/
def Keeps (D : Nat→Prop) (w w' : World) : Prop:=∀ k,D k→w'.heap[k]?=w.heap[k]?
theorem Keeps.refl {D : Nat→Prop} {w : World} : Keeps D w w:=fun _ _=>rfl
theorem Keeps.trans {D : Nat→Prop} {a b c : World} (h : Keeps D a b) (k : Keeps D b c) : Keeps D a c:=fun i hi=>(k i hi).trans (h i hi)
theorem Keeps.mono {D D' : Nat→Prop} {w w' : World} (h : Keeps D w w') (hd : ∀ k,D' k→D k) : Keeps D' w w':=fun i hi=>h i (hd i hi)
theorem Keeps.drew {D : Nat→Prop} {a w : World} (h : Keeps D a w) : Keeps D a w.drew:=h
theorem Keeps.drewN {D : Nat→Prop} {a w : World} (h : Keeps D a w) (n : Nat) : Keeps D a (w.drewN n):=h
theorem Keeps.cell {D : Nat→Prop} {w w' : World} (h : Keeps D w w') {p : Addr} (hp : D p.block) : w'.cell? p=w.cell? p:=World.cell?_of_block (w:=w) (h p.block hp)
theorem Keeps.frozen {D : Nat→Prop} {w w' : World} (h : Keeps D w w') {p : Addr} (hp : D p.block) : w'.frozen? p=w.frozen? p:=World.frozen?_of_block (w:=w) (h p.block hp)
theorem Keeps.alloc {D : Nat→Prop} {a w : World} (h : Keeps D a w) (hD : ∀ k,D k→k < w.heap.size) (o : Obj) : Keeps D a (w.alloc o):=fun k hk=>(Below.heap_alloc w o k (hD k hk)).trans (h k hk)
structure Chg (M : Nat→Prop) (w w' : World) : Prop where
 os : w'.os=w.os
 tape : w'.tape=w.tape
 output : w'.output=w.output
 size : w.heap.size≤w'.heap.size
 block : ∀ k,k < w.heap.size→¬ M k→w'.heap[k]?=w.heap[k]?
theorem Chg.refl {M : Nat→Prop} (w : World) : Chg M w w:=⟨rfl,rfl,rfl,Nat.le_refl _,fun _ _ _=>rfl⟩
theorem Chg.trans {M M' : Nat→Prop} {a b c : World} (h : Chg M a b) (k : Chg M' b c) (hm : ∀ i,i < a.heap.size→M' i→M i) : Chg M a c :=
 ⟨k.os.trans h.os,k.tape.trans h.tape,k.output.trans h.output,Nat.le_trans h.size k.size,fun i hi hn=>(k.block i (Nat.lt_of_lt_of_le hi h.size) (fun e=>hn (hm i hi e))).trans (h.block i hi hn)⟩
theorem Chg.mono {M M' : Nat→Prop} {a b : World} (h : Chg M a b) (hm : ∀ i,i < a.heap.size→M i→M' i) : Chg M' a b :=
 ⟨h.os,h.tape,h.output,h.size,fun i hi hn=>h.block i hi (fun e=>hn (hm i hi e))⟩
theorem Chg.drew {M : Nat→Prop} {a w : World} (h : Chg M a w) : Chg M a w.drew:=⟨h.os,h.tape,h.output,h.size,h.block⟩
theorem Chg.alloc {M : Nat→Prop} {a w : World} (h : Chg M a w) (o : Obj) : Chg M a (w.alloc o) :=
 ⟨h.os,h.tape,h.output,Nat.le_trans h.size (by simp),fun i hi hn=>(Below.heap_alloc w o i (Nat.lt_of_lt_of_le hi h.size)).trans (h.block i hi hn)⟩
theorem Chg.setCell {M : Nat→Prop} {a w : World} (h : Chg M a w) {p : Addr} (hp : M p.block∨a.heap.size≤p.block) (u : Value) : Chg M a (w.setCell p u) :=
 ⟨h.os,h.tape,h.output,by simpa [World.setCell] using h.size,fun i hi hn=>(Below.heap_setCell w p u i (by
  rintro rfl
  rcases hp with hp | hp
  · exact hn hp
  · omega)).trans (h.block i hi hn)⟩
theorem Chg.grown {M : Nat→Prop} {a w w' : World} {row : Option Nat} (h : Chg M a w) (hg : w.grownBy w' row) (hr : ∀ g,row=some g→M g∨a.heap.size≤g) : Chg M a w' :=
 ⟨hg.os.trans h.os,hg.tape.trans h.tape,hg.output.trans h.output,Nat.le_trans h.size hg.size,fun i hi hn=>(hg.block i (Nat.lt_of_lt_of_le hi h.size) (fun e=>by
  rcases hr i e.symm with h1 | h1
  · exact hn h1
  · omega)).trans (h.block i hi hn)⟩
theorem Chg.of_below {w w' : World} (h : Below w.heap.size w w') {M : Nat→Prop} : Chg M w w':=⟨h.os,h.tape,h.output,h.size,fun k hk _=>h.block k hk⟩
theorem Chg.below {w w' : World} {M : Nat→Prop} (h : Chg M w w') {B : Nat} (hB : B≤w.heap.size) (hM : ∀ k,M k→B≤k) : Below B w w' :=
 ⟨h.os,h.tape,h.output,h.size,fun k hk=>h.block k (by omega) (fun e=>by have:=hM k e;omega)⟩
theorem Chg.keeps {M D : Nat→Prop} {w w' : World} (h : Chg M w w') (hd : ∀ k,D k→k < w.heap.size∧¬ M k) : Keeps D w w':=fun k hk=>h.block k (hd k hk).1 (hd k hk).2
theorem Below.keeps {B : Nat} {w w' : World} (h : Below B w w') : Keeps (· < B) w w':=fun k hk=>h.block k hk
theorem block_of_add (a : Addr) (n : Nat) : (a.add n).block=a.block:=by unfold Addr.add;split <;> rfl
theorem add_of_add (a : Addr) (i j : Nat) : (a.add i).add j=a.add (i+j):=by
 unfold Addr.add
 by_cases hi : i=0 <;> by_cases hj : j=0 <;> simp [hi,hj,Nat.add_assoc]
/-! a slice '.slice A n c' that reads as the cells xs ('size' cells an element), in blocks of D -/
def Reads (D : Nat→Prop) (w : World) (size : Nat) (A : Option Addr) (n : Nat) (xs : List Value) : Prop :=
 xs.length=n*size∧(0 < n→∃ ad,A=some ad∧D ad.block∧∀ j u,xs[j]?=some u→w.cell? (ad.add j)=some u)
section
variable {D D' : Nat→Prop} {w w' : World} {size n : Nat} {A : Option Addr} {xs : List Value}
theorem Reads.none_ {A : Option Addr} : Reads D w size A 0 []:=⟨by simp,fun h=>absurd h (by omega)⟩
theorem Reads.keep (h : Reads D w size A n xs) (hk : Keeps D w w') : Reads D w' size A n xs :=
 ⟨h.1,fun hn=>by
  obtain ⟨ad,e,hb,hc⟩:=h.2 hn
  exact ⟨ad,e,hb,fun j u hu=>(hk.cell (by rw [block_of_add];exact hb)).trans (hc j u hu)⟩⟩
theorem Reads.more (h : Reads D w size A n xs) (hD : ∀ k,D k→D' k) : Reads D' w size A n xs :=
 ⟨h.1,fun hn=>by
  obtain ⟨ad,e,hb,hc⟩:=h.2 hn
  exact ⟨ad,e,hD _ hb,hc⟩⟩
theorem Reads.cut (h : Reads D w size A n xs) {k cap : Nat} (hk : k≤n) (hc : n≤cap) :
 Reads D w size (if cap=k then A else A.map (·.add (k*size))) (n - k) (xs.drop (k*size)):=by
 refine ⟨by rw [List.length_drop,h.1,Nat.sub_mul],fun hn=>?_⟩
 obtain ⟨ad,rfl,hb,hcell⟩:=h.2 (by omega)
 rw [if_neg (by omega)]
 refine ⟨ad.add (k*size),rfl,by rw [block_of_add];exact hb,fun j u hu=>?_⟩
 rw [add_of_add]
 exact hcell _ u (by rw [← hu,List.getElem?_drop])
theorem Reads.take (h : Reads D w size A n xs) {k : Nat} (hk : k≤n) : Reads D w size A k (xs.take (k*size)):=by
 refine ⟨by rw [List.length_take,h.1];exact Nat.min_eq_left (Nat.mul_le_mul_right _ hk),fun hn=>?_⟩
 obtain ⟨ad,rfl,hb,hcell⟩:=h.2 (by omega)
 refine ⟨ad,rfl,hb,fun j u hu=>hcell j u ?_⟩
 rw [List.getElem?_take] at hu
 split at hu
 · exact hu
 · cases hu
theorem Reads.at_ (h : Reads D w size A n xs) (hn : 0 < n) (hs : 0 < size) : ∃ b off,A=some ⟨b,off,none⟩∧D b∧∀ j u,xs[j]?=some u→w.cell? ⟨b,off+j,none⟩=some u:=by
 obtain ⟨ad,rfl,hb,hc⟩:=h.2 hn
 have hx : 0 < xs.length:=by rw [h.1];exact Nat.mul_pos hn hs
 have h0:=hc 0 _ (List.getElem?_eq_getElem hx)
 have hsp : ad.spot=none:=by simpa [Addr.add] using World.cell?_spot h0
 obtain ⟨b,off,sp⟩:=ad
 simp only at hsp
 subst hsp
 refine ⟨b,off,rfl,hb,fun j u hu=>?_⟩
 have:=hc j u hu
 unfold Addr.add at this
 split at this
 · rename_i e;rw [e];exact this
 · exact this
theorem Reads.of_own {base : Nat} {e : TypeId} {v : Value} (h : w.ownsRow base e size v n xs) : ∃ A c,v=.slice A n c∧n≤c∧c≤maxLen∧Reads (fun k=>v.ownBlock=some k) w size A n xs:=by
 rcases h.2 with ⟨rfl,h0⟩ | ⟨g,cap,cur,rfl,hbg,hg,hnc,hcm,hcs,ht⟩
 · subst h0
   exact ⟨none,0,rfl,Nat.le_refl _,by simp [maxLen],h.1,fun hn=>absurd hn (by omega)⟩
 · exact ⟨_,cap,rfl,hnc,hcm,h.1,fun _=>⟨_,rfl,by simp [Value.ownBlock],h.cells (g:=g) rfl⟩⟩
end
/-! a block that is known whole -/
def Blk (w : World) (g : Nat) (t : TypeId) (cs : Array Value) : Prop:=w.heap[g]?=some (.cells cs t (0,0))
section
variable {w w' : World} {g : Nat} {t : TypeId} {cs : Array Value}
theorem Blk.lt (h : Blk w g t cs) : g < w.heap.size:=by
 rcases Nat.lt_or_ge g w.heap.size with hlt | hge
 · exact hlt
 · unfold Blk at h;rw [Array.getElem?_eq_none hge] at h;cases h
theorem Blk.cell (h : Blk w g t cs) (i : Nat) : w.cell? ⟨g,i,none⟩=cs[i]?:=cell_of_row w g i cs t (0,0) h
theorem Blk.frozen (h : Blk w g t cs) (i : Nat) : w.frozen? ⟨g,i,none⟩=false:=by
 unfold Blk at h
 simp [World.frozen?,h]
theorem Blk.new (w : World) (t : TypeId) (cs : Array Value) : Blk (w.alloc (.cells cs t)) w.heap.size t cs:=heap_alloc_new w _
theorem Blk.keep (h : Blk w g t cs) (hk : w'.heap[g]?=w.heap[g]?) : Blk w' g t cs:=hk.trans h
theorem Blk.drew (h : Blk w g t cs) : Blk w.drew g t cs:=h
theorem Blk.alloc (h : Blk w g t cs) (o : Obj) : Blk (w.alloc o) g t cs:=(Below.heap_alloc w o g h.lt).trans h
theorem Blk.set_ (h : Blk w g t cs) (i : Nat) (u : Value) : Blk (w.setCell ⟨g,i,none⟩ u) g t (cs.setIfInBounds i u):=by
 unfold Blk at h ⊢
 simp [World.setCell,Array.getElem?_modify,h]
theorem Blk.far (h : Blk w g t cs) {p : Addr} (hp : g≠p.block) (u : Value) : Blk (w.setCell p u) g t cs:=(Below.heap_setCell w p u g hp).trans h
theorem Blk.ne_ {g' : Nat} {t' : TypeId} {cs' : Array Value} (h : Blk w g t cs) (h' : Blk w g' t' cs') (hne : t≠t') : g≠g':=by
 rintro rfl
 unfold Blk at h h'
 rw [h] at h'
 injection h' with h'
 injection h' with _ ht
 exact hne ht
theorem own_blk_ne {base : Nat} {e : TypeId} {size n : Nat} {v : Value} {xs : List Value} (h : w.ownsRow base e size v n xs) (hg : Blk w g t cs) (hne : e≠t) : v.ownBlock≠some g:=by
 rcases h.2 with ⟨rfl,_⟩ | ⟨g',cap,cur,rfl,_,hh,_⟩
 · simp [Value.ownBlock]
 · intro he
   have : g'=g:=by simpa [Value.ownBlock] using he
   subst this
   exact Blk.ne_ (t:=e) hh hg hne rfl
end
theorem own_lt {w : World} {base : Nat} {e : TypeId} {size n : Nat} {v : Value} {xs : List Value} (h : w.ownsRow base e size v n xs) {g : Nat} (hg : v.ownBlock=some g) : base≤g∧g < w.heap.size:=by
 rcases h.2 with ⟨rfl,_⟩ | ⟨g',cap,cur,rfl,hb,hh,_⟩
 · simp [Value.ownBlock] at hg
 · have : g'=g:=by simpa [Value.ownBlock] using hg
   subst this
   exact ⟨hb,by
    rcases Nat.lt_or_ge g' w.heap.size with h' | h'
    · exact h'
    · simp [Array.getElem?_eq_none h'] at hh⟩
theorem own_keep {w w' : World} {base : Nat} {e : TypeId} {size n : Nat} {v : Value} {xs : List Value} (h : w.ownsRow base e size v n xs) (hk : ∀ g,v.ownBlock=some g→w'.heap[g]?=w.heap[g]?) : w'.ownsRow base e size v n xs:=by
 obtain ⟨h1,h2⟩:=h
 refine ⟨h1,?_⟩
 rcases h2 with h2 | ⟨g,cap,cur,hv,hg,hh,r⟩
 · exact Or.inl h2
 · exact Or.inr ⟨g,cap,cur,hv,hg,by rw [hk g (by rw [hv];rfl)];exact hh,r⟩
theorem own_base {w : World} {base base' : Nat} {e : TypeId} {size n : Nat} {v : Value} {xs : List Value} (h : w.ownsRow base e size v n xs) (hb : ∀ g,v.ownBlock=some g→base'≤g) : w.ownsRow base' e size v n xs:=by
 obtain ⟨h1,h2⟩:=h
 refine ⟨h1,?_⟩
 rcases h2 with h2 | ⟨g,cap,cur,hv,hg,hh,r⟩
 · exact Or.inl h2
 · exact Or.inr ⟨g,cap,cur,hv,hb g (by rw [hv];rfl),hh,r⟩
/-! append onto a slice of the call's own, the source nil, empty or not -/
section
variable {P : Program} (w : World)
theorem run_append_of_nil (base : Nat) (t ty e : TypeId) (i : TypeInfo) (size : Nat) (ht : P.underlying t=some (.slice e)) (hi : P.info? e=some i)
 (v : Value) (n : Nat) (xs : List Value) (hown : w.ownsRow base e size v n xs) (c : Nat) : (Builtin.append_ #[t,t] ty #[v,.slice none 0 c]).run P w=.ok v w:=by
 rcases hown.2 with ⟨rfl,rfl⟩ | ⟨g,cap,cur,rfl,_,_,hnc,_⟩
 · simp [Builtin.append_,run_underlying ht,sizeOf,typeInfo,hi,Builtin.lenOf,Builtin.firstCells]
 · simp [Builtin.append_,run_underlying ht,sizeOf,typeInfo,hi,Builtin.lenOf,Builtin.firstCells,hnc,storeCells]
theorem run_append_any (base : Nat) (t ty e : TypeId) (i : TypeInfo) (z : Value) (size bytes : Nat) (ht : P.underlying t=some (.slice e)) (hi : P.info? e=some i) (hz : i.zero=some z)
 (hsize : i.size=size) (hby : i.bytes=bytes) (hzs : z.cells.size=size) (hsz : 0 < size)
 (v : Value) (n : Nat) (xs : List Value) (hown : w.ownsRow base e size v n xs)
 (D : Nat→Prop) (A : Option Addr) (m c : Nat) (news : List Value) (hr : Reads D w size A m news) (h1 : ∀ u∈news,u.oneCell'=true)
 (h63 : n+m≤maxLen) (hbytes : (n+m)*bytes≤140737488355328) (hbase : base≤w.heap.size) :
 ∃ v' w',(Builtin.append_ #[t,t] ty #[v,.slice A m c]).run P w=.ok v' w'∧w'.ownsRow base e size v' (n+m) (xs++news)∧w.grownBy w' v.ownBlock ∧
  (v'.ownBlock=v.ownBlock∨v'.ownBlock=some w.heap.size):=by
 rcases A with _ | ad
 · have hm : m=0:=by
    rcases Nat.eq_zero_or_pos m with h0 | h0
    · exact h0
    · obtain ⟨ad,h,_⟩:=hr.2 h0
      cases h
   subst hm
   have hn : news=[]:=List.eq_nil_of_length_eq_zero (by simpa using hr.1)
   subst hn
   exact ⟨v,w,run_append_of_nil w base t ty e i size ht hi v n xs hown c,by simpa using hown,World.grownBy.refl w _,.inl rfl⟩
 · have hcells : ∀ j u,news[j]?=some u→w.cell? (ad.add j)=some u:=by
    intro j u hu
    rcases Nat.eq_zero_or_pos m with h0 | h0
    · subst h0
      have hn : news=[]:=List.eq_nil_of_length_eq_zero (by simpa using hr.1)
      subst hn
      simp at hu
    · obtain ⟨ad',h,_,hc⟩:=hr.2 h0
      injection h with h
      subst h
      exact hc j u hu
   obtain ⟨v',w',hrun,h2,h3,_,h5⟩:=run_append_own_at (P:=P) w base t ty e i z size bytes ht hi hz hsize hby hzs hsz v n xs hown ad m c news hr.1 hcells h1 h63 hbytes hbase
   exact ⟨v',w',hrun,h2,h3,h5⟩
theorem wp_append_any {o : Oper} {a : Act} {K : Act→World→Prop} {Q : Exit→Act→World→Prop} (s x : Operand) (t : TypeId)
 (ho : o.op=.call { callee:=.builtin .append,args:=#[s,x],argTypes:=#[t,t] })
 (base : Nat) (e : TypeId) (i : TypeInfo) (z : Value) (size bytes : Nat) (ht : P.underlying t=some (.slice e)) (hi : P.info? e=some i) (hz : i.zero=some z)
 (hsize : i.size=size) (hby : i.bytes=bytes) (hzs : z.cells.size=size) (hsz : 0 < size)
 (v : Value) (n : Nat) (xs : List Value) (hs : a.eval s=v) (hown : w.ownsRow base e size v n xs)
 (D : Nat→Prop) (A : Option Addr) (m c : Nat) (news : List Value) (hx : a.eval x=.slice A m c) (hr : Reads D w size A m news) (h1 : ∀ u∈news,u.oneCell'=true)
 (h63 : n+m≤maxLen) (hbytes : (n+m)*bytes≤140737488355328) (hbase : base≤w.heap.size)
 (h : ∀ v' w',w'.ownsRow base e size v' (n+m) (xs++news)→w.grownBy w' v.ownBlock→(v'.ownBlock=v.ownBlock∨v'.ownBlock=some w.heap.size)→K (a.put o.dst v') w') : o.wp P a w K Q:=by
 obtain ⟨v',w',hrun,h2,h3,h4⟩:=run_append_any (P:=P) w base t o.type e i z size bytes ht hi hz hsize hby hzs hsz v n xs hown D A m c news hr h1 h63 hbytes hbase
 unfold Oper.wp execOp
 simp only [ho,resolve,invoke,builtin,Sem.run_bind,Sem.run_pure,Result.andThen_ok,List.map_toArray,List.map_cons,List.map_nil,hs,hx,hrun]
 exact h v' w' h2 h3 h4
theorem wpList_append_any {ops : Array Oper} {rest : List Oper} {o : Oper} {a : Act} {Q : Exit→Act→World→Prop} (hgd : o.guard=none) (s x : Operand) (t : TypeId)
 (ho : o.op=.call { callee:=.builtin .append,args:=#[s,x],argTypes:=#[t,t] })
 (base : Nat) (e : TypeId) (i : TypeInfo) (z : Value) (size bytes : Nat) (ht : P.underlying t=some (.slice e)) (hi : P.info? e=some i) (hz : i.zero=some z)
 (hsize : i.size=size) (hby : i.bytes=bytes) (hzs : z.cells.size=size) (hsz : 0 < size)
 (v : Value) (n : Nat) (xs : List Value) (hs : a.eval s=v) (hown : w.ownsRow base e size v n xs)
 (D : Nat→Prop) (A : Option Addr) (m c : Nat) (news : List Value) (hx : a.eval x=.slice A m c) (hr : Reads D w size A m news) (h1 : ∀ u∈news,u.oneCell'=true)
 (h63 : n+m≤maxLen) (hbytes : (n+m)*bytes≤140737488355328) (hbase : base≤w.heap.size)
 (h : ∀ v' w',w'.ownsRow base e size v' (n+m) (xs++news)→w.grownBy w' v.ownBlock→(v'.ownBlock=v.ownBlock∨v'.ownBlock=some w.heap.size)→wpList P ops Q rest (a.put o.dst v') w') : wpList P ops Q (o::rest) a w :=
 wpList_plain hgd fun _ hK=>wp_append_any w s x t ho base e i z size bytes ht hi hz hsize hby hzs hsz v n xs hs hown D A m c news hx hr h1 h63 hbytes hbase fun v' w' h2 h3 h4=>hK _ _ (h v' w' h2 h3 h4)
theorem step_append_any {ops : Array Oper} {o : Oper} {a : Act} {K : Act→World→Prop} {Q : Exit→Act→World→Prop} {E : Prop} (hgd : o.guard=none) (s x : Operand) (t : TypeId)
 (ho : o.op=.call { callee:=.builtin .append,args:=#[s,x],argTypes:=#[t,t] })
 (base : Nat) (e : TypeId) (i : TypeInfo) (z : Value) (size bytes : Nat) (ht : P.underlying t=some (.slice e)) (hi : P.info? e=some i) (hz : i.zero=some z)
 (hsize : i.size=size) (hby : i.bytes=bytes) (hzs : z.cells.size=size) (hsz : 0 < size)
 (v : Value) (n : Nat) (xs : List Value) (hs : a.eval s=v) (hown : w.ownsRow base e size v n xs)
 (D : Nat→Prop) (A : Option Addr) (m c : Nat) (news : List Value) (hx : a.eval x=.slice A m c) (hr : Reads D w size A m news) (h1 : ∀ u∈news,u.oneCell'=true)
 (h63 : n+m≤maxLen) (hbytes : (n+m)*bytes≤140737488355328) (hbase : base≤w.heap.size)
 (h : ∀ v' w',w'.ownsRow base e size v' (n+m) (xs++news)→w.grownBy w' v.ownBlock→(v'.ownBlock=v.ownBlock∨v'.ownBlock=some w.heap.size)→K (a.put o.dst v') w') :
 if Region.wanted o (yielded ops a.tmps)=true then Oper.wp P o a w K Q else E:=by
 have hw : Region.wanted o (yielded ops a.tmps)=true:=by simp [Region.wanted,hgd]
 rw [if_pos hw]
 exact wp_append_any w s x t ho base e i z size bytes ht hi hz hsize hby hzs hsz v n xs hs hown D A m c news hx hr h1 h63 hbytes hbase h
end
theorem wpList_append_one {P : Program} {w : World} (t e : TypeId) (z : Value) (size bytes : Nat) (ht : P.underlying t=some (.slice e)) (info : (P.info? e).map (fun i=>(i.zero,i.size,i.bytes))=some (some z,size,bytes))
 (hzs : z.cells.size=size) (hsz : 0 < size) {ops : Array Oper} {rest : List Oper} {o : Oper} {a : Act} {Q : Exit→Act→World→Prop} (hgd : o.guard=none) (s x : Operand)
 (ho : o.op=.call { callee:=.builtin .append,args:=#[s,x],argTypes:=#[t,t] })
 (base : Nat) (v : Value) (n : Nat) (xs : List Value) (hs : a.eval s=v) (hown : w.ownsRow base e size v n xs)
 (g c : Nat) (news : List Value) (hx : a.eval x=.slice (some ⟨g,0,none⟩) 1 c) (hl : news.length=size) (hnews : ∀ j u,news[j]?=some u→w.cell? ⟨g,j,none⟩=some u) (h1 : ∀ u∈news,u.oneCell'=true)
 (hn : (n+1)*bytes≤140737488355328) (hn2 : n+1≤4611686018427387904) (hbase : base≤w.heap.size)
 (h : ∀ v' w',w'.ownsRow base e size v' (n+1) (xs++news)→w.grownBy w' v.ownBlock→(v'.ownBlock=v.ownBlock∨v'.ownBlock=some w.heap.size)→wpList P ops Q rest (a.put o.dst v') w') : wpList P ops Q (o::rest) a w:=by
 obtain ⟨i0,hi,hz0,hz1,hz2⟩:=info_parts info
 refine wpList_append_any w hgd s x t ho base e i0 z size bytes ht hi hz0 hz1 hz2 hzs hsz v n xs hs hown (fun k=>k=g) (some ⟨g,0,none⟩) 1 c news hx ⟨by omega,fun _=>⟨_,rfl,rfl,fun j u hu=>?_⟩⟩ h1 (by simp only [maxLen];omega) hn hbase h
 have e : (⟨g,0,none⟩ : Addr).add j=⟨g,j,none⟩:=by
  unfold Addr.add
  split
  · rename_i h0;rw [h0]
  · simp
 rw [e]
 exact hnews j u hu
theorem own_nil (w : World) (base : Nat) (e : TypeId) (size : Nat) : w.ownsRow base e size (.slice none 0 0) 0 []:=⟨by simp,.inl ⟨rfl,rfl⟩⟩
structure Evo (w : World) (o : Option Nat) (w' : World) (o' : Option Nat) : Prop where
 os : w'.os=w.os
 tape : w'.tape=w.tape
 output : w'.output=w.output
 size : w.heap.size≤w'.heap.size
 block : ∀ k,k < w.heap.size→o≠some k→w'.heap[k]?=w.heap[k]?
 lies : o'=o∨∃ g,o'=some g∧w.heap.size≤g
theorem Evo.refl (w : World) (o : Option Nat) : Evo w o w o:=⟨rfl,rfl,rfl,Nat.le_refl _,fun _ _ _=>rfl,.inl rfl⟩
theorem Evo.trans {a b c : World} {o o' o'' : Option Nat} (h : Evo a o b o') (k : Evo b o' c o'') : Evo a o c o'':=by
 refine ⟨k.os.trans h.os,k.tape.trans h.tape,k.output.trans h.output,Nat.le_trans h.size k.size,fun i hi hn=>?_,?_⟩
 · refine (k.block i (Nat.lt_of_lt_of_le hi h.size) ?_).trans (h.block i hi hn)
   rcases h.lies with e | ⟨g,e,hg⟩
   · rw [e];exact hn
   · rw [e];intro e2;injection e2 with e2;omega
 · rcases k.lies with e | ⟨g,e,hg⟩
   · rw [e];exact h.lies
   · exact .inr ⟨g,e,Nat.le_trans h.size hg⟩
theorem Evo.of_below {w w' : World} {o : Option Nat} (h : Below w.heap.size w w') : Evo w o w' o:=⟨h.os,h.tape,h.output,h.size,fun k hk _=>h.block k hk,.inl rfl⟩
theorem Evo.of_append {w w' : World} {o o' : Option Nat} (h : w.grownBy w' o) (ho : o'=o∨o'=some w.heap.size) : Evo w o w' o' :=
 ⟨h.os,h.tape,h.output,h.size,fun k hk hn=>h.block k hk (fun e=>hn e.symm),ho.imp id fun e=>⟨_,e,Nat.le_refl _⟩⟩
theorem Evo.alloc {a w : World} {o o' : Option Nat} (h : Evo a o w o') (ob : Obj) : Evo a o (w.alloc ob) o' :=
 ⟨h.os,h.tape,h.output,Nat.le_trans h.size (by simp),fun k hk hn=>(Below.heap_alloc w ob k (Nat.lt_of_lt_of_le hk h.size)).trans (h.block k hk hn),h.lies⟩
theorem Evo.drew {a w : World} {o o' : Option Nat} (h : Evo a o w o') : Evo a o w.drew o':=⟨h.os,h.tape,h.output,h.size,h.block,h.lies⟩
theorem Evo.below {w w' : World} {o o' : Option Nat} (h : Evo w o w' o') {B : Nat} (hB : B≤w.heap.size) (ho : ∀ g,o=some g→B≤g) : Below B w w' :=
 ⟨h.os,h.tape,h.output,h.size,fun k hk=>h.block k (by omega) (fun e=>by have:=ho k e;omega)⟩
theorem Evo.keeps {w w' : World} {o o' : Option Nat} {D : Nat→Prop} (h : Evo w o w' o') (hD : ∀ k,D k→k < w.heap.size∧o≠some k) : Keeps D w w':=fun k hk=>h.block k (hD k hk).1 (hD k hk).2
theorem Evo.cell {w w' : World} {o o' : Option Nat} (h : Evo w o w' o') {p : Addr} (h1 : p.block < w.heap.size) (h2 : o≠some p.block) : w'.cell? p=w.cell? p:=World.cell?_of_block (w:=w) (h.block p.block h1 h2)
theorem Evo.least {w w' : World} {o o' : Option Nat} (h : Evo w o w' o') {B : Nat} (hB : B≤w.heap.size) (ho : ∀ g,o=some g→B≤g) : ∀ g,o'=some g→B≤g:=by
 intro g hg
 rcases h.lies with e | ⟨g',e,hg'⟩
 · exact ho g (by rw [← e];exact hg)
 · rw [e] at hg;injection hg with hg;omega
theorem own_below {w w' : World} {base : Nat} {e : TypeId} {size n : Nat} {v : Value} {xs : List Value} (h : w.ownsRow base e size v n xs) (hb : Below w.heap.size w w') : w'.ownsRow base e size v n xs :=
 own_keep h fun g hg=>hb.block g (own_lt h hg).2
theorem new_cells (w : World) (t : TypeId) (cs : List Value) {j : Nat} {u : Value} (h : cs[j]?=some u) : (w.alloc (.cells cs.toArray t)).cell? ⟨w.heap.size,j,none⟩=some u:=by
 rw [(Blk.new w t cs.toArray).cell j]
 rw [List.getElem?_toArray]
 exact h
theorem Blk.grown {w w' : World} {g : Nat} {t : TypeId} {cs : Array Value} {row : Option Nat} (h : Blk w g t cs) (hb : w.grownBy w' row) (hg : row≠some g) : Blk w' g t cs:=(hb.block g h.lt (fun e=>hg e.symm)).trans h
theorem below_drewN {B : Nat} {a w : World} (h : Below B a w) (n : Nat) : Below B a (w.drewN n):=⟨h.os,h.tape,h.output,h.size,h.block⟩
end Go.Proofs.YtmpkejflgpodkaaGreatDoor
namespace Go.Proofs.YtmpkejflgpodkaaGreatDoor
open Go.ChangeMaps (setBlock modify_eq_set set_perm map_eraseIdx heap_setBlock_same heap_setBlock_other)
open Go.MapKept Go.WideShapes Go.RowKit
open Go.WideElems (Fit rd rg pl rd_key rd_val rg_of rd_mk other_key)
open Go.Maps (Keyed)
def heldR (v : Value) : Option (DataW Value × List MemPlace):=some (.held v,[])
def ents (es : Array MapEntry) : List (Value × Value):=es.toList.map fun e=>(e.key,e.val)
def MapL (w : World) (k : TypeId) (b : Nat) (l : List (Value × Value)) : Prop :=
 ∃ es clock,w.heap[b]?=some (.map es clock)∧Fit Tryz.prog k heldR es clock∧(ents es).Perm l
section
variable {w : World} {k e t : TypeId} {b : Nat} {l : List (Value × Value)}
theorem rd_held {P : Program} {x : MapEntry} {kl : Lit} (h : keyOf P k x.key=some kl) : rd P k heldR x=some (kl,.held x.val):=by
 unfold rd
 rw [h]
 rfl
theorem pick_perm {α : Type} (l : List α) (j : Nat) (x : α) (h : l[j]?=some x) : l.Perm (x::l.eraseIdx j):=by
 obtain ⟨h1,h2⟩:=List.getElem?_eq_some_iff.1 h
 have:=set_perm l j h1 x
 rw [← h2,List.set_getElem_self,h2] at this
 exact this
theorem MapL.perm {l' : List (Value × Value)} (h : MapL w k b l) (hp : l.Perm l') : MapL w k b l':=by
 obtain ⟨es,c,hb,F,h⟩:=h
 exact ⟨es,c,hb,F,h.trans hp⟩
theorem MapL.lt (h : MapL w k b l) : b < w.heap.size:=by
 obtain ⟨es,c,hb,_⟩:=h
 exact (Array.getElem?_eq_some_iff.1 hb).1
theorem MapL.made (w : World) (k : TypeId) : MapL (w.alloc (.map #[] 0)) k w.heap.size [] :=
 ⟨#[],0,(MapKept.heap_alloc w _).1,⟨by simp,stamped_empty 0,by simp⟩,List.Perm.refl _⟩
theorem MapL.keep {w' : World} (h : MapL w k b l) (hk : w'.heap[b]?=w.heap[b]?) : MapL w' k b l:=by
 obtain ⟨es,c,hb,F,h⟩:=h
 exact ⟨es,c,hk.trans hb,F,h⟩
theorem MapL.no_cells (h : MapL w k b l) : ∀ cs t,w.heap[b]?≠some (.cells cs t):=by
 obtain ⟨es,c,hb,_⟩:=h
 intro cs t e
 rw [hb] at e;cases e
theorem MapL.keys (h : MapL w k b l) : ∀ p∈l,∃ kl,keyOf Tryz.prog k p.1=some kl:=by
 obtain ⟨es,c,hb,F,h⟩:=h
 intro p hp
 obtain ⟨x,hx,rfl⟩:=List.mem_map.1 (h.mem_iff.2 hp)
 obtain ⟨y,hy⟩:=F.reads x hx
 exact ⟨_,rd_key hy⟩
theorem ents_apart {es : Array MapEntry} {c : Nat} (F : Fit Tryz.prog k heldR es c) : (ents es).Pairwise (fun p q=>p.1≠q.1):=by
 unfold ents
 rw [List.pairwise_map]
 exact ((stamped_iff es c).1 F.stamped).2.2
theorem MapL.apart (h : MapL w k b l) : l.Pairwise (fun p q=>p.1≠q.1):=by
 obtain ⟨es,c,hb,F,h⟩:=h
 exact (h.pairwise_iff (fun {a b} (h : a.1≠b.1)=>h.symm)).1 (ents_apart F)
theorem MapL.one (h : MapL w k b l) {p q : Value × Value} (hp : p∈l) (hq : q∈l) (he : p.1=q.1) : p=q:=by
 have ha:=h.apart
 clear h
 induction l with
 | nil=>cases hp
 | cons x l ih =>
   obtain ⟨h1,h2⟩:=List.pairwise_cons.1 ha
   rcases List.mem_cons.1 hp with ep | hp
   · rcases List.mem_cons.1 hq with eq | hq
     · rw [ep,eq]
     · rw [ep] at he;exact absurd he (h1 q hq)
   · rcases List.mem_cons.1 hq with eq | hq
     · rw [eq] at he;exact absurd he.symm (h1 p hp)
     · exact ih hp hq h2
theorem MapL.hit (h : MapL w k b l) (K : Keyed Tryz.prog k) (ht : Tryz.prog.underlying t=some (.map k e)) {z : Value} (hz : (zeroValue e).run Tryz.prog w=.ok z w) {key v : Value} (hm : (key,v)∈l) (c : Bool) :
 (Instr.lookup t (.map (some b)) key c).run Tryz.prog w=.ok (if c then .tuple #[v,.bool true] else v) w:=by
 have h0:=h
 obtain ⟨es,cl,hb,F,hp⟩:=h
 obtain ⟨kl,hkl⟩:=h0.keys _ hm
 rcases Maps.fit_look c K ht hz hb F hkl with ⟨_,h2,_⟩ | ⟨e0,y,h1,h2,h3,_⟩
 · obtain ⟨x,hx,hx2⟩:=List.mem_map.1 (hp.mem_iff.2 hm)
   exact absurd (congrArg Prod.fst hx2) (h2 x hx)
 · have : (e0.key,e0.val)=(key,v):=h0.one (hp.mem_iff.1 (List.mem_map.2 ⟨e0,h1,rfl⟩)) hm h2
   rw [h3,show e0.val=v from congrArg Prod.snd this]
theorem MapL.miss (h : MapL w k b l) (K : Keyed Tryz.prog k) (ht : Tryz.prog.underlying t=some (.map k e)) {z : Value} (hz : (zeroValue e).run Tryz.prog w=.ok z w) {key : Value} {kl : Lit} (hkl : keyOf Tryz.prog k key=some kl) (hm : ∀ p∈l,p.1≠key) (c : Bool) :
 (Instr.lookup t (.map (some b)) key c).run Tryz.prog w=.ok (if c then .tuple #[z,.bool false] else z) w:=by
 obtain ⟨es,cl,hb,F,hp⟩:=h
 rcases Maps.fit_look c K ht hz hb F hkl with ⟨h1,h2,_⟩ | ⟨e0,y,h1,h2,_⟩
 · exact h1
 · exact absurd h2 (hm (e0.key,e0.val) (hp.mem_iff.1 (List.mem_map.2 ⟨e0,h1,rfl⟩)))
theorem MapL.len (h : MapL w k b l) (ht : Tryz.prog.underlying t=some (.map k e)) (ty : TypeId) : (Builtin.len_ #[t] ty #[.map (some b)]).run Tryz.prog w=.ok (.int .i64 l.length) w:=by
 obtain ⟨es,cl,hb,F,hp⟩:=h
 have : l.length=es.size:=by rw [← hp.length_eq];simp [ents]
 rw [this]
 simp [Builtin.len_,run_underlying ht,MapKept.run_getObj_map hb,goInt,Result.andThen]
theorem turned_of {es es' : Array MapEntry} {c c' : Nat} (hb : w.heap[b]?=some (.map es c)) : w.mapTurned (setBlock w b (.map es' c')) b:=⟨es,c,es',c',hb,rfl⟩
theorem MapL.store (h : MapL w k b l) (K : Keyed Tryz.prog k) (ht : Tryz.prog.underlying t=some (.map k e)) (hn : l.length < maxLen) {key v : Value} {kl : Lit} (hkl : keyOf Tryz.prog k key=some kl) (hm : ∀ p∈l,p.1≠key) :
 ∃ w',(Instr.mapUpdate t (.map (some b)) key v).run Tryz.prog w=.ok () w'∧MapL w' k b (l++[(key,v)])∧w.mapTurned w' b:=by
 obtain ⟨es,cl,hb,F,hp⟩:=h
 have hsz : es.size=l.length:=by rw [← hp.length_eq];simp [ents]
 rcases K.find w hkl es.toList F.keys with ⟨h1,h2⟩ | ⟨j,e0,h1,h2,h3⟩
 · refine ⟨setBlock w b (.map (es.push ⟨key,v,cl⟩) (cl+1)),?_,⟨es.push ⟨key,v,cl⟩,cl+1,heap_setBlock_same hb _,⟨by simp;omega,stamped_push F.stamped h2,?_⟩,?_⟩,turned_of hb⟩
   · simp [Instr.mapUpdate,run_underlying ht,MapKept.run_getObj_map hb,K.check w false hkl,h1,MapKept.run_setObj_map _ hb,Result.andThen,setBlock]
   · intro x hx
     simp only [Array.toList_push,List.mem_append,List.mem_singleton] at hx
     rcases hx with hx | rfl
     · exact F.reads x hx
     · exact ⟨_,rd_held hkl⟩
   · unfold ents at hp ⊢
     rw [Array.toList_push,List.map_append]
     exact hp.append_right _
 · exact absurd h3 (hm (e0.key,e0.val) (hp.mem_iff.1 (List.mem_map.2 ⟨e0,List.mem_of_getElem? h2,rfl⟩)))
theorem perm_tail {α β : Type} {l l' : List (α × β)} {p q : α × β} (hp : (p::l).Perm (q::l')) (he : p=q) : l.Perm l':=by
 subst he;exact hp.cons_inv
theorem MapL.over (h : MapL w k b l) (K : Keyed Tryz.prog k) (ht : Tryz.prog.underlying t=some (.map k e)) {key v v0 : Value} {l' : List (Value × Value)} (hm : l.Perm ((key,v0)::l')) :
 ∃ w',(Instr.mapUpdate t (.map (some b)) key v).run Tryz.prog w=.ok () w'∧MapL w' k b ((key,v)::l')∧w.mapTurned w' b:=by
 have h0:=h
 obtain ⟨kl,hkl⟩:=h.keys (key,v0) (hm.mem_iff.2 (by simp))
 obtain ⟨es,cl,hb,F,hp⟩:=h
 rcases K.find w hkl es.toList F.keys with ⟨h1,h2⟩ | ⟨j,e0,h1,h2,h3⟩
 · obtain ⟨x,hx,hx2⟩:=List.mem_map.1 ((hp.trans hm).mem_iff.2 (List.mem_cons_self ..))
   exact absurd (congrArg Prod.fst hx2) (h2 x hx)
 · have hj : es[j]?=some e0:=by simpa using h2
   have hjl : j < es.toList.length:=(List.getElem?_eq_some_iff.1 h2).1
   have hlist : (es.modify j (fun e'=>{ e' with key:=key,val:=v })).toList=es.toList.set j { e0 with key:=key,val:=v }:=by rw [Array.toList_modify,modify_eq_set _ _ _ _ h2]
   have hkeyf : ∀ e',es[j]?=some e'→({ e' with key:=key,val:=v } : MapEntry).key=e'.key:=fun e' he'=>by rw [hj] at he';cases he';exact h3.symm
   refine ⟨setBlock w b (.map (es.modify j (fun e'=>{ e' with key:=key,val:=v })) cl),?_,⟨es.modify j (fun e'=>{ e' with key:=key,val:=v }),cl,heap_setBlock_same hb _,⟨by simpa using F.size,stamped_modify F.stamped _ _ (fun _ _=>rfl) (fun e' _ he'=>hkeyf e' he'),?_⟩,?_⟩,turned_of hb⟩
   · simp [Instr.mapUpdate,run_underlying ht,MapKept.run_getObj_map hb,K.check w false hkl,h1,hj,h3,K.stays w hkl,MapKept.run_setObj_map _ hb,Result.andThen,setBlock]
   · intro x hx
     rw [hlist] at hx
     rcases List.mem_or_eq_of_mem_set hx with hx | rfl
     · exact F.reads x hx
     · exact ⟨_,rd_held (x:={ e0 with key:=key,val:=v }) hkl⟩
   · unfold ents at hp ⊢
     rw [hlist,List.map_set]
     have e1 : ((es.toList.map fun e=>(e.key,e.val)).set j (key,v)).Perm ((key,v)::(es.toList.map fun e=>(e.key,e.val)).eraseIdx j):=set_perm _ _ (by simpa using hjl) _
     refine e1.trans (List.Perm.cons _ ?_)
     have e2 : ((es.toList.map fun e=>(e.key,e.val))).Perm ((e0.key,e0.val)::(es.toList.map fun e=>(e.key,e.val)).eraseIdx j):=by
      have h5 : (es.toList.map fun e=>(e.key,e.val))[j]?=some (e0.key,e0.val):=by rw [List.getElem?_map,h2];rfl
      exact pick_perm _ _ _ h5
     have e3:=(e2.symm.trans hp).trans hm
     refine perm_tail e3 ?_
     exact h0.one (hp.mem_iff.1 (e2.mem_iff.2 (List.mem_cons_self ..))) (hm.mem_iff.2 (List.mem_cons_self ..)) h3
theorem MapL.drop (h : MapL w k b l) (K : Keyed Tryz.prog k) (ht : Tryz.prog.underlying t=some (.map k e)) {key v0 : Value} {l' : List (Value × Value)} (hm : l.Perm ((key,v0)::l')) (ty : TypeId) :
 ∃ w',(Builtin.delete_ #[t,k] ty #[.map (some b),key]).run Tryz.prog w=.ok (.tuple #[]) w'∧MapL w' k b l'∧w.mapTurned w' b:=by
 have h0:=h
 obtain ⟨kl,hkl⟩:=h.keys (key,v0) (hm.mem_iff.2 (by simp))
 obtain ⟨es,cl,hb,F,hp⟩:=h
 rcases K.find w hkl es.toList F.keys with ⟨h1,h2⟩ | ⟨j,e0,h1,h2,h3⟩
 · obtain ⟨x,hx,hx2⟩:=List.mem_map.1 ((hp.trans hm).mem_iff.2 (List.mem_cons_self ..))
   exact absurd (congrArg Prod.fst hx2) (h2 x hx)
 · have hjl : j < es.toList.length:=(List.getElem?_eq_some_iff.1 h2).1
   have hjs : j < es.size:=by simpa using hjl
   have hsub : (es.eraseIdxIfInBounds j).toList=es.toList.eraseIdx j:=by
    unfold Array.eraseIdxIfInBounds
    rw [dif_pos hjs]
    simp
   refine ⟨setBlock w b (.map (es.eraseIdxIfInBounds j) cl),?_,⟨_,cl,heap_setBlock_same hb _,⟨Nat.le_trans (MapFrom.size_erase es j) F.size,stamped_erase F.stamped j,?_⟩,?_⟩,turned_of hb⟩
   · simp [Builtin.delete_,run_underlying ht,MapKept.run_getObj_map hb,K.check w _ hkl,h1,MapKept.run_setObj_map _ hb,Result.andThen,setBlock]
   · intro x hx
     rw [hsub] at hx
     exact F.reads x ((List.eraseIdx_sublist _ _).subset hx)
   · unfold ents at hp ⊢
     rw [hsub,map_eraseIdx]
     have e2 : ((es.toList.map fun e=>(e.key,e.val))).Perm ((e0.key,e0.val)::(es.toList.map fun e=>(e.key,e.val)).eraseIdx j):=by
      have h5 : (es.toList.map fun e=>(e.key,e.val))[j]?=some (e0.key,e0.val):=by rw [List.getElem?_map,h2];rfl
      exact pick_perm _ _ _ h5
     have e3:=(e2.symm.trans hp).trans hm
     refine perm_tail e3 ?_
     exact h0.one (hp.mem_iff.1 (e2.mem_iff.2 (List.mem_cons_self ..))) (hm.mem_iff.2 (List.mem_cons_self ..)) h3
def IterL (w : World) (k : TypeId) (b r : Nat) (l todo : List (Value × Value)) : Prop :=
 ∃ es clock since seen c0,w.heap[b]?=some (.map es clock)∧Fit Tryz.prog k heldR es clock∧(ents es).Perm l∧w.heap[r]?=some (.mapIter (some b) since seen c0) ∧
  (∀ x∈es.toList,x.born < since)∧(ents (leftOf es seen)).Perm todo∧since≤c0∧since≤clock
theorem IterL.map {r : Nat} {todo : List (Value × Value)} (h : IterL w k b r l todo) : MapL w k b l:=by
 obtain ⟨es,c,_,_,_,hb,F,hp,_⟩:=h
 exact ⟨es,c,hb,F,hp⟩
theorem IterL.lt {r : Nat} {todo : List (Value × Value)} (h : IterL w k b r l todo) : r < w.heap.size:=by
 obtain ⟨es,c,_,_,_,hb,F,hp,hr,_⟩:=h
 exact (Array.getElem?_eq_some_iff.1 hr).1
theorem IterL.keep {w' : World} {r : Nat} {todo : List (Value × Value)} (h : IterL w k b r l todo) (hk : w'.heap[b]?=w.heap[b]?) (hk' : w'.heap[r]?=w.heap[r]?) : IterL w' k b r l todo:=by
 obtain ⟨es,c,s,sn,c0,hb,F,hp,hr,rest⟩:=h
 exact ⟨es,c,s,sn,c0,hk.trans hb,F,hp,hk'.trans hr,rest⟩
theorem IterL.no_cells {r : Nat} {todo : List (Value × Value)} (h : IterL w k b r l todo) : ∀ cs t,w.heap[r]?≠some (.cells cs t):=by
 obtain ⟨es,c,_,_,_,hb,F,hp,hr,_⟩:=h
 intro cs t e
 rw [hr] at e;cases e
theorem IterL.sub {r : Nat} {todo : List (Value × Value)} (h : IterL w k b r l todo) : ∀ p∈todo,p∈l:=by
 obtain ⟨es,c,_,sn,_,hb,F,hp,hr,_,ht,_⟩:=h
 intro p hp'
 obtain ⟨x,hx,rfl⟩:=List.mem_map.1 (ht.mem_iff.2 hp')
 exact hp.mem_iff.1 (List.mem_map.2 ⟨x,by simp [leftOf] at hx;simpa using hx.1,rfl⟩)
theorem MapL.range (h : MapL w k b l) (ht : Tryz.prog.underlying t=some (.map k e)) :
 ∃ w',(Instr.range t (.map (some b))).run Tryz.prog w=.ok (.pointer (some ⟨w.heap.size,0,none⟩)) w'∧IterL w' k b w.heap.size l l∧Below w.heap.size w w'∧w'.heap.size=w.heap.size+1:=by
 have hlt:=h.lt
 obtain ⟨es,clock,hb,F,hp⟩:=h
 refine ⟨_,run_range_map w t k e b es clock ht hb,⟨es,clock,clock,#[],clock,((MapKept.heap_alloc w _).2 b hlt).trans hb,F,hp,(MapKept.heap_alloc w _).1,F.stamped.1,?_,Nat.le_refl _,Nat.le_refl _⟩,(Below.refl _ _).alloc (Nat.le_refl _) _,by simp⟩
 have : leftOf es #[]=es:=by simp [leftOf]
 rw [this];exact hp
theorem IterL.next {r : Nat} {todo : List (Value × Value)} (h : IterL w k b r l todo) (ty : TypeId) :
 (todo=[]∧(Instr.next (.pointer (some ⟨r,0,none⟩)) false ty).run Tryz.prog w=.ok (.tuple #[.bool false]) w) ∨
 ∃ key v todo' w',todo.Perm ((key,v)::todo')∧(Instr.next (.pointer (some ⟨r,0,none⟩)) false ty).run Tryz.prog w=.ok (.tuple #[.bool true,key,v]) w' ∧
  IterL w' k b r l todo'∧w.grownBy w' (some r)∧w'.heap.size=w.heap.size∧(Instr.entry (.pointer (some ⟨r,0,none⟩))).run Tryz.prog w'=.ok (.tuple #[key,v]) w':=by
 obtain ⟨es,clock,since,seen,c0,hb,F,hp,hr,hold,htodo,hsc,hsk⟩:=h
 have hne : r≠b:=by intro e;rw [e,hb] at hr;cases hr
 rcases run_next_at (P:=Tryz.prog) w ty r b since c0 seen es clock hr hb hold hsc with ⟨h0,hrun⟩ | ⟨x,hx,w1,hal,hrun⟩
 · left
   refine ⟨?_,hrun⟩
   have:=htodo.length_eq
   simp only [ents,List.length_map,Array.length_toList,h0] at this
   exact List.length_eq_zero_iff.1 this.symm
 · right
   obtain ⟨hem,hes⟩:=mem_left hx
   have hr1 : w1.heap[r]?=some (.mapIter (some b) since seen c0):=by rcases hal with rfl | rfl <;> exact hr
   have hb1 : w1.heap[b]?=some (.map es clock):=by rcases hal with rfl | rfl <;> exact hb
   have hset:=heap_set (o':=.mapIter (some b) since (seen.push x.born) clock) hr1
   have hb' : (setBlock w1 r (.mapIter (some b) since (seen.push x.born) clock)).heap[b]?=some (.map es clock):=(hset.2 b (fun e1=>hne e1.symm)).trans hb1
   have hborn:=((stamped_iff es clock).1 F.stamped).2.1
   refine ⟨x.key,x.val,ents (leftOf es (seen.push x.born)),_,htodo.symm.trans ?_,hrun,⟨es,clock,since,seen.push x.born,clock,hb',F,hp,hset.1,hold,List.Perm.refl _,hsk,hsk⟩,?_,?_,run_entry_at _ r b since seen es clock x hset.1 hb' hem hborn⟩
   · have key : ∀ L : List MapEntry,(L.map (·.born)).Nodup→x∈L→seen.contains x.born=false→((L.filter fun e=>!seen.contains e.born).map fun e=>(e.key,e.val)).Perm ((x.key,x.val)::(L.filter fun e=>!(seen.push x.born).contains e.born).map fun e=>(e.key,e.val)):=by
      intro L
      induction L with
      | nil=>intro _ h _;cases h
      | cons y L ih =>
        intro hn hm hs
        rw [List.map_cons,List.nodup_cons] at hn
        have hstep : ∀ z∈L,z.born≠y.born:=fun z hz e=>hn.1 (List.mem_map.2 ⟨z,hz,e⟩)
        by_cases hxy : x=y
        · subst hxy
          rw [List.filter_cons_of_pos (by rw [hs];rfl),List.filter_cons_of_neg (by rw [contains_push];simp),List.map_cons]
          refine List.Perm.cons _ (List.Perm.of_eq ?_)
          congr 1
          refine List.filter_congr fun z hz=>?_
          rw [contains_push]
          have : (z.born == x.born)=false:=by simp [hstep z hz]
          rw [this];simp
        · have hm' : x∈L:=by rcases List.mem_cons.1 hm with e | h;exact absurd e hxy;exact h
          have ih':=ih hn.2 hm' hs
          have hb2 : (y.born == x.born)=false:=by simp [(hstep x hm').symm]
          have hc : (seen.push x.born).contains y.born=seen.contains y.born:=by rw [contains_push,hb2];simp
          cases hsy : seen.contains y.born with
          | true=>rw [List.filter_cons_of_neg (by rw [hsy];simp),List.filter_cons_of_neg (by rw [hc,hsy];simp)];exact ih'
          | false =>
            rw [List.filter_cons_of_pos (by rw [hsy];rfl),List.filter_cons_of_pos (by rw [hc,hsy];rfl),List.map_cons,List.map_cons]
            exact (List.Perm.cons _ ih').trans (List.Perm.swap _ _ _)
     have:=key es.toList hborn hem hes
     simpa [ents,leftOf] using this
   · rcases hal with rfl | rfl <;> exact ⟨rfl,rfl,rfl,by simp [setBlock],fun i _ hi=>hset.2 i (fun e1=>hi (by rw [e1]))⟩
   · rcases hal with rfl | rfl <;> simp [setBlock]
end
end Go.Proofs.YtmpkejflgpodkaaGreatDoor
namespace Go.Proofs.YtmpkejflgpodkaaGreatDoor
def bytesC (l : List UInt8) : List Value:=l.map fun c=>.int .u8 (c.toNat : Int)
def intsC (l : List Int) : List Value:=l.map fun n=>.int .i64 n
theorem bytesC_append (l r : List UInt8) : bytesC (l++r)=bytesC l++bytesC r:=by simp [bytesC]
theorem bytesC_length (l : List UInt8) : (bytesC l).length=l.length:=by simp [bytesC]
theorem intsC_length (l : List Int) : (intsC l).length=l.length:=by simp [intsC]
theorem bytesC_one (l : List UInt8) : ∀ u∈bytesC l,u.oneCell'=true:=by
 intro u hu;simp only [bytesC,List.mem_map] at hu;obtain ⟨c,_,rfl⟩:=hu;rfl
def putF : Nat→Nat→List UInt8
 | 0,n=>[UInt8.ofNat n]
 | f+1,n=>if n < 128 then [UInt8.ofNat n] else UInt8.ofNat (n % 128+128)::putF f (n / 128)
def putN (n : Nat) : List UInt8:=putF 9 n
theorem putF_small {f n : Nat} (h : n < 128) : putF f n=[UInt8.ofNat n]:=by cases f <;> simp [putF,h]
theorem putF_big {f n : Nat} (h : ¬ n < 128) : putF (f+1) n=UInt8.ofNat (n % 128+128)::putF f (n / 128):=by simp [putF,h]
theorem putF_length : ∀ (f n : Nat),1≤(putF f n).length∧(putF f n).length≤f+1
 | 0,n=>by simp [putF]
 | f+1,n=>by
   simp only [putF]
   split
   · simp
   · have:=putF_length f (n / 128)
     simp;omega
theorem putN_length (n : Nat) : 1≤(putN n).length∧(putN n).length≤10:=putF_length 9 n
def getG : Nat→Nat→List UInt8→Option (Nat × Nat)
 | _,_,[]=>none
 | i,acc,c::r =>
   if i=9∧1 < c.toNat∨9 < i then none
   else if c.toNat < 128 then (if c.toNat=0∧0 < i then none else some (acc+c.toNat % 128*2 ^ (7*i),i+1))
   else getG (i+1) (acc+c.toNat % 128*2 ^ (7*i)) r
def getN (l : List UInt8) : Option (Nat × Nat):=getG 0 0 l
theorem getG_at : ∀ (l : List UInt8) (i acc n k : Nat),getG i acc l=some (n,k)→i < k∧k≤i+l.length
 | [],i,acc,n,k,h=>by simp [getG] at h
 | c::r,i,acc,n,k,h=>by
   simp only [getG] at h
   split at h
   · cases h
   · split at h
     · split at h
       · cases h
       · simp only [Option.some.injEq,Prod.mk.injEq] at h
         simp;omega
     · have:=getG_at r _ _ _ _ h
       simp;omega
theorem getN_at {l : List UInt8} {n k : Nat} (h : getN l=some (n,k)) : 1≤k∧k≤l.length:=by
 have:=getG_at l 0 0 n k h;omega
theorem getG_lt : ∀ (l : List UInt8) (i acc n k : Nat),acc < 2 ^ (7*i)→getG i acc l=some (n,k)→n < 2 ^ 64
 | [],i,acc,n,k,_,h=>by simp [getG] at h
 | c::r,i,acc,n,k,ha,h=>by
   simp only [getG] at h
   have hp : 2 ^ (7*(i+1))=128*2 ^ (7*i):=by rw [Nat.mul_add,Nat.pow_add];omega
   have hm : c.toNat % 128*2 ^ (7*i)≤127*2 ^ (7*i):=Nat.mul_le_mul_right _ (by omega)
   split at h
   · cases h
   · rename_i hg
     split at h
     · rename_i h128
       split at h
       · cases h
       · simp only [Option.some.injEq,Prod.mk.injEq] at h
         by_cases h9 : i=9
         · subst h9
           have hc : c.toNat % 128≤1:=by omega
           have : c.toNat % 128*2 ^ (7*9)≤1*2 ^ (7*9):=Nat.mul_le_mul_right _ hc
           omega
         · have hi : 7*(i+1)≤63:=by omega
           have : 2 ^ (7*(i+1))≤2 ^ 63:=Nat.pow_le_pow_right (by omega) hi
           omega
     · exact getG_lt r _ _ _ _ (by omega) h
theorem getN_lt {l : List UInt8} {n k : Nat} (h : getN l=some (n,k)) : n < 2 ^ 64:=getG_lt l 0 0 n k (by simp) h
theorem ofNat_toNat {n : Nat} (h : n < 256) : (UInt8.ofNat n).toNat=n:=by simp;omega
theorem getG_putF : ∀ (f n i acc : Nat) (more : List UInt8),f+i=9→n < 2 ^ (64 - 7*i)→(0 < i→0 < n)→getG i acc (putF f n++more)=some (acc+n*2 ^ (7*i),i+(putF f n).length)
 | 0,n,i,acc,more,hfi,hn,hz=>by
   have h9 : i=9:=by omega
   subst h9
   simp only [putF,List.cons_append,List.nil_append,getG]
   have hn2 : n < 2:=by simpa using hn
   rw [ofNat_toNat (by omega)]
   rw [if_neg (by omega),if_pos (by omega),if_neg (by omega),Nat.mod_eq_of_lt (by omega)]
   rfl
 | f+1,n,i,acc,more,hfi,hn,hz=>by
   by_cases h : n < 128
   · rw [putF_small h]
     simp only [List.cons_append,List.nil_append,getG]
     rw [ofNat_toNat (by omega),if_neg (by omega),if_pos h,if_neg (by omega),Nat.mod_eq_of_lt h]
     rfl
   · rw [putF_big h]
     simp only [List.cons_append,getG]
     rw [ofNat_toNat (by omega),if_neg (by omega),if_neg (by omega)]
     have hp : 2 ^ (7*(i+1))=128*2 ^ (7*i):=by rw [Nat.mul_add,Nat.pow_add];omega
     have hq : 2 ^ (64 - 7*i)=128*2 ^ (64 - 7*(i+1)):=by
      rw [show 64 - 7*i=(64 - 7*(i+1))+7 by omega,Nat.pow_add];omega
     rw [getG_putF f (n / 128) (i+1) _ more (by omega) (by omega) (by omega)]
     have e1 : (n % 128+128) % 128=n % 128:=by omega
     have e2 : n % 128*2 ^ (7*i)+n / 128*2 ^ (7*(i+1))=n*2 ^ (7*i):=by
      rw [hp,← Nat.mul_assoc,← Nat.add_mul]
      congr 1
      omega
     rw [e1,Nat.add_assoc,e2]
     simp;omega
theorem getN_putN (n : Nat) (more : List UInt8) (h : n < 2 ^ 64) : getN (putN n++more)=some (n,(putN n).length):=by
 have:=getG_putF 9 n 0 0 more rfl (by simpa using h) (by omega)
 simpa [getN,putN] using this
theorem putF_getG : ∀ (l : List UInt8) (f i acc n k : Nat),f+i=9→getG i acc l=some (n,k)→∃ m,n=acc+m*2 ^ (7*i)∧(0 < i→0 < m)∧l.take (k - i)=putF f m
 | [],f,i,acc,n,k,_,h=>by simp [getG] at h
 | c::r,f,i,acc,n,k,hfi,h=>by
   have hc256 : c.toNat < 256:=c.toNat_lt
   simp only [getG] at h
   split at h
   · cases h
   · rename_i hg
     split at h
     · rename_i h128
       split at h
       · cases h
       · rename_i hz
         simp only [Option.some.injEq,Prod.mk.injEq] at h
         refine ⟨c.toNat,by rw [← h.1];congr 1;rw [Nat.mod_eq_of_lt h128],by omega,?_⟩
         rw [putF_small h128,show k - i=1 by omega]
         simp
     · rename_i h128
       obtain _ | f:=f
       · omega
       · obtain ⟨m,hm,hpos,ht⟩:=putF_getG r f (i+1) _ n k (by omega) h
         have hk:=getG_at r _ _ _ _ h
         have hm1:=hpos (by omega)
         refine ⟨c.toNat % 128+128*m,?_,by omega,?_⟩
         · have hp : 2 ^ (7*(i+1))=128*2 ^ (7*i):=by rw [Nat.mul_add,Nat.pow_add];omega
           rw [hm,hp,← Nat.mul_assoc,Nat.add_assoc,← Nat.add_mul,Nat.mul_comm m 128]
         · rw [putF_big (by omega),show k - i=(k - (i+1))+1 by omega,List.take_succ_cons,ht]
           congr 1
           · rw [← UInt8.toNat_inj,ofNat_toNat (by omega)];omega
           · congr 1;omega
theorem putN_getN {l : List UInt8} {n k : Nat} (h : getN l=some (n,k)) : l.take k=putN n:=by
 obtain ⟨m,hm,_,ht⟩:=putF_getG l 9 0 0 n k rfl h
 have : n=m:=by rw [hm];simp
 subst this
 simpa [putN] using ht
def zz (n : Int) : Nat:=if 0≤n then (2*n).toNat else (-2*n - 1).toNat
def unzz (m : Nat) : Int:=if m % 2=0 then (m / 2 : Nat) else -((m / 2 : Nat) : Int) - 1
theorem unzz_zz (n : Int) : unzz (zz n)=n:=by unfold unzz zz;split <;> split <;> omega
theorem zz_unzz (m : Nat) : zz (unzz m)=m:=by unfold unzz zz;split <;> split <;> omega
theorem zz_lt {n : Int} (h : -9223372036854775808≤n∧n≤9223372036854775807) : zz n < 2 ^ 64:=by unfold zz;split <;> omega
theorem unzz_bd {m : Nat} (h : m < 2 ^ 64) : -9223372036854775808≤unzz m∧unzz m≤9223372036854775807:=by unfold unzz;split <;> omega
def putS (n : Int) : List UInt8:=putN (zz n)
def getS (l : List UInt8) : Option (Int × Nat):=(getN l).map fun x=>(unzz x.1,x.2)
end Go.Proofs.YtmpkejflgpodkaaGreatDoor
namespace Go.Proofs.YtmpkejflgpodkaaGreatDoor
open Go.ChangeShapes Go.WideShapes Go.ChangeAt Go.RowKit
theorem ret_int {k : IntKind} {a b : Int} (h : a=b) : Ending.returned (.int k a)=.returned (.int k b):=by rw [h]
theorem ret_bool {a b : Bool} (h : a=b) : Ending.returned (.bool a)=.returned (.bool b):=by rw [h]
theorem infoByte : (Tryz.prog.info? 5).map (fun i=>(i.zero,i.size,i.bytes))=some (some (.int .u8 0),1,1):=by kernel_rfl
theorem reads_new (wr : World) (t : TypeId) (c : UInt8) (x : Int) (hx : x=(c.toNat : Int)) (H : Nat) (hH : wr.heap.size=H) : Reads (fun k=>k=H) (wr.alloc (.cells #[.int .u8 x] t)) 1 (some ⟨H,0,none⟩) 1 (bytesC [c]):=by
 subst hx
 subst hH
 refine ⟨by simp [bytesC],fun _=>⟨_,rfl,rfl,fun j u hu=>?_⟩⟩
 match j,hu with
 | 0,hu=>simp [bytesC] at hu;subst hu;simp [Addr.add]
 | j+1,hu=>simp [bytesC] at hu
theorem get_lt {α : Type} {l : List α} {k : Nat} (h : k < l.length) : ∃ x,l[k]?=some x:=⟨l[k],List.getElem?_eq_getElem h⟩
theorem conv_reads {l : List UInt8} {D : Nat→Prop} {A : Option Addr} {c : Nat} {w : World} (hr : Reads D w 1 A l.length (bytesC l)) :
 (convert 141 9 (.slice A l.length c)).run Tryz.prog w=.ok (.string ⟨l.toArray⟩) w:=by
 rcases Nat.eq_zero_or_pos l.length with h0 | h0
 · have : l=[]:=List.length_eq_zero_iff.1 h0
   subst this
   rw [run_convert_bytes_string w 141 9 5 A _ c Tryz.underlying141 Tryz.underlying5 Tryz.underlying9]
   cases A with
   | none=>simp [Conv.bytesToString];rfl
   | some a =>
     have:=run_convert_bytes_back (P:=Tryz.prog) w 141 9 5 a c [] Tryz.underlying141 Tryz.underlying5 Tryz.underlying9 (fun j hj=>by simp at hj)
     rw [run_convert_bytes_string w 141 9 5 (some a) _ c Tryz.underlying141 Tryz.underlying5 Tryz.underlying9] at this
     exact this
 · obtain ⟨ad,rfl,_,hc⟩:=hr.2 h0
   refine run_convert_bytes_back w 141 9 5 ad c l Tryz.underlying141 Tryz.underlying5 Tryz.underlying9 (fun j hj=>?_)
   exact hc j _ (by simp [bytesC,List.getElem?_eq_getElem hj])
end Go.Proofs.YtmpkejflgpodkaaGreatDoor
namespace Go.Proofs.YtmpkejflgpodkaaGreatDoor
theorem wpStill_want {P : Program} {ops : Array Oper} {w : World} {Q : Act→Prop} {a : Act} {o : Oper} {rest : List Oper} (hw : Region.wanted o (yielded ops a.tmps)=true)
 (h : ∀ K : Act→Prop,(∀ a,wpStill P ops w Q rest a→K a)→o.still P a w K) : wpStill P ops w Q (o::rest) a :=
 wpStill_step fun K hK=>by rw [if_pos hw];exact h K hK
theorem wpStill_skip {P : Program} {ops : Array Oper} {w : World} {Q : Act→Prop} {a : Act} {o : Oper} {rest : List Oper} (hw : Region.wanted o (yielded ops a.tmps)=false)
 (h : wpStill P ops w Q rest (a.put o.dst undef)) : wpStill P ops w Q (o::rest) a :=
 wpStill_step fun K hK=>by rw [hw];exact hK _ h
end Go.Proofs.YtmpkejflgpodkaaGreatDoor
namespace Go.Proofs.YtmpkejflgpodkaaGreatDoor
open Go.ChangeShapes Go.WideShapes Go.ChangeAt Go.RowKit
abbrev Rf:=Int × Int
def refV (r : Rf) : Value:=.agg #[.int .i64 r.1,.int .i64 r.2]
def refC (l : List Rf) : List Value:=l.flatMap fun r=>[.int .i64 r.1,.int .i64 r.2]
theorem refC_length : ∀ (l : List Rf),(refC l).length=l.length*2
 | []=>rfl
 | r::l=>by have:=refC_length l;simp only [refC,List.flatMap_cons,List.length_append,List.length_cons,List.length_nil] at this ⊢;omega
theorem refC_append (a b : List Rf) : refC (a++b)=refC a++refC b:=by simp [refC]
theorem refC_at : ∀ {l : List Rf} {k : Nat} {r : Rf},l[k]?=some r→(refC l)[k*2]?=some (.int .i64 r.1)∧(refC l)[k*2+1]?=some (.int .i64 r.2)
 | [],k,r,h=>by simp at h
 | x::l,0,r,h=>by simp at h;subst h;simp [refC]
 | x::l,k+1,r,h=>by
   have:=refC_at (l:=l) (k:=k) (by simpa using h)
   have e : refC (x::l)=.int .i64 x.1::.int .i64 x.2::refC l:=by simp [refC]
   rw [e,show (k+1)*2=k*2+1+1 from by omega,List.getElem?_cons_succ,List.getElem?_cons_succ,show k*2+1+1+1=(k*2+1)+1+1 from rfl,List.getElem?_cons_succ,List.getElem?_cons_succ]
   exact this
def isRef (r : Rf) : Bool:=decide (1≤r.1∧r.1≤99) && decide (1≤r.2∧r.2≤1000000)
def refsE : Int→List Rf→Nat
 | _,[]=>0
 | p,r::l=>if isRef r=false then 1 else if r.1≤p then 5 else refsE r.1 l
def errN (k : Nat) : Value:=if k=0 then .nilIface else .iface 101 (.int .i64 k)
theorem cactor_any (x : Int) (w : World) : Calls Tryz.prog 182 #[.int .i64 x] w fun e w'=>e=.returned (.bool (decide (1≤x∧x≤99)))∧w'=w:=by
 by_cases h1 : 1≤x
 · have h1' : decide (1≤x)=true:=decide_eq_true h1
   have h2 : decide (1≤x∧x≤99)=decide (x≤99):=by simp [h1]
   rw [h2]
   go_enter Tryz.func182,Tryz.ntmps182
   go_wp2_with fail
   go_ret
   exact ⟨rfl,rfl⟩
 · have h1' : decide (1≤x)=false:=decide_eq_false h1
   have h2 : decide (1≤x∧x≤99)=false:=by simp [h1]
   rw [h2]
   go_enter Tryz.func182,Tryz.ntmps182
   go_wp2_with fail
   go_ret
   exact ⟨rfl,rfl⟩
theorem cnum_any (x : Int) (w : World) : Calls Tryz.prog 183 #[.int .i64 x] w fun e w'=>e=.returned (.bool (decide (1≤x∧x≤1000000)))∧w'=w:=by
 by_cases h1 : 1≤x
 · have h1' : decide (1≤x)=true:=decide_eq_true h1
   have h2 : decide (1≤x∧x≤1000000)=decide (x≤1000000):=by simp [h1]
   rw [h2]
   go_enter Tryz.func183,Tryz.ntmps183
   go_wp2_with fail
   go_ret
   exact ⟨rfl,rfl⟩
 · have h1' : decide (1≤x)=false:=decide_eq_false h1
   have h2 : decide (1≤x∧x≤1000000)=false:=by simp [h1]
   rw [h2]
   go_enter Tryz.func183,Tryz.ntmps183
   go_wp2_with fail
   go_ret
   exact ⟨rfl,rfl⟩
theorem cref_any (r : Rf) (w : World) : Calls Tryz.prog 160 #[refV r] w fun e w'=>e=.returned (.bool (isRef r))∧Below w.heap.size w w':=by
 obtain ⟨a,s⟩:=r
 simp only [refV,isRef]
 have ha:=cactor_any a
 have hs:=cnum_any s
 generalize decide (1≤a∧a≤99)=x at *
 generalize decide (1≤s∧s≤1000000)=y at *
 cases x with
 | false =>
   go_enter Tryz.func160,Tryz.ntmps160
   go_wp2_with fail
   go_at_call 182
   refine (ha _).mono ?_
   rintro e w1 ⟨rfl,rfl⟩
   go_wp2_with fail
   go_ret
   exact ⟨rfl,(Below.refl _ w).alloc (Nat.le_refl _) _⟩
 | true =>
   go_enter Tryz.func160,Tryz.ntmps160
   go_wp2_with fail
   go_at_call 182
   refine (ha _).mono ?_
   rintro e w1 ⟨rfl,rfl⟩
   go_wp2_with fail
   go_at_call 183
   refine (hs _).mono ?_
   rintro e w1 ⟨rfl,rfl⟩
   go_wp2_with fail
   go_ret
   exact ⟨rfl,(Below.refl _ w).alloc (Nat.le_refl _) _⟩
set_option maxHeartbeats 2000000 in
set_option maxRecDepth 20000 in
theorem refs_any (l : List Rf) (D : Nat→Prop) (A : Option Addr) (c : Nat) (w : World) (hr : Reads D w 2 A l.length (refC l)) (hD : ∀ k,D k→k < w.heap.size) (hl : l.length≤9223372036854775807) :
 Calls Tryz.prog 161 #[.slice A l.length c] w fun e w'=>e=.returned (errN (refsE 0 l))∧Below w.heap.size w w':=by
 have HR:=Lib.hid hr
 have HD:=Lib.hid hD
 clear hr hD
 obtain ⟨n,hn⟩ : ∃ n,l.length=n:=⟨_,rfl⟩
 have HN:=Lib.hid hn
 rw [hn] at hl ⊢
 clear hn
 go_enter Tryz.func161,Tryz.ntmps161
 go_wp2_with fail
 go_loopw [7] (fun s7 wr=>∃ k : Nat,k≤n∧s7=.int .i64 k∧Hid (Below w.heap.size w wr∧∃ p : Int,refsE 0 l=refsE p (l.drop k)∧(k=0→p=0)∧(∀ j r,k=j+1→l[j]?=some r→p=r.1)) ) (fun s7 _=>n - (intOf s7).toNat)
 case atStart=>exact ⟨0,by omega,rfl,⟨Below.refl _ _,0,by simp,fun _=>rfl,fun j r h=>by omega⟩⟩
 case round =>
  obtain ⟨k,hk,rfl,HI⟩:=hrel
  by_cases hlt : k < n
  · obtain ⟨b,off,rfl,hb,hcell⟩:=HR.out.at_ (by rw [HN.out];omega) (by omega)
    obtain ⟨r,hr⟩ : ∃ r,l[k]?=some r:=⟨_,List.getElem?_eq_getElem (by rw [HN.out];exact hlt)⟩
    have hbl:=HD.out b hb
    have hblk : ∀ o,wr.cell? ⟨b,o,none⟩=w.cell? ⟨b,o,none⟩:=fun o=>World.cell?_of_block (w:=w) (HI.out.1.block b hbl)
    obtain ⟨h1,h2⟩:=refC_at hr
    have x1 : wr.cell? ⟨b,off+k*2,none⟩=some (.int .i64 r.1):=by rw [hblk];exact hcell _ _ h1
    have x2 : wr.cell? ⟨b,off+k*2+1,none⟩=some (.int .i64 r.2):=by rw [hblk];exact hcell _ _ h2
    clear hblk hcell h1 h2
    have HX:=Lib.hid hr
    clear hr
    go_wp2_with fail
    go_at_call 160
    refine (cref_any r _).mono ?_
    rintro e w2 ⟨rfl,hb2⟩
    have hs1 : wr.heap.size < w2.heap.size:=by have:=hb2.size;simp at this;omega
    have hc4 : w2.cell? ⟨wr.heap.size,0,none⟩=some (.int .i64 r.1):=by
     rw [World.cell?_of_block (w:=wr.alloc (.cells #[.int .i64 r.1,.int .i64 r.2] 77)) (hb2.block wr.heap.size (by simp))]
     exact (Blk.new wr _ _).cell 0
    have HB2 : Hid (Below w.heap.size w w2):=(HI.out.1.alloc HI.out.1.size _).trans (hb2.mono (by have:=HI.out.1.size;simp;omega))
    clear hb2 x1 x2
    obtain ⟨p,hp1,hp2,hp3⟩:=HI.out.2
    have hdr : l.drop k=r::l.drop (k+1):=by
     have hl : k < l.length:=by rw [HN.out];exact hlt
     have:=HX.out
     rw [List.getElem?_eq_getElem hl] at this
     rw [List.drop_eq_getElem_cons hl,Option.some.inj this]
    have hre : refsE p (r::l.drop (k+1))=if isRef r=false then 1 else if r.1≤p then 5 else refsE r.1 (l.drop (k+1)):=rfl
    rw [hdr,hre] at hp1
    clear hdr hre
    cases hir : isRef r with
    | false =>
      rw [hir,if_pos rfl] at hp1
      have HP:=Lib.hid hp1
      clear hp1 hp2 hp3 hir
      go_wp2_with fail
      go_ret
      exact ⟨by rw [HP.out];rfl,HB2.out⟩
    | true =>
      rw [hir,if_neg (by simp)] at hp1
      have hr1 : 1≤r.1:=by
       simp only [isRef,Bool.and_eq_true,decide_eq_true_eq] at hir
       exact hir.1.1
      have HP:=Lib.hid (And.intro hp1 (And.intro hp2 hp3))
      clear hp1 hp2 hp3 hir
      by_cases hk0 : k=0
      · have hpz:=HP.out.2.1 hk0
        have HE : Hid (refsE 0 l=refsE r.1 (l.drop (k+1))):=by
         have:=HP.out.1
         rw [hpz,if_neg (by omega)] at this
         exact this
        have d1 : decide (0 < (k : Int))=false:=decide_eq_false (by omega)
        have d1' : decide (0 < k)=false:=decide_eq_false (by omega)
        clear hk0 hpz
        go_wp2_with fail
        go_quiet (fail)
        change Exit.then _ _ _ _ (w2.drewN nq)
        have HB3 : Hid (Below w.heap.size w (w2.drewN nq)):=below_drewN HB2.out nq
        generalize w2.drewN nq=w3 at HB3 ⊢
        clear hc4 hs1
        go_wp2_with fail
        go_roundw
        case rel =>
         refine ⟨k+1,hlt,by go_num,⟨HB3.out,r.1,HE.out,fun e=>by omega,fun j r' e h=>?_⟩⟩
         obtain rfl : j=k:=by omega
         rw [HX.out] at h
         cases h
         rfl
        case measure=>simp [intOf];omega
      · have d1 : decide (0 < (k : Int))=true:=decide_eq_true (by omega)
        have d1' : decide (0 < k)=true:=decide_eq_true (by omega)
        obtain ⟨r0,hr0⟩ : ∃ r,l[k - 1]?=some r:=⟨_,List.getElem?_eq_getElem (by rw [HN.out];omega)⟩
        have hp0:=HP.out.2.2 (k - 1) r0 (by omega) hr0
        have hblk : ∀ o,w2.cell? ⟨b,o,none⟩=w.cell? ⟨b,o,none⟩:=fun o=>World.cell?_of_block (w:=w) (HB2.out.block b hbl)
        obtain ⟨b2,off2,e2,-,hcell2⟩:=HR.out.at_ (by rw [HN.out];omega) (by omega)
        simp only [Option.some.injEq,Addr.mk.injEq,and_true] at e2
        obtain ⟨rfl,rfl⟩:=e2
        have x3 : w2.cell? ⟨b,off+(k - 1)*2,none⟩=some (.int .i64 r0.1):=by rw [hblk];exact hcell2 _ _ (refC_at hr0).1
        have HP1:=Lib.hid HP.out.1
        rw [hp0] at HP1
        have hw : IntKind.i64.wrap ((k : Int) - 1)=(k : Int) - 1:=IntWalk.i64_in _ (by omega)
        have hi0 : 0≤(k : Int) - 1:=by omega
        have hi1 : (k : Int) - 1 < (n : Int):=by omega
        have hi2 : ((k : Int) - 1).toNat=k - 1:=by omega
        clear hblk hcell2 hr0 hp0 HP
        go_wp2_with fail
        by_cases hle : r.1≤r0.1
        · have d2 : decide (r.1≤r0.1)=true:=decide_eq_true hle
          go_quiet (fail)
          change Exit.then _ _ _ _ (w2.drewN nq)
          have HB3 : Hid (Below w.heap.size w (w2.drewN nq)):=below_drewN HB2.out nq
          generalize w2.drewN nq=w3 at HB3 ⊢
          clear hc4 hs1 x3 hw hi2
          go_wp2_with fail
          go_ret
          exact ⟨by rw [HP1.out,if_pos hle];rfl,HB3.out⟩
        · have d2 : decide (r.1≤r0.1)=false:=decide_eq_false hle
          go_quiet (fail)
          change Exit.then _ _ _ _ (w2.drewN nq)
          have HB3 : Hid (Below w.heap.size w (w2.drewN nq)):=below_drewN HB2.out nq
          generalize w2.drewN nq=w3 at HB3 ⊢
          clear hc4 hs1 x3 hw hi2
          go_wp2_with fail
          go_roundw
          case rel =>
           refine ⟨k+1,hlt,by go_num,⟨HB3.out,r.1,by rw [HP1.out,if_neg hle],fun e=>by omega,fun j r' e h=>?_⟩⟩
           obtain rfl : j=k:=by omega
           rw [HX.out] at h
           cases h
           rfl
          case measure=>simp [intOf];omega
  · have hkn : k=n:=by omega
    obtain ⟨p,hp1,-,-⟩:=HI.out.2
    rw [List.drop_of_length_le (by rw [HN.out];omega)] at hp1
    have HP : Hid (refsE 0 l=0):=hp1
    have HBw:=Lib.hid HI.out.1
    clear hp1
    go_wp2_with fail
    go_ret
    exact ⟨by rw [HP.out];rfl,HBw.out⟩
theorem refRef_any (r : Rf) (w : World) : Calls Tryz.prog 77 #[refV r] w fun e w'=>e=.returned (.bool (isRef r))∧Below w.heap.size w w':=by
 obtain ⟨a,s⟩:=r
 simp only [refV,isRef]
 by_cases h1 : 1≤a
 case neg =>
  have d1 : decide (1≤a)=false:=decide_eq_false h1
  have e0 : decide (1≤a∧a≤99)=false:=decide_eq_false fun h=>h1 h.1
  rw [e0]
  go_enter Tryz.func77,Tryz.ntmps77
  go_wp2_with fail
  go_ret
  exact ⟨rfl,(Below.refl _ w).alloc (Nat.le_refl _) _⟩
 have d1 : decide (1≤a)=true:=decide_eq_true h1
 by_cases h2 : a≤99
 case neg =>
  have d2 : decide (a≤99)=false:=decide_eq_false h2
  have e0 : decide (1≤a∧a≤99)=false:=decide_eq_false fun h=>h2 h.2
  rw [e0]
  go_enter Tryz.func77,Tryz.ntmps77
  go_wp2_with fail
  go_ret
  exact ⟨rfl,(Below.refl _ w).alloc (Nat.le_refl _) _⟩
 have d2 : decide (a≤99)=true:=decide_eq_true h2
 have e0 : decide (1≤a∧a≤99)=true:=decide_eq_true ⟨h1,h2⟩
 rw [e0]
 by_cases h3 : 1≤s
 case neg =>
  have d3 : decide (1≤s)=false:=decide_eq_false h3
  have e1 : decide (1≤s∧s≤1000000)=false:=decide_eq_false fun h=>h3 h.1
  rw [e1]
  go_enter Tryz.func77,Tryz.ntmps77
  go_wp2_with fail
  go_ret
  exact ⟨rfl,(Below.refl _ w).alloc (Nat.le_refl _) _⟩
 have d3 : decide (1≤s)=true:=decide_eq_true h3
 have e1 : decide (1≤s∧s≤1000000)=decide (s≤1000000):=by simp [h3]
 rw [e1]
 go_enter Tryz.func77,Tryz.ntmps77
 go_wp2_with fail
 go_ret
 exact ⟨rfl,(Below.refl _ w).alloc (Nat.le_refl _) _⟩
set_option maxHeartbeats 2000000 in
set_option maxRecDepth 20000 in
theorem refClock_any (l : List Rf) (D : Nat→Prop) (A : Option Addr) (c : Nat) (w : World) (hr : Reads D w 2 A l.length (refC l)) (hD : ∀ k,D k→k < w.heap.size) (hl : l.length≤9223372036854775807) :
 Calls Tryz.prog 78 #[.slice A l.length c] w fun e w'=>e=.returned (.int .i64 (refsE 0 l))∧Below w.heap.size w w':=by
 have HR:=Lib.hid hr
 have HD:=Lib.hid hD
 clear hr hD
 obtain ⟨n,hn⟩ : ∃ n,l.length=n:=⟨_,rfl⟩
 have HN:=Lib.hid hn
 rw [hn] at hl ⊢
 clear hn
 go_enter Tryz.func78,Tryz.ntmps78
 go_wp2_with fail
 go_loopw [3] (fun s7 wr=>∃ k : Nat,k≤n∧s7=.int .i64 k∧Hid (Below w.heap.size w wr∧∃ p : Int,refsE 0 l=refsE p (l.drop k)∧(k=0→p=0)∧(∀ j r,k=j+1→l[j]?=some r→p=r.1)) ) (fun s7 _=>n - (intOf s7).toNat)
 case atStart=>exact ⟨0,by omega,rfl,⟨Below.refl _ _,0,by simp,fun _=>rfl,fun j r h=>by omega⟩⟩
 case round =>
  obtain ⟨k,hk,rfl,HI⟩:=hrel
  by_cases hlt : k < n
  · obtain ⟨b,off,rfl,hb,hcell⟩:=HR.out.at_ (by rw [HN.out];omega) (by omega)
    obtain ⟨r,hr⟩ : ∃ r,l[k]?=some r:=⟨_,List.getElem?_eq_getElem (by rw [HN.out];exact hlt)⟩
    have hbl:=HD.out b hb
    have hblk : ∀ o,wr.cell? ⟨b,o,none⟩=w.cell? ⟨b,o,none⟩:=fun o=>World.cell?_of_block (w:=w) (HI.out.1.block b hbl)
    obtain ⟨h1,h2⟩:=refC_at hr
    have x1 : wr.cell? ⟨b,off+k*2,none⟩=some (.int .i64 r.1):=by rw [hblk];exact hcell _ _ h1
    have x2 : wr.cell? ⟨b,off+k*2+1,none⟩=some (.int .i64 r.2):=by rw [hblk];exact hcell _ _ h2
    clear hblk hcell h1 h2
    have HX:=Lib.hid hr
    clear hr
    go_wp2_with fail
    go_at_call 77
    refine (refRef_any r _).mono ?_
    rintro e w2 ⟨rfl,hb2⟩
    have HB2 : Hid (Below w.heap.size w w2):=HI.out.1.trans (hb2.mono HI.out.1.size)
    have y1 : w2.cell? ⟨b,off+k*2,none⟩=some (.int .i64 r.1):=by
     rw [World.cell?_of_block (w:=wr) (hb2.block b (Nat.lt_of_lt_of_le hbl HI.out.1.size))]
     exact x1
    clear hb2 x1 x2
    obtain ⟨p,hp1,hp2,hp3⟩:=HI.out.2
    have hdr : l.drop k=r::l.drop (k+1):=by
     have hl : k < l.length:=by rw [HN.out];exact hlt
     have:=HX.out
     rw [List.getElem?_eq_getElem hl] at this
     rw [List.drop_eq_getElem_cons hl,Option.some.inj this]
    have hre : refsE p (r::l.drop (k+1))=if isRef r=false then 1 else if r.1≤p then 5 else refsE r.1 (l.drop (k+1)):=rfl
    rw [hdr,hre] at hp1
    clear hdr hre
    cases hir : isRef r with
    | false =>
      rw [hir,if_pos rfl] at hp1
      have HP:=Lib.hid hp1
      clear hp1 hp2 hp3 hir
      go_wp2_with fail
      go_ret
      exact ⟨by rw [HP.out];rfl,HB2.out⟩
    | true =>
      rw [hir,if_neg (by simp)] at hp1
      have hr1 : 1≤r.1:=by
       simp only [isRef,Bool.and_eq_true,decide_eq_true_eq] at hir
       exact hir.1.1
      have HP:=Lib.hid (And.intro hp1 (And.intro hp2 hp3))
      clear hp1 hp2 hp3 hir
      by_cases hk0 : k=0
      · have hpz:=HP.out.2.1 hk0
        have HE : Hid (refsE 0 l=refsE r.1 (l.drop (k+1))):=by
         have:=HP.out.1
         rw [hpz,if_neg (by omega)] at this
         exact this
        have d1 : decide (0 < (k : Int))=false:=decide_eq_false (by omega)
        have d1' : decide (0 < k)=false:=decide_eq_false (by omega)
        clear hk0 hpz
        go_wp2_with fail
        go_quiet (fail)
        change Exit.then _ _ _ _ (w2.drewN nq)
        have HB3 : Hid (Below w.heap.size w (w2.drewN nq)):=below_drewN HB2.out nq
        generalize w2.drewN nq=w3 at HB3 ⊢
        clear y1
        go_wp2_with fail
        go_roundw
        case rel =>
         refine ⟨k+1,hlt,by go_num,⟨HB3.out,r.1,HE.out,fun e=>by omega,fun j r' e h=>?_⟩⟩
         obtain rfl : j=k:=by omega
         rw [HX.out] at h
         cases h
         rfl
        case measure=>simp [intOf];omega
      · have d1 : decide (0 < (k : Int))=true:=decide_eq_true (by omega)
        have d1' : decide (0 < k)=true:=decide_eq_true (by omega)
        obtain ⟨r0,hr0⟩ : ∃ r,l[k - 1]?=some r:=⟨_,List.getElem?_eq_getElem (by rw [HN.out];omega)⟩
        have hp0:=HP.out.2.2 (k - 1) r0 (by omega) hr0
        have hblk : ∀ o,w2.cell? ⟨b,o,none⟩=w.cell? ⟨b,o,none⟩:=fun o=>World.cell?_of_block (w:=w) (HB2.out.block b hbl)
        obtain ⟨b2,off2,e2,-,hcell2⟩:=HR.out.at_ (by rw [HN.out];omega) (by omega)
        simp only [Option.some.injEq,Addr.mk.injEq,and_true] at e2
        obtain ⟨rfl,rfl⟩:=e2
        have x3 : w2.cell? ⟨b,off+(k - 1)*2,none⟩=some (.int .i64 r0.1):=by rw [hblk];exact hcell2 _ _ (refC_at hr0).1
        have HP1:=Lib.hid HP.out.1
        rw [hp0] at HP1
        have hw : IntKind.i64.wrap ((k : Int) - 1)=(k : Int) - 1:=IntWalk.i64_in _ (by omega)
        have hi0 : 0≤(k : Int) - 1:=by omega
        have hi1 : (k : Int) - 1 < (n : Int):=by omega
        have hi2 : ((k : Int) - 1).toNat=k - 1:=by omega
        clear hblk hcell2 hr0 hp0 HP
        go_wp2_with fail
        by_cases hle : r.1≤r0.1
        · have d2 : decide (r.1≤r0.1)=true:=decide_eq_true hle
          go_quiet (fail)
          change Exit.then _ _ _ _ (w2.drewN nq)
          have HB3 : Hid (Below w.heap.size w (w2.drewN nq)):=below_drewN HB2.out nq
          generalize w2.drewN nq=w3 at HB3 ⊢
          clear y1 x3 hw hi2
          go_wp2_with fail
          go_ret
          exact ⟨by rw [HP1.out,if_pos hle];rfl,HB3.out⟩
        · have d2 : decide (r.1≤r0.1)=false:=decide_eq_false hle
          go_quiet (fail)
          change Exit.then _ _ _ _ (w2.drewN nq)
          have HB3 : Hid (Below w.heap.size w (w2.drewN nq)):=below_drewN HB2.out nq
          generalize w2.drewN nq=w3 at HB3 ⊢
          clear y1 x3 hw hi2
          go_wp2_with fail
          go_roundw
          case rel =>
           refine ⟨k+1,hlt,by go_num,⟨HB3.out,r.1,by rw [HP1.out,if_neg hle],fun e=>by omega,fun j r' e h=>?_⟩⟩
           obtain rfl : j=k:=by omega
           rw [HX.out] at h
           cases h
           rfl
          case measure=>simp [intOf];omega
  · have hkn : k=n:=by omega
    obtain ⟨p,hp1,-,-⟩:=HI.out.2
    rw [List.drop_of_length_le (by rw [HN.out];omega)] at hp1
    have HP : Hid (refsE 0 l=0):=hp1
    have HBw:=Lib.hid HI.out.1
    clear hp1
    go_wp2_with fail
    go_ret
    exact ⟨by rw [HP.out];rfl,HBw.out⟩
end Go.Proofs.YtmpkejflgpodkaaGreatDoor
namespace Go.Proofs.YtmpkejflgpodkaaGreatDoor
open Go.ChangeShapes Go.WideShapes Go.ChangeAt Go.RowKit
open Go.Maps (Keyed)
theorem keyed_ref : Keyed Tryz.prog 77 :=
 Keyed.of_law (deep_law_laid laidOut (m:=2) (by omega) (of_decide_eq_true (by kernel_rfl)) (by kernel_rfl) (by rw [Tryz.underlying77]))
theorem keyed_id : Keyed Tryz.prog 24 :=
 Keyed.of_law (deep_law_laid laidOut (m:=2) (by omega) (of_decide_eq_true (by kernel_rfl)) (by kernel_rfl) (by rw [Tryz.underlying24]))
def I64R (r : Rf) : Prop:=(-9223372036854775808≤r.1∧r.1≤9223372036854775807)∧(-9223372036854775808≤r.2∧r.2≤9223372036854775807)
theorem wf64 {x : Int} (h : -9223372036854775808≤x∧x≤9223372036854775807) : (Lit.int .i64 x).wf=true:=by
 simp only [Lit.wf,IntKind.min,IntKind.max,IntKind.signed,IntKind.bits]
 simpa using h
theorem keyOf_ref {r : Rf} (h : I64R r) : ∃ kl,keyOf Tryz.prog 77 (refV r)=some kl:=by
 have hk : Tryz.prog.keyType 77=true:=by kernel_rfl
 have hc : Tryz.prog.cellsOf 77=2:=by kernel_rfl
 have hi : Tryz.prog.cellsOf 3=1:=by kernel_rfl
 have hf : (refV r).formed Tryz.prog 77=true:=by simp [refV,Value.formed,Tryz.underlying77,hc]
 obtain ⟨d,hd⟩ : ∃ d,Tryz.prog.types.size=d+1:=⟨Tryz.prog.types.size - 1,by have : 0 < Tryz.prog.types.size:=of_decide_eq_true (by kernel_rfl);omega⟩
 unfold keyOf
 rw [Tryz.underlying77]
 simp only [hk,hf,Bool.and_true,if_true,hd]
 have e : ∃ ls,Tryz.prog.keyLits (d+1+1) 77 (refV r).cells.toList=some ls:=by
  unfold Program.keyLits
  rw [Tryz.underlying77]
  simp [refV,Value.cells,hc,hi,Program.keyLits,Tryz.underlying3,wf64 h.1,wf64 h.2]
 obtain ⟨ls,e⟩:=e
 exact ⟨_,by rw [e];rfl⟩
theorem keyOf_id {r : Rf} (h : I64R r) : ∃ kl,keyOf Tryz.prog 24 (refV r)=some kl:=by
 have hk : Tryz.prog.keyType 24=true:=by kernel_rfl
 have hc : Tryz.prog.cellsOf 24=2:=by kernel_rfl
 have hi : Tryz.prog.cellsOf 3=1:=by kernel_rfl
 have hf : (refV r).formed Tryz.prog 24=true:=by simp [refV,Value.formed,Tryz.underlying24,hc]
 obtain ⟨d,hd⟩ : ∃ d,Tryz.prog.types.size=d+1:=⟨Tryz.prog.types.size - 1,by have : 0 < Tryz.prog.types.size:=of_decide_eq_true (by kernel_rfl);omega⟩
 unfold keyOf
 rw [Tryz.underlying24]
 simp only [hk,hf,Bool.and_true,if_true,hd]
 have e : ∃ ls,Tryz.prog.keyLits (d+1+1) 24 (refV r).cells.toList=some ls:=by
  unfold Program.keyLits
  rw [Tryz.underlying24]
  simp [refV,Value.cells,hc,hi,Program.keyLits,Tryz.underlying3,wf64 h.1,wf64 h.2]
 obtain ⟨ls,e⟩:=e
 exact ⟨_,by rw [e];rfl⟩
theorem refV_inj {r q : Rf} (h : refV r=refV q) : r=q:=by
 obtain ⟨a,b⟩:=r
 obtain ⟨c,d⟩:=q
 simpa [refV] using h
/-! ### at the operation, for the walk -/
section
variable (w : World) {ops : Array Oper} {rest : List Oper} {o : Oper} {a : Act} {Q : Exit→Act→World→Prop}
theorem wpL_store (hg : o.guard=none) (m x v : Operand) (t : TypeId) (hop : o.op=Op.mapUpdate t m x v∨o.op=Op.insert t m x v) (b : Nat) (key val : Value) (hm : a.eval m=.map (some b)) (hx : a.eval x=key) (hv : a.eval v=val)
 (R : World→Prop) (h : ∃ w',(Instr.mapUpdate t (.map (some b)) key val).run Tryz.prog w=.ok () w'∧R w')
 (hK : ∀ w',R w'→wpList Tryz.prog ops Q rest (a.put o.dst undef) w') : wpList Tryz.prog ops Q (o::rest) a w:=by
 refine wpList_plain hg fun K' hK'=>?_
 obtain ⟨w',hrun,hR⟩:=h
 unfold Oper.wp
 rcases hop with hop | hop <;> simp [execOp,hop,hm,hx,hv,hrun,Result.andThen] <;> exact hK' _ _ (hK w' hR)
theorem wpL_delete (hg : o.guard=none) (m x : Operand) (t k : TypeId) (hop : o.op=Op.call { callee:=Callee.builtin Builtin.delete,args:=#[m,x],argTypes:=#[t,k] }) (b : Nat) (key : Value) (hm : a.eval m=.map (some b)) (hx : a.eval x=key)
 (R : World→Prop) (h : ∀ ty,∃ w',(Builtin.delete_ #[t,k] ty #[.map (some b),key]).run Tryz.prog w=.ok (.tuple #[]) w'∧R w')
 (hK : ∀ w',R w'→wpList Tryz.prog ops Q rest (a.put o.dst (.tuple #[])) w') : wpList Tryz.prog ops Q (o::rest) a w:=by
 refine wpList_plain hg fun K' hK'=>?_
 obtain ⟨w',hrun,hR⟩:=h o.type
 unfold Oper.wp
 simp [execOp,hop,resolve,invoke,builtin,hm,hx,hrun,Result.andThen]
 exact hK' _ _ (hK w' hR)
theorem wpL_range (hg : o.guard=none) (m : Operand) (t : TypeId) (hop : o.op=Op.range t m) (k e : TypeId) (ht : Tryz.prog.underlying t=some (.map k e)) (b : Nat) (l : List (Value × Value)) (hm : a.eval m=.map (some b)) (h : MapL w k b l)
 (hK : ∀ w',IterL w' k b w.heap.size l l→Below w.heap.size w w'→w'.heap.size=w.heap.size+1→wpList Tryz.prog ops Q rest (a.put o.dst (.pointer (some ⟨w.heap.size,0,none⟩))) w') :
 wpList Tryz.prog ops Q (o::rest) a w:=by
 refine wpList_plain hg fun K' hK'=>?_
 obtain ⟨w',hrun,r1,r2,r3⟩:=h.range ht
 unfold Oper.wp
 simp [execOp,hop,hm,hrun,Result.andThen]
 exact hK' _ _ (hK w' r1 r2 r3)
theorem wpL_next (hg : o.guard=none) (it : Operand) (hop : o.op=Op.next it false) (k : TypeId) (b r : Nat) (l todo : List (Value × Value)) (hit : a.eval it=.pointer (some ⟨r,0,none⟩)) (h : IterL w k b r l todo)
 (hDone : todo=[]→wpList Tryz.prog ops Q rest (a.put o.dst (.tuple #[.bool false])) w)
 (hMore : ∀ (key v : Value) (todo' : List (Value × Value)) (w' : World),todo.Perm ((key,v)::todo')→IterL w' k b r l todo'→w.grownBy w' (some r)→w'.heap.size=w.heap.size →
   (Instr.entry (.pointer (some ⟨r,0,none⟩))).run Tryz.prog w'=.ok (.tuple #[key,v]) w'→wpList Tryz.prog ops Q rest (a.put o.dst (.tuple #[.bool true,key,v])) w') :
 wpList Tryz.prog ops Q (o::rest) a w:=by
 refine wpList_plain hg fun K' hK'=>?_
 unfold Oper.wp
 rcases h.next o.type with ⟨h0,hrun⟩ | ⟨key,v,todo',w',hp,hrun,hI,hg,hs,hen⟩
 · simp [execOp,hop,hit,hrun,Result.andThen]
   exact hK' _ _ (hDone h0)
 · simp [execOp,hop,hit,hrun,Result.andThen]
   exact hK' _ _ (hMore key v todo' w' hp hI hg hs hen)
end
/-! ### sets of refs -/
def SetM (w : World) (b : Nat) (S : List Rf) : Prop:=MapL w 77 b (S.map fun r=>(refV r,.bool true))
theorem zero_bool (w : World) : (zeroValue 4).run Tryz.prog w=.ok (.bool false) w:=by kernel_rfl
theorem SetM.made (w : World) : SetM (w.alloc (.map #[] 0)) w.heap.size []:=MapL.made w _
theorem SetM.nodup {w : World} {b : Nat} {S : List Rf} (h : SetM w b S) : S.Nodup:=by
 have h1:=MapL.apart h
 rw [List.pairwise_map] at h1
 exact h1.imp fun h e=>h (by rw [e])
theorem SetM.look {w : World} {b : Nat} {S : List Rf} (h : SetM w b S) {r : Rf} (hr : I64R r) :
 (Instr.lookup 157 (.map (some b)) (refV r) false).run Tryz.prog w=.ok (.bool (decide (r∈S))) w:=by
 by_cases hm : r∈S
 · rw [decide_eq_true hm]
   exact MapL.hit h keyed_ref Tryz.underlying157 (zero_bool w) (List.mem_map.2 ⟨r,hm,rfl⟩) false
 · rw [decide_eq_false hm]
   obtain ⟨kl,hk⟩:=keyOf_ref hr
   refine MapL.miss h keyed_ref Tryz.underlying157 (zero_bool w) hk (fun p hp e=>?_) false
   obtain ⟨q,hq,rfl⟩:=List.mem_map.1 hp
   exact hm (refV_inj e▸hq)
theorem perm_pick {S : List Rf} {r : Rf} (hm : r∈S) : ∃ S',S.Perm (r::S'):=by
 obtain ⟨a,b,rfl⟩:=List.append_of_mem hm
 exact ⟨a++b,List.perm_middle⟩
theorem SetM.add {w : World} {b : Nat} {S : List Rf} (h : SetM w b S) {r : Rf} (hr : I64R r) (hn : S.length < maxLen) :
 ∃ w',(Instr.mapUpdate 157 (.map (some b)) (refV r) (.bool true)).run Tryz.prog w=.ok () w'∧(∃ S',SetM w' b S'∧(∀ x,x∈S'↔x∈S∨x=r)∧S'.length≤S.length+1)∧w.mapTurned w' b:=by
 by_cases hm : r∈S
 · obtain ⟨S',hp⟩:=perm_pick hm
   obtain ⟨w',h1,h2,h3⟩:=MapL.over (v:=.bool true) (v0:=.bool true) (l':=S'.map fun r=>(refV r,.bool true)) h keyed_ref Tryz.underlying157 (hp.map _)
   refine ⟨w',h1,⟨r::S',h2,fun x=>?_,by rw [hp.length_eq];exact Nat.le_succ _⟩,h3⟩
   rw [hp.mem_iff,List.mem_cons]
   constructor
   · exact Or.inl
   · rintro (h | h)
     · exact h
     · exact Or.inl h
 · obtain ⟨kl,hk⟩:=keyOf_ref hr
   obtain ⟨w',h1,h2,h3⟩:=MapL.store (v:=.bool true) h keyed_ref Tryz.underlying157 (by rw [List.length_map];exact hn) hk (fun p hp e=>by
    obtain ⟨q,hq,rfl⟩:=List.mem_map.1 hp
    exact hm (refV_inj e▸hq))
   refine ⟨w',h1,⟨S++[r],?_,fun x=>by simp,by simp⟩,h3⟩
   have e : (S++[r]).map (fun r=>(refV r,Value.bool true))=S.map (fun r=>(refV r,.bool true))++[(refV r,.bool true)]:=by simp
   unfold SetM;rw [e];exact h2
theorem SetM.perm {w : World} {b : Nat} {S S' : List Rf} (h : SetM w b S) (hp : S.Perm S') : SetM w b S':=MapL.perm h (hp.map _)
theorem SetM.keep {w w' : World} {b : Nat} {S : List Rf} (h : SetM w b S) (hk : w'.heap[b]?=w.heap[b]?) : SetM w' b S:=MapL.keep h hk
def IterS (w : World) (b r : Nat) (S todo : List Rf) : Prop:=IterL w 77 b r (S.map fun r=>(refV r,.bool true)) (todo.map fun r=>(refV r,.bool true))
theorem perm_unmap {α β : Type} (f : α→β) : ∀ {l : List α} {x : β} {m : List β},(l.map f).Perm (x::m)→∃ y l',f y=x∧l.Perm (y::l')∧m.Perm (l'.map f):=by
 intro l x m h
 have hx : x∈l.map f:=h.mem_iff.2 (List.mem_cons_self ..)
 obtain ⟨y,hy,rfl⟩:=List.mem_map.1 hx
 obtain ⟨a,b,rfl⟩:=List.append_of_mem hy
 refine ⟨y,a++b,rfl,List.perm_middle,?_⟩
 have h2 : ((a++y::b).map f).Perm (f y::(a++b).map f):=by
  simp only [List.map_append,List.map_cons]
  exact List.perm_middle
 exact (h2.symm.trans h).symm.cons_inv
theorem IterS.sub {w : World} {b r : Nat} {S todo : List Rf} (h : IterS w b r S todo) : ∀ x∈todo,x∈S:=by
 intro x hx
 have:=IterL.sub h (refV x,.bool true) (List.mem_map.2 ⟨x,hx,rfl⟩)
 obtain ⟨y,hy,e⟩:=List.mem_map.1 this
 have e1 : refV y=refV x:=congrArg Prod.fst e
 exact refV_inj e1▸hy
theorem IterL.perm {w : World} {k : TypeId} {b r : Nat} {l todo todo' : List (Value × Value)} (h : IterL w k b r l todo) (hp : todo.Perm todo') : IterL w k b r l todo':=by
 obtain ⟨es,c,s,sn,c0,h1,h2,h3,h4,h5,h6,h7⟩:=h
 exact ⟨es,c,s,sn,c0,h1,h2,h3,h4,h5,h6.trans hp,h7⟩
section
variable (w : World) {ops : Array Oper} {rest : List Oper} {o : Oper} {a : Act} {Q : Exit→Act→World→Prop}
theorem wpS_next (hg : o.guard=none) (it : Operand) (hop : o.op=Op.next it false) (b r : Nat) (S todo : List Rf) (hit : a.eval it=.pointer (some ⟨r,0,none⟩)) (h : IterS w b r S todo)
 (hDone : todo=[]→wpList Tryz.prog ops Q rest (a.put o.dst (.tuple #[.bool false])) w)
 (hMore : ∀ (x : Rf) (todo' : List Rf) (w' : World),todo.Perm (x::todo')→IterS w' b r S todo'→w.grownBy w' (some r)→w'.heap.size=w.heap.size →
   (Instr.entry (.pointer (some ⟨r,0,none⟩))).run Tryz.prog w'=.ok (.tuple #[.agg #[.int .i64 x.1,.int .i64 x.2],.bool true]) w'→wpList Tryz.prog ops Q rest (a.put o.dst (.tuple #[.bool true,.agg #[.int .i64 x.1,.int .i64 x.2],.bool true])) w') :
 wpList Tryz.prog ops Q (o::rest) a w:=by
 refine wpL_next w hg it hop _ b r _ _ hit h (fun e=>hDone (List.map_eq_nil_iff.1 e)) fun key v todo' w' hp hI hg hs hen=>?_
 obtain ⟨x,t',hx,hp1,hp2⟩:=perm_unmap _ hp
 have e1 : refV x=key:=congrArg Prod.fst hx
 have e2 : Value.bool true=v:=congrArg Prod.snd hx
 subst e1 e2
 exact hMore x t' w' hp1 (hI.perm hp2) hg hs hen
end
end Go.Proofs.YtmpkejflgpodkaaGreatDoor
namespace Go.Proofs.YtmpkejflgpodkaaGreatDoor
open Go.ChangeMaps (setBlock modify_eq_set set_perm map_eraseIdx heap_setBlock_same heap_setBlock_other)
open Go.MapKept Go.WideShapes Go.RowKit
open Go.WideElems (Fit rd rg pl rd_key rd_val rg_of rd_mk other_key)
open Go.Maps (Keyed)
abbrev Wh:=Rf × ByteArray × Rf
structure VD where
 k : Int
 n : Int
 t : ByteArray
 a : Int
 b : Int
def EntL (w : World) (k : TypeId) (b : Nat) (key v0 : Value) (c : Nat) (l' : List (Value × Value)) : Prop :=
 ∃ (es : Array MapEntry) (clock j : Nat) (e0 : MapEntry),w.heap[b]?=some (.map es clock)∧Fit Tryz.prog k heldR es clock∧es.toList[j]?=some e0∧e0.key=key∧e0.val=v0∧e0.born=c∧((ents es).eraseIdx j).Perm l'
section
variable {w : World} {k e t : TypeId} {b c : Nat} {l l' : List (Value × Value)} {key v0 : Value}
theorem EntL.map (h : EntL w k b key v0 c l') : MapL w k b ((key,v0)::l'):=by
 obtain ⟨es,clock,j,e0,hb,F,hj,rfl,rfl,-,hp⟩:=h
 refine ⟨es,clock,hb,F,?_⟩
 have h5 : (ents es)[j]?=some (e0.key,e0.val):=by unfold ents;rw [List.getElem?_map,hj];rfl
 exact (pick_perm _ _ _ h5).trans (hp.cons _)
theorem EntL.lt (h : EntL w k b key v0 c l') : b < w.heap.size:=MapL.lt h.map
theorem EntL.keep {w' : World} (h : EntL w k b key v0 c l') (hk : w'.heap[b]?=w.heap[b]?) : EntL w' k b key v0 c l':=by
 obtain ⟨es,clock,j,e0,hb,h2⟩:=h
 exact ⟨es,clock,j,e0,hk.trans hb,h2⟩
theorem MapL.entry_new (h : MapL w k b l) (K : Keyed Tryz.prog k) (ht : Tryz.prog.underlying t=some (.map k e)) {z : Value} (hz : (zeroValue e).run Tryz.prog w=.ok z w) (hn : l.length < maxLen) {kl : Lit} (hkl : keyOf Tryz.prog k key=some kl) (hm : ∀ p∈l,p.1≠key) :
 ∃ w' c,(Instr.mapEntry t (.map (some b)) key).run Tryz.prog w=.ok (.tuple #[z,.int .i64 (c : Nat)]) w'∧EntL w' k b key z c l∧w.mapTurned w' b:=by
 obtain ⟨es,cl,hb,F,hp⟩:=h
 have hsz : es.size=l.length:=by rw [← hp.length_eq];simp [ents]
 rcases K.find w hkl es.toList F.keys with ⟨h1,h2⟩ | ⟨j,e0,h1,h2,h3⟩
 · refine ⟨setBlock w b (.map (es.push ⟨key,z,cl⟩) (cl+1)),cl,?_,⟨es.push ⟨key,z,cl⟩,cl+1,es.size,⟨key,z,cl⟩,heap_setBlock_same hb _,⟨by simp;omega,stamped_push F.stamped h2,?_⟩,by simp,rfl,rfl,rfl,?_⟩,turned_of hb⟩
   · simp [Instr.mapEntry,run_underlying ht,MapKept.run_getObj_map hb,K.check w false hkl,h1,hz,MapKept.run_setObj_map _ hb,Result.andThen,setBlock,goInt]
   · intro x hx
     simp only [Array.toList_push,List.mem_append,List.mem_singleton] at hx
     rcases hx with hx | rfl
     · exact F.reads x hx
     · exact ⟨_,rd_held hkl⟩
   · unfold ents at hp ⊢
     rw [Array.toList_push,List.map_append,List.eraseIdx_append_of_length_le (by simp)]
     simpa using hp
 · exact absurd h3 (hm (e0.key,e0.val) (hp.mem_iff.1 (List.mem_map.2 ⟨e0,List.mem_of_getElem? h2,rfl⟩)))
theorem MapL.entry_old (h : MapL w k b l) (K : Keyed Tryz.prog k) (ht : Tryz.prog.underlying t=some (.map k e)) (hm : l.Perm ((key,v0)::l')) :
 ∃ w' c,(Instr.mapEntry t (.map (some b)) key).run Tryz.prog w=.ok (.tuple #[v0,.int .i64 (c : Nat)]) w'∧EntL w' k b key v0 c l'∧w.mapTurned w' b:=by
 have h0:=h
 obtain ⟨kl,hkl⟩:=h.keys (key,v0) (hm.mem_iff.2 (by simp))
 obtain ⟨es,cl,hb,F,hp⟩:=h
 rcases K.find w hkl es.toList F.keys with ⟨h1,h2⟩ | ⟨j,e0,h1,h2,h3⟩
 · obtain ⟨x,hx,hx2⟩:=List.mem_map.1 ((hp.trans hm).mem_iff.2 (List.mem_cons_self ..))
   exact absurd (congrArg Prod.fst hx2) (h2 x hx)
 · have hj : es[j]?=some e0:=by simpa using h2
   have hjl : j < es.toList.length:=(List.getElem?_eq_some_iff.1 h2).1
   have he2 : (ents es).Perm ((e0.key,e0.val)::(ents es).eraseIdx j):=pick_perm _ _ _ (by unfold ents;rw [List.getElem?_map,h2];rfl)
   have he3 : (e0.key,e0.val)=(key,v0):=h0.one (hp.mem_iff.1 (he2.mem_iff.2 (List.mem_cons_self ..))) (hm.mem_iff.2 (List.mem_cons_self ..)) h3
   have hv0 : e0.val=v0:=congrArg Prod.snd he3
   have hlist : (es.modify j (fun e'=>{ e' with key:=key })).toList=es.toList.set j { e0 with key:=key }:=by rw [Array.toList_modify,modify_eq_set _ _ _ _ h2]
   have h3' : e0.key=key:=h3
   have hsame : ({ e0 with key:=key } : MapEntry)=e0:=by rw [← h3']
   have hset : es.toList.set j e0=es.toList:=List.ext_getElem? fun i=>by
    rw [List.getElem?_set]
    split
    · rename_i h;subst h;simp [hjl,h2]
    · rfl
   have hes : es.modify j (fun e'=>{ e' with key:=key })=es:=Array.ext' (by rw [hlist,hsame,hset])
   refine ⟨setBlock w b (.map es cl),e0.born,?_,⟨es,cl,j,e0,heap_setBlock_same hb _,F,h2,h3,hv0,rfl,perm_tail ((he2.symm.trans hp).trans hm) he3⟩,turned_of hb⟩
   simp [Instr.mapEntry,run_underlying ht,MapKept.run_getObj_map hb,K.check w false hkl,h1,hj,h3,K.stays w hkl,hes,hv0,MapKept.run_setObj_map _ hb,Result.andThen,setBlock,goInt]
theorem EntL.store (h : EntL w k b key v0 c l') (v : Value) (t : TypeId) :
 ∃ w',(Instr.entryStore t (.map (some b)) (.int .i64 c) v).run Tryz.prog w=.ok () w'∧MapL w' k b ((key,v)::l')∧w.mapTurned w' b:=by
 obtain ⟨es,cl,j,e0,hb,F,h2,rfl,rfl,rfl,hp⟩:=h
 have hjl : j < es.toList.length:=(List.getElem?_eq_some_iff.1 h2).1
 have hfind : es.findIdx? (fun e=>(e.born : Int) == (e0.born : Int))=some j:=by
  have hjs : j < es.size:=by simpa using hjl
  have e0j : es[j]=e0:=by
   have:=h2
   rw [Array.getElem?_toList,Array.getElem?_eq_getElem hjs] at this
   exact Option.some.inj this
  rw [Array.findIdx?_eq_some_iff_getElem]
  refine ⟨hjs,by simp [e0j],fun i hi=>?_⟩
  have hil : i < es.toList.length:=by omega
  have hnb:=F.stamped.2.1
  rw [List.Nodup,List.pairwise_map] at hnb
  have hne:=List.pairwise_iff_getElem.1 hnb i j hil hjl hi
  rw [Array.getElem_toList,Array.getElem_toList,e0j] at hne
  simp only [beq_iff_eq]
  intro e
  exact hne (by omega)
 have hlist : (es.modify j (fun e'=>{ e' with val:=v })).toList=es.toList.set j { e0 with val:=v }:=by rw [Array.toList_modify,modify_eq_set _ _ _ _ h2]
 obtain ⟨y,hy⟩:=F.reads e0 (List.mem_of_getElem? h2)
 obtain ⟨kl,hkl⟩:=F.keys e0 (List.mem_of_getElem? h2)
 refine ⟨setBlock w b (.map (es.modify j (fun e'=>{ e' with val:=v })) cl),?_,⟨es.modify j (fun e'=>{ e' with val:=v }),cl,heap_setBlock_same hb _,⟨by simpa using F.size,stamped_modify F.stamped _ _ (fun _ _=>rfl) (fun _ _ _=>rfl),?_⟩,?_⟩,turned_of hb⟩
 · simp [Instr.entryStore,MapKept.run_getObj_map hb,asInt,asIntOf,hfind,MapKept.run_setObj_map _ hb,Result.andThen,setBlock]
 · intro x hx
   rw [hlist] at hx
   rcases List.mem_or_eq_of_mem_set hx with hx | rfl
   · exact F.reads x hx
   · exact ⟨_,rd_held (x:={ e0 with val:=v }) hkl⟩
 · unfold ents at hp ⊢
   rw [hlist,List.map_set]
   have e1 : ((es.toList.map fun e=>(e.key,e.val)).set j (e0.key,v)).Perm ((e0.key,v)::(es.toList.map fun e=>(e.key,e.val)).eraseIdx j):=set_perm _ _ (by simpa using hjl) _
   exact e1.trans (hp.cons _)
end
end Go.Proofs.YtmpkejflgpodkaaGreatDoor
namespace Go.Proofs.YtmpkejflgpodkaaGreatDoor
open Go.ChangeShapes Go.WideShapes Go.ChangeAt Go.RowKit
open Go.Maps (Keyed)
theorem keyed_where : Keyed Tryz.prog 126 :=
 Keyed.of_law (deep_law_laid laidOut (m:=4) (by omega) (of_decide_eq_true (by kernel_rfl)) (by kernel_rfl) (by rw [Tryz.underlying126]))
def whV (x : Wh) : Value:=.agg #[.int .i64 x.1.1,.int .i64 x.1.2,.string x.2.1,.int .i64 x.2.2.1,.int .i64 x.2.2.2]
theorem whV_inj {x y : Wh} (h : whV x=whV y) : x=y:=by
 obtain ⟨⟨a,b⟩,k,c,d⟩:=x
 obtain ⟨⟨a',b'⟩,k',c',d'⟩:=y
 simp only [whV,Value.agg.injEq,Array.mk.injEq,List.cons.injEq,Value.int.injEq,Value.string.injEq,and_true,true_and] at h
 obtain ⟨h1,h2,h3,h4,h5⟩:=h
 subst h1 h2 h3 h4 h5
 rfl
theorem keyOf_where {x : Wh} (h1 : I64R x.1) (h2 : I64R x.2.2) (h3 : x.2.1.size≤maxLen) : ∃ kl,keyOf Tryz.prog 126 (whV x)=some kl:=by
 have hk : Tryz.prog.keyType 126=true:=by kernel_rfl
 have hc : Tryz.prog.cellsOf 126=5:=by kernel_rfl
 have hid : Tryz.prog.cellsOf 24=2:=by kernel_rfl
 have hi : Tryz.prog.cellsOf 3=1:=by kernel_rfl
 have hs : Tryz.prog.cellsOf 9=1:=by kernel_rfl
 have hf : (whV x).formed Tryz.prog 126=true:=by simp [whV,Value.formed,Tryz.underlying126,hc]
 obtain ⟨d,hd⟩ : ∃ d,Tryz.prog.types.size=d+2:=⟨Tryz.prog.types.size - 2,by have : 1 < Tryz.prog.types.size:=of_decide_eq_true (by kernel_rfl);omega⟩
 unfold keyOf
 rw [Tryz.underlying126]
 simp only [hk,hf,Bool.and_true,if_true,hd]
 have hI : ∀ a b : Int,(Lit.int .i64 a).wf=true→(Lit.int .i64 b).wf=true→Tryz.prog.keyLits (d+2) 24 [.int .i64 a,.int .i64 b]=some [.int .i64 a,.int .i64 b]:=fun a b wa wb=>by
  unfold Program.keyLits
  rw [Tryz.underlying24]
  simp [hid,hi,Program.keyLits,Tryz.underlying3,wa,wb]
 have hS : ∀ k : ByteArray,k.size≤maxLen→Tryz.prog.keyLits (d+2) 9 [.string k]=some [.string k.data.toList]:=fun k hk=>by
  unfold Program.keyLits
  rw [Tryz.underlying9]
  simp [hk]
 have e : ∃ ls,Tryz.prog.keyLits (d+2+1) 126 (whV x).cells.toList=some ls:=by
  unfold Program.keyLits
  rw [Tryz.underlying126]
  simp [whV,Value.cells,hc,hid,hs,hI _ _ (wf64 h1.1) (wf64 h1.2),hI _ _ (wf64 h2.1) (wf64 h2.2),hS _ h3]
 obtain ⟨ls,e⟩:=e
 exact ⟨_,by rw [e];rfl⟩
end Go.Proofs.YtmpkejflgpodkaaGreatDoor
namespace Go.Proofs.YtmpkejflgpodkaaGreatDoor
open Go.ChangeShapes Go.WideShapes Go.ChangeAt Go.RowKit
def cmpI (a b : Int) : Int:=if a < b then -1 else if b < a then 1 else 0
theorem cmpI_lt {a b : Int} (h : a < b) : -1=cmpI a b:=by simp [cmpI,h]
theorem cmpI_gt {a b : Int} (h : b < a) : 1=cmpI a b:=by rw [cmpI,if_neg (by omega),if_pos h]
theorem cmpI_eq {a b : Int} (h1 : ¬ a < b) (h : ¬ b < a) : 0=cmpI a b:=by rw [cmpI,if_neg h1,if_neg h]
set_option maxHeartbeats 400000 in
theorem cmpInt_any (a b : Int) (w : World) :
 Calls Tryz.prog 70 #[.int .i64 a,.int .i64 b] w fun e w'=>e=.returned (.int .i64 (cmpI a b))∧w=w':=by
 by_cases h1 : a < b
 · go_enter Tryz.func70,Tryz.ntmps70
   go_wp2
   go_ret
   exact ⟨ret_int (cmpI_lt h1),rfl⟩
 · by_cases h2 : b < a
   · go_enter Tryz.func70,Tryz.ntmps70
     go_wp2
     go_ret
     exact ⟨ret_int (cmpI_gt h2),rfl⟩
   · go_enter Tryz.func70,Tryz.ntmps70
     go_wp2
     go_ret
     exact ⟨ret_int (cmpI_eq (by omega) (by omega)),rfl⟩
def firstNZ : List Int→Int
 | []=>0
 | x::l=>if x=0 then firstNZ l else x
theorem firstNZ_at : ∀ (l : List Int) (k : Nat) (x : Int),(∀ j,j < k→l.getD j 0=0)→l[k]?=some x→x≠0→firstNZ l=x
 | [],_,_,_,h,_=>by simp at h
 | y::l,0,x,_,h,hx=>by
   simp at h;subst h;simp [firstNZ,hx]
 | y::l,k+1,x,h0,h,hx=>by
   have hy : y=0:=h0 0 (by omega)
   subst hy
   simp only [firstNZ,if_true]
   exact firstNZ_at l k x (fun j hj=>by simpa using h0 (j+1) (by omega)) (by simpa using h) hx
theorem firstNZ_none : ∀ (l : List Int),(∀ j,j < l.length→l.getD j 0=0)→firstNZ l=0
 | [],_=>rfl
 | y::l,h0=>by
   have hy : y=0:=h0 0 (by simp)
   subst hy
   simp only [firstNZ,if_true]
   exact firstNZ_none l (fun j hj=>by simpa using h0 (j+1) (by simpa using hj))
set_option maxHeartbeats 400000 in
theorem or_any (xs : List Int) (n : Nat) (hn : n=xs.length) (b : Nat) (w : World) (hlen : n≤1000000)
 (hc : ∀ (k : Nat) (x : Int),xs[k]?=some x→w.cell? ⟨b,k,none⟩=some (.int .i64 x)) :
 Calls Tryz.prog 69 #[.slice (some ⟨b,0,none⟩) n n] w fun e w'=>e=.returned (.int .i64 (firstNZ xs))∧w=w':=by
 have HN:=Lib.hid hn
 have HC:=Lib.hid hc
 clear hn hc
 go_enter Tryz.func69,Tryz.ntmps69
 go_wp2
 go_loop [5,8] (fun _ i=>∃ k : Nat,k≤n∧i=.int .i64 k∧∀ j,j < k→xs.getD j 0=0) (fun _ i=>n - (intOf i).toNat)
 case atStart=>exact ⟨0,by omega,rfl,fun j hj=>absurd hj (by omega)⟩
 case round =>
  obtain ⟨k,hk,rfl,hz⟩:=hrel
  have HZ:=Lib.hid hz
  clear hz
  by_cases hlt : k < n
  · obtain ⟨x,hx⟩ : ∃ x,xs[k]?=some x:=by have:=HN.out;exact ⟨xs[k],List.getElem?_eq_getElem (by omega)⟩
    have HX:=Lib.hid hx
    have hcell:=HC.out k x hx
    clear hx
    by_cases h0 : x=0
    · subst h0
      go_wp2
      go_round
      case rel=>exact ⟨k+1,by omega,by go_num,fun j hj=>by
       by_cases e : j=k
       · subst e;rw [List.getD_eq_getElem?_getD,HX.out];rfl
       · exact HZ.out j (by omega)⟩
      case measure=>simp [intOf];omega
    · have hb : (x != 0)=true:=by simpa using h0
      have H0:=Lib.hid h0
      clear h0
      go_wp2
      go_ret
      exact ⟨ret_int (firstNZ_at xs k x HZ.out HX.out H0.out).symm,rfl⟩
  · go_wp2
    go_ret
    exact ⟨ret_int (firstNZ_none xs (fun j hj=>HZ.out j (by have:=HN.out;omega))).symm,rfl⟩
def cmp2 (a b c d : Int) : Int:=firstNZ [cmpI a c,cmpI b d]
theorem or2_any (x y : Int) (b : Nat) (w : World) (h0 : w.cell? ⟨b,0,none⟩=some (.int .i64 x)) (h1 : w.cell? ⟨b,1,none⟩=some (.int .i64 y)) :
 Calls Tryz.prog 69 #[.slice (some ⟨b,0,none⟩) 2 2] w fun e w'=>e=.returned (.int .i64 (firstNZ [x,y]))∧w=w' :=
 or_any [x,y] 2 rfl b w (by omega) fun k u hk=>by
  match k,hk with
  | 0,hk=>simp at hk;subst hk;exact h0
  | 1,hk=>simp at hk;subst hk;exact h1
  | k+2,hk=>simp at hk
set_option maxHeartbeats 1600000 in
theorem idCompare_any (a b c d : Int) (w : World) :
 Calls Tryz.prog 44 #[.agg #[.int .i64 a,.int .i64 b],.agg #[.int .i64 c,.int .i64 d]] w fun e w'=>e=.returned (.int .i64 (cmp2 a b c d))∧Below w.heap.size w w':=by
 go_enter Tryz.func44,Tryz.ntmps44
 go_wp2
 go_region_held3 (fun w'=>w'.cell? ⟨w.heap.size,0,none⟩=some (.int .i64 a)∧w'.cell? ⟨w.heap.size,1,none⟩=some (.int .i64 b)∧w'.cell? ⟨w.heap.size+1,0,none⟩=some (.int .i64 c)∧w'.cell? ⟨w.heap.size+1,1,none⟩=some (.int .i64 d)) (go_keep)
  (first | (go_at_call 70;refine (cmpInt_any _ _ _).mono ?_;rintro e w' ⟨rfl,rfl⟩) | (go_at_call 69;refine (or2_any (cmpI a c) (cmpI b d) _ _ ?_ ?_).mono ?_;(go_simp);(go_simp);rintro e w' ⟨rfl,rfl⟩))
 go_wp2
 go_ret
 exact ⟨rfl,((((Below.refl _ _).alloc (Nat.le_refl _) _).alloc (by simp) _).alloc (by simp;omega) _).drew⟩
end Go.Proofs.YtmpkejflgpodkaaGreatDoor
namespace Go.Proofs.YtmpkejflgpodkaaGreatDoor
structure TotC {α : Type} (c : α→α→Int) : Prop where
 neg : ∀ a b,c a b=- c b a
 tr : ∀ a b d,c a b≤0→c b d≤0→c a d≤0
theorem TotC.const {α : Type} : TotC fun (_ _ : α)=>(0 : Int):=⟨fun _ _=>rfl,fun _ _ _ _ _=>Int.le_refl 0⟩
theorem firstNZ_cons (x : Int) (l : List Int) : firstNZ (x::l)=if x=0 then firstNZ l else x:=rfl
structure V5 where
 k : Int
 n : Int
 t : List UInt8
 a : Int
 b : Int
end Go.Proofs.YtmpkejflgpodkaaGreatDoor
namespace Go.Proofs.YtmpkejflgpodkaaGreatDoor
open Go.ChangeShapes Go.WideShapes Go.ChangeAt Go.RowKit
def loB (n : Nat) : UInt8:=UInt8.ofNat (n % 128+128)
theorem loB_toNat (n : Nat) : (loB n).toNat=n % 128+128:=ofNat_toNat (by omega)
def PutAt (n f cur : Nat) (pre : List UInt8) : Prop:=cur < 128 ^ (f+1)∧cur < 2 ^ 64∧putN n=pre++putF f cur∧pre.length+f≤9
theorem PutAt.start {n : Nat} (h : n < 2 ^ 64) : PutAt n 9 n []:=⟨by omega,h,rfl,by simp⟩
theorem PutAt.last {n f cur : Nat} {pre : List UInt8} (h : PutAt n f cur pre) (hc : cur < 128) : putN n=pre++[UInt8.ofNat cur]:=by rw [h.2.2.1,putF_small hc]
theorem PutAt.step {n f cur : Nat} {pre : List UInt8} (h : PutAt n f cur pre) (hc : ¬ cur < 128) : ∃ f',PutAt n f' (cur / 128) (pre++[loB cur]):=by
 obtain ⟨h1,h2,h3,h4⟩:=h
 obtain _ | f:=f
 · simp at h1;omega
 · refine ⟨f,?_,by omega,by rw [h3,putF_big hc,List.append_assoc];rfl,by simp;omega⟩
   rw [Nat.pow_succ] at h1
   exact Nat.div_lt_of_lt_mul (by rw [Nat.mul_comm];exact h1)
theorem PutAt.len {n f cur : Nat} {pre : List UInt8} (h : PutAt n f cur pre) : pre.length≤9:=by have:=h.2.2.2;omega
theorem PutAt.lt {n f cur : Nat} {pre : List UInt8} (h : PutAt n f cur pre) : cur < 2 ^ 64:=h.2.1
theorem u64_keep {m : Nat} (h : m < 18446744073709551616) : IntKind.u64.wrap (m : Int)=(m : Int):=by
 simp [IntKind.wrap,IntKind.bits,IntKind.signed];omega
def GetAt (l : List UInt8) (k acc : Nat) : Prop:=getN l=getG k acc (l.drop k)∧acc < 2 ^ (7*k)∧k≤10
theorem GetAt.start (l : List UInt8) : GetAt l 0 0:=⟨rfl,by simp,by omega⟩
section
variable {l : List UInt8} {k acc cc m p q : Nat}
theorem GetAt.open_ (h : GetAt l k acc) (hlt : k < l.length) (hcc : l[k].toNat=cc) : getN l=if k=9∧1 < cc∨9 < k then none
 else if cc < 128 then (if cc=0∧0 < k then none else some (acc+cc % 128*2 ^ (7*k),k+1))
 else getG (k+1) (acc+cc % 128*2 ^ (7*k)) (l.drop (k+1)):=by
 rw [h.1,List.drop_eq_getElem_cons hlt]
 simp only [getG,hcc]
theorem GetAt.bad (h : GetAt l k acc) (hlt : k < l.length) (hcc : l[k].toNat=cc) (hb : k=9∧1 < cc∨9 < k) : getN l=none:=by
 rw [h.open_ hlt hcc,if_pos hb]
theorem GetAt.fin (h : GetAt l k acc) (hlt : ¬ k < l.length) : getN l=none:=by
 rw [h.1,List.drop_eq_nil_of_le (by omega)]
 rfl
theorem GetAt.zero (h : GetAt l k acc) (hlt : k < l.length) (hcc : l[k].toNat=cc) (hz : cc=0) (hk : 0 < k) (hb : ¬ (k=9∧1 < cc∨9 < k)) : getN l=none:=by
 rw [h.open_ hlt hcc,if_neg hb,if_pos (by omega),if_pos ⟨hz,hk⟩]
theorem GetAt.last (h : GetAt l k acc) (hlt : k < l.length) (hcc : l[k].toNat=cc) (h128 : cc < 128) (hb : ¬ (k=9∧1 < cc∨9 < k)) (hz : ¬ (cc=0∧0 < k))
 (hm : Hid (m=cc % 128)) (hp : Hid (p=m*2 ^ (7*k))) (hq : Hid (q=acc+p)) : getN l=some (q,k+1):=by
 rw [h.open_ hlt hcc,if_neg hb,if_pos h128,if_neg hz,hq.out,hp.out,hm.out]
theorem GetAt.bd (h : GetAt l k acc) (hp : p=m*2 ^ (7*k)) (hm : m < 128) (h9 : k < 9∨k=9∧m≤1) : p < 2 ^ 64∧acc < 2 ^ 64∧p % 2 ^ (7*k)=0:=by
 have h1:=h.2.1
 subst hp
 have hmod : m*2 ^ (7*k) % 2 ^ (7*k)=0:=Nat.mul_mod_left _ _
 rcases h9 with h9 | ⟨h9,hm1⟩
 · have hb : m*2 ^ (7*k)≤127*2 ^ (7*k):=Nat.mul_le_mul_right _ (by omega)
   have hk : 2 ^ (7*k)≤2 ^ 56:=Nat.pow_le_pow_right (by omega) (by omega)
   exact ⟨by omega,by omega,hmod⟩
 · subst h9
   have hb : m*2 ^ (7*9)≤1*2 ^ (7*9):=Nat.mul_le_mul_right _ hm1
   exact ⟨by omega,by omega,hmod⟩
theorem GetAt.e3 (h : GetAt l k acc) (hp : p=m*2 ^ (7*k)) (hm : m < 128) (h9 : k < 9∨k=9∧m≤1) : IntKind.u64.wrap ((m : Int)*2 ^ (7*k))=(p : Int):=by
 have hb:=h.bd hp hm h9
 rw [show ((m : Int)*2 ^ (7*k))=(p : Int) by rw [hp];simp]
 exact u64_keep (by omega)
theorem GetAt.e4 (h : GetAt l k acc) (hp : p=m*2 ^ (7*k)) (hq : q=acc+p) (hm : m < 128) (h9 : k < 9∨k=9∧m≤1) : bits .or .u64 (acc : Int) (p : Int)=(q : Int):=by
 have hb:=h.bd hp hm h9
 rw [u64_or_nat _ _ (by omega) (by omega),hq,Nat.or_comm,nat_join (7*k) p acc hb.2.2 h.2.1,Nat.add_comm]
theorem GetAt.step (h : GetAt l k acc) (hlt : k < l.length) (hcc : l[k].toNat=cc) (h128 : ¬ cc < 128) (hb : ¬ (k=9∧1 < cc∨9 < k))
 (hm : Hid (m=cc % 128)) (hp : Hid (p=m*2 ^ (7*k))) (hq : Hid (q=acc+p)) : GetAt l (k+1) q:=by
 have h1:=h.2.1
 refine ⟨?_,?_,by omega⟩
 · rw [h.open_ hlt hcc,if_neg hb,if_neg h128,hq.out,hp.out,hm.out]
 · have hp2 : 2 ^ (7*(k+1))=128*2 ^ (7*k):=by rw [Nat.mul_add,Nat.pow_add];omega
   have hle : m*2 ^ (7*k)≤127*2 ^ (7*k):=Nat.mul_le_mul_right _ (by have:=hm.out;omega)
   have:=hp.out;have:=hq.out
   omega
end
end Go.Proofs.YtmpkejflgpodkaaGreatDoor
namespace Go.Proofs.YtmpkejflgpodkaaGreatDoor
open Go.ChangeShapes Go.WideShapes Go.ChangeAt Go.RowKit
theorem wrap_u64 (n : Int) : IntKind.u64.wrap n=n % 18446744073709551616:=by simp [IntKind.wrap,IntKind.bits,IntKind.signed]
theorem wrap_i64 (n : Int) : wrap64 n=(n+9223372036854775808) % 18446744073709551616 - 9223372036854775808:=by
 unfold wrap64;omega
end Go.Proofs.YtmpkejflgpodkaaGreatDoor
namespace Go.Proofs.YtmpkejflgpodkaaGreatDoor
open Go.ChangeShapes Go.WideShapes Go.ChangeAt Go.RowKit
set_option maxHeartbeats 1000000 in
theorem putR_any (n : Nat) (hn : Hid (n < 2 ^ 64)) (w : World) :
 Calls Tryz.prog 159 #[.int .u64 n] w fun e w'=>∃ v,e=.returned v∧w'.ownsRow w.heap.size 5 1 v (putN n).length (bytesC (putN n))∧Below w.heap.size w w':=by
 obtain ⟨i0,hi,hz0,hz1,hz2⟩:=info_parts infoByte
 go_enter Tryz.func159,Tryz.ntmps159
 go_wp2
 go_loopw [0,3] (fun s0 v wr=>∃ (f cur : Nat) (pre : List UInt8),s0=.int .u64 cur∧Hid (PutAt n f cur pre) ∧
  wr.ownsRow w.heap.size 5 1 v pre.length (bytesC pre)∧Below w.heap.size w wr) (fun s0 _ _=>(intOf s0).toNat)
 case atStart=>exact ⟨9,n,[],rfl,PutAt.start hn.out,own_nil _ _ _ _,Below.refl _ _⟩
 obtain ⟨f,cur,pre,rfl,hpa,hown,hb⟩:=hrel
 have hlen:=hpa.out.len
 by_cases hlt : cur < 128
 · have hd : decide ((127 : Int) < (cur : Int))=false:=by simp;omega
   have hc8 : (cur : Int) % 256=(cur : Int):=by omega
   have HL:=Lib.hid (hpa.out.last hlt)
   go_wp2_with (at_builtin;refine wpList_append_any _ rfl (.tmp 15) (.tmp 18) _ rfl (w.heap.size) 5 i0 _ 1 1 Tryz.underlying141 hi hz0 hz1 hz2 rfl (by omega) (u3) (pre.length) (bytesC pre) rfl (hown.alloc _) _ (some ⟨wr.heap.size,0,none⟩) (1) (1) (bytesC [UInt8.ofNat cur]) rfl (reads_new _ _ _ _ (by rw [ofNat_toNat (by omega)]) _ rfl) (bytesC_one _) ?c1 ?c2 ?c3 ?_)
   try case c1=>simp only [maxLen];omega
   try case c2=>omega
   try case c3=>have:=hb.size;simp;omega
   intro v1 w1 hown1 hg1 hat1
   have hb1 : Below w.heap.size w w1:=(hb.alloc hb.size _).grown hg1 (by have:=hb.size;simp;omega) (fun g hg=>(own_lt hown hg).1)
   go_wp2
   go_ret
   exact ⟨_,rfl,by rw [HL.out,List.length_append,bytesC_append];exact hown1,hb1⟩
 · have hd : decide ((127 : Int) < (cur : Int))=true:=by simp;omega
   obtain ⟨m,hm⟩ : ∃ m,m=cur % 128:=⟨_,rfl⟩
   obtain ⟨q,hq⟩ : ∃ q,q=cur / 128:=⟨_,rfl⟩
   have hm1 : (cur : Int).tmod 128=(m : Int):=by rw [Int.tmod_eq_emod_of_nonneg (by omega)];omega
   have hm2 : (cur : Int) % 128=(m : Int):=by omega
   have hq1 : (cur : Int).tdiv 128=(q : Int):=by rw [Int.tdiv_eq_ediv_of_nonneg (by omega)];omega
   have hq2 : (cur : Int) / 128=(q : Int):=by omega
   have hm8 : m < 128:=by omega
   have HX : Hid ((m : Int)+128=((loB cur).toNat : Int)):=by show _=_;rw [loB_toNat];omega
   obtain ⟨f',hp'⟩:=hpa.out.step hlt
   rw [← hq] at hp'
   have HP:=Lib.hid hp'
   have hqc : q < cur:=by omega
   have hq3 : IntKind.u64.wrap (q : Int)=(q : Int):=u64_keep (by have:=hpa.out.lt;omega)
   clear hm hq hp'
   go_wp2_with (at_builtin;refine wpList_append_any _ rfl (.tmp 6) (.tmp 11) _ rfl (w.heap.size) 5 i0 _ 1 1 Tryz.underlying141 hi hz0 hz1 hz2 rfl (by omega) (u3) (pre.length) (bytesC pre) rfl (hown.alloc _) _ (some ⟨wr.heap.size,0,none⟩) (1) (1) (bytesC [loB cur]) rfl (reads_new _ _ _ _ HX.out _ rfl) (bytesC_one _) ?c1 ?c2 ?c3 ?_)
   try case c1=>simp only [maxLen];omega
   try case c2=>omega
   try case c3=>have:=hb.size;simp;omega
   intro v1 w1 hown1 hg1 hat1
   have hb1 : Below w.heap.size w w1:=(hb.alloc hb.size _).grown hg1 (by have:=hb.size;simp;omega) (fun g hg=>(own_lt hown hg).1)
   go_wp2
   exact ⟨⟨f',q,pre++[loB cur],rfl,HP,by rw [List.length_append,bytesC_append];exact hown1,hb1⟩,by simp [intOf];omega⟩
set_option maxHeartbeats 1000000 in
theorem putSR_any (n : Int) (hn : (Lit.int .i64 n).wf=true) (w : World) :
 Calls Tryz.prog 123 #[.int .i64 n] w fun e w'=>∃ v,e=.returned v∧w'.ownsRow w.heap.size 5 1 v (putS n).length (bytesC (putS n))∧Below w.heap.size w w':=by
 have hb:=bounds_i64 hn
 have HL : Hid (zz n < 2 ^ 64):=zz_lt hb
 by_cases h0 : n < 0
 · have HZ : Hid (IntKind.u64.wrap (IntKind.u64.wrap (IntKind.u64.wrap (wrap64 (-wrap64 (n+1)))*2)+1)=((zz n : Nat) : Int)):=by
    show _=_
    rw [wrap_u64,wrap_u64,wrap_u64,wrap_i64,wrap_i64]
    unfold zz
    split <;> omega
   have hd : decide (n < 0)=true:=by simpa using h0
   clear hn hb h0
   go_enter Tryz.func123,Tryz.ntmps123
   go_wp2_with fail
   rw [HZ.out]
   refine (putR_any (zz n) HL w).mono ?_
   rintro e w1 ⟨v,rfl,ho,hb⟩
   go_wp2
   go_ret
   exact ⟨v,rfl,ho,hb⟩
 · have HZ : Hid (IntKind.u64.wrap (IntKind.u64.wrap n*2)=((zz n : Nat) : Int)):=by
    show _=_
    rw [wrap_u64,wrap_u64]
    unfold zz
    split <;> omega
   have hd : decide (n < 0)=false:=by simpa using h0
   clear hn hb
   go_enter Tryz.func123,Tryz.ntmps123
   go_wp2_with fail
   rw [HZ.out]
   refine (putR_any (zz n) HL w).mono ?_
   rintro e w1 ⟨v,rfl,ho,hb⟩
   go_wp2
   go_ret
   exact ⟨v,rfl,ho,hb⟩
end Go.Proofs.YtmpkejflgpodkaaGreatDoor
namespace Go.Proofs.YtmpkejflgpodkaaGreatDoor
open Go.ChangeShapes Go.WideShapes Go.ChangeAt Go.RowKit
theorem intsC_at_ {l : List Int} {k : Nat} {x : Int} (h : l[k]?=some x) : (intsC l)[k]?=some (.int .i64 x):=by simp [intsC,h]
def numsL (l : List Int) : List UInt8:=l.flatMap fun x=>putN x.toNat
theorem numsL_len : ∀ (l : List Int),(numsL l).length≤10*l.length
 | []=>by simp [numsL]
 | x::l=>by
   have:=numsL_len l
   have h:=(putN_length x.toNat).2
   simp only [numsL,List.flatMap_cons,List.length_append,List.length_cons] at this ⊢
   omega
theorem numsL_append (a b : List Int) : numsL (a++b)=numsL a++numsL b:=by simp [numsL]
theorem numsL_take {l : List Int} {k : Nat} {x : Int} (h : l[k]?=some x) : numsL (l.take (k+1))=numsL (l.take k)++putN x.toNat:=by
 rw [List.take_add_one,h,numsL_append];simp [numsL]
theorem u64_nat {x : Int} (h0 : 0≤x) (h1 : x≤9223372036854775807) : IntKind.u64.wrap x=((x.toNat : Nat) : Int):=by
 rw [wrap_u64];omega
theorem Evo.of_append' {w w' : World} {o o' : Option Nat} (h : w.grownBy w' o) (ho : o'=o∨o'=some w.heap.size) : Evo w o w' o':=Evo.of_append h ho
set_option maxHeartbeats 4000000 in
theorem refNums_any (xs : List Int) (pre : List UInt8) (v : Value) (base : Nat) (D : Nat→Prop) (A : Option Addr) (n c : Nat) (w : World)
 (hown : w.ownsRow base 5 1 v pre.length (bytesC pre)) (hbase : base≤w.heap.size) (hr : Reads D w 1 A n (intsC xs)) (hD : ∀ k,D k→k < w.heap.size∧v.ownBlock≠some k)
 (hn : xs.length=n) (hn1 : n≤100) (hp : pre.length≤1000000) (hx : ∀ x∈xs,0≤x∧x≤9223372036854775807) :
 Calls Tryz.prog 122 #[v,.slice A n c] w fun e w'=>∃ v',e=.returned v'∧w'.ownsRow base 5 1 v' (pre++numsL xs).length (bytesC (pre++numsL xs))∧Evo w v.ownBlock w' v'.ownBlock:=by
 obtain ⟨i0,hi,hz0,hz1,hz2⟩:=info_parts infoByte
 have HR:=Lib.hid hr
 have HD:=Lib.hid hD
 have HN:=Lib.hid hn
 have HX:=Lib.hid hx
 have HP:=Lib.hid hp
 clear hr hD hn hx hp
 go_enter Tryz.func122,Tryz.ntmps122
 go_wp2_with fail
 go_loopw [0,5] (fun s0 s5 wr=>∃ k : Nat,k≤n∧s5=.int .i64 k∧wr.ownsRow base 5 1 s0 (pre++numsL (xs.take k)).length (bytesC (pre++numsL (xs.take k)))∧Hid (Evo w v.ownBlock wr s0.ownBlock)) (fun _ s5 _=>n - (intOf s5).toNat)
 case atStart=>exact ⟨0,by omega,rfl,by simpa [numsL] using hown,Evo.refl _ _⟩
 case round =>
  clear hown
  obtain ⟨k,hk,rfl,hown,HE⟩:=hrel
  by_cases hlt : k < n
  · obtain ⟨x,hx⟩ : ∃ x,xs[k]?=some x:=get_lt (by rw [HN.out];exact hlt)
    obtain ⟨b,off,hA,hb,hcell⟩:=HR.out.at_ (by omega) (by omega)
    subst hA
    have hxb:=HX.out x (List.mem_of_getElem? hx)
    have hcx : wr.cell? ⟨b,off+k,none⟩=some (.int .i64 x):=by
     rw [HE.out.cell (p:=⟨b,off+k,none⟩) (HD.out b hb).1 (HD.out b hb).2]
     exact hcell k _ (intsC_at_ hx)
    have hu:=u64_nat hxb.1 hxb.2
    have hlen:=numsL_len (xs.take k)
    have hst : Hid (pre++numsL (xs.take (k+1))=(pre++numsL (xs.take k))++putN x.toNat):=by show _=_;rw [numsL_take hx,List.append_assoc]
    have hpl : (pre++numsL (xs.take k)).length≤1001000:=by
     have:=HP.out
     simp only [List.length_append,List.length_take] at hlen ⊢
     omega
    have HQ : Hid (x.toNat < 2 ^ 64):=by show _ < _;omega
    generalize pre++numsL (xs.take k)=acc at hown hst hpl
    generalize x.toNat=q at hu hst HQ
    clear hx hxb hlen
    go_wp2_with fail
    refine (putR_any q HQ wr).mono ?_
    rintro e w3 ⟨v3,rfl,ho3,hb3⟩
    obtain ⟨A3,c3,hv3,_,_,hr3⟩:=Reads.of_own ho3
    subst hv3
    have HE3 : Hid (Evo w v.ownBlock w3 u0.ownBlock):=HE.out.trans (Evo.of_below hb3)
    have hown3:=own_keep hown fun g hg=>hb3.block g (own_lt hown hg).2
    have hpn:=(putN_length q).2
    have HR3:=Lib.hid hr3
    have hs3 : base≤w3.heap.size:=Nat.le_trans hbase HE3.out.size
    clear ho3 hb3 hr3 hcx
    go_wp2_with (at_builtin;refine wpList_append_any _ rfl (.tmp 12) (.tmp 18) _ rfl (base) 5 i0 _ 1 1 Tryz.underlying141 hi hz0 hz1 hz2 rfl (by omega) (u0) (acc.length) (bytesC acc) rfl (hown3) _ (A3) ((putN q).length) (c3) (bytesC (putN q)) rfl (HR3.out) (bytesC_one _) ?c1 ?c2 ?c3 ?_)
    try case c1=>simp only [maxLen];omega
    try case c2=>omega
    try case c3=>exact hs3
    intro v4 w4 ho4 hg4 hat4
    have HE4 : Hid (Evo w v.ownBlock w4 v4.ownBlock):=HE3.out.trans (Evo.of_append' hg4 hat4)
    rw [← bytesC_append] at ho4
    clear hown3 hg4 hat4 HR3 hs3
    go_wp2_with fail
    first
     | exact ⟨⟨k+1,by omega,by go_num,by rw [hst.out];simpa using ho4,HE4⟩,by simp [intOf];omega⟩
     | (go_roundw
        case rel=>exact ⟨k+1,by omega,by go_num,by rw [hst.out];simpa using ho4,HE4⟩
        case measure=>simp [intOf];omega)
  · have hkn : k=n:=by omega
    have HF : Hid (xs.take k=xs):=by show _=_;exact List.take_of_length_le (by rw [HN.out];omega)
    rw [HF.out] at hown
    clear hkn
    go_wp2_with fail
    go_ret
    exact ⟨_,rfl,hown,HE.out⟩
end Go.Proofs.YtmpkejflgpodkaaGreatDoor
namespace Go.Proofs.YtmpkejflgpodkaaGreatDoor
open Go.ChangeShapes Go.WideShapes Go.ChangeAt Go.RowKit
section
variable {P : Program} (w : World)
theorem run_firstCells_str (S : ByteArray) : (Builtin.firstCells 1 S.size (.string S)).run P w=.ok (bytesC S.data.toList).toArray w:=by
 have hx : (Array.map (fun b : UInt8=>Value.int IntKind.u8 (b.toNat : Int)) S.data).extract 0 S.size=Array.map (fun b : UInt8=>Value.int IntKind.u8 (b.toNat : Int)) S.data:=by
  have hs : S.size=(Array.map (fun b : UInt8=>Value.int IntKind.u8 (b.toNat : Int)) S.data).size:=by rw [Array.size_map];rfl
  rw [hs,Array.extract_size]
 have e : (bytesC S.data.toList).toArray=Array.map (fun b : UInt8=>Value.int IntKind.u8 (b.toNat : Int)) S.data:=by
  apply Array.ext'
  simp [bytesC]
 rw [e]
 simp [Builtin.firstCells,hx]
theorem str_len (S : ByteArray) : (bytesC S.data.toList).length=S.size:=by
 rw [bytesC_length,ByteArray.size,Array.length_toList]
theorem run_append_str (base : Nat) (t u ty e : TypeId) (i : TypeInfo) (z : Value) (bytes : Nat) (ht : P.underlying t=some (.slice e)) (hu : P.underlying u=some .string) (hi : P.info? e=some i) (hz : i.zero=some z)
 (hsize : i.size=1) (hby : i.bytes=bytes) (hzs : z.cells.size=1)
 (v : Value) (n : Nat) (xs : List Value) (hown : w.ownsRow base e 1 v n xs) (S : ByteArray)
 (h63 : n+S.size≤maxLen) (hbytes : (n+S.size)*bytes≤140737488355328) (hbase : base≤w.heap.size) :
 ∃ v' w',(Builtin.append_ #[t,u] ty #[v,.string S]).run P w=.ok v' w'∧w'.ownsRow base e 1 v' (n+S.size) (xs++bytesC S.data.toList)∧w.grownBy w' v.ownBlock ∧
  (v'.ownBlock=v.ownBlock∨v'.ownBlock=some w.heap.size):=by
 subst hby
 have hnl:=str_len S
 have hf:=fun w=>run_firstCells_str (P:=P) w S
 have h1:=bytesC_one S.data.toList
 generalize bytesC S.data.toList=news at hnl hf h1 ⊢
 have hsmall : n+S.size≤9223372036854775807:=by simp only [maxLen] at h63;omega
 have hlen : (xs++news).length=(n+S.size)*1:=by rw [List.length_append,hown.1,hnl];omega
 have grown : ∀ (old : Nat),old < n+S.size→∀ (row : Option Nat),
  (w.drew.alloc (.cells (xs.toArray++news.toArray++Builtin.zeroCells z.cells (grownCap w (n+S.size) old e - (n+S.size))) e)).ownsRow base e 1
    (.slice (some ⟨w.heap.size,0,none⟩) (n+S.size) (grownCap w (n+S.size) old e)) (n+S.size) (xs++news) ∧
  w.grownBy (w.drew.alloc (.cells (xs.toArray++news.toArray++Builtin.zeroCells z.cells (grownCap w (n+S.size) old e - (n+S.size))) e)) row:=by
  intro old ho row
  have hge:=grownCap_ge w (n+S.size) old e
  have hcm : grownCap w (n+S.size) old e≤maxLen:=grownCap_le_maxLen w (n+S.size) old e h63
  refine ⟨⟨hlen,.inr ⟨w.heap.size,_,_,rfl,hbase,heap_alloc_new w.drew _,hge,hcm,?_,?_⟩⟩,⟨rfl,rfl,rfl,by simp,fun k hk _=>Below.heap_alloc w.drew _ k hk⟩⟩
  · simp only [Array.size_append,List.size_toArray,size_zeroCells,hzs,hown.1,hnl]
    omega
  · simp only [Array.toList_append,List.append_assoc]
    rw [← List.append_assoc,← hlen]
    exact List.take_left
 rcases hown.2 with ⟨rfl,rfl⟩ | ⟨g,cap,cur,rfl,hbg,hg,hnc,hcm,hcs,htake⟩
 · have hx : xs=[]:=List.eq_nil_of_length_eq_zero (by simpa using hown.1)
   subst hx
   by_cases hm : S.size=0
   · have hn : news=[]:=List.eq_nil_of_length_eq_zero (by rw [hnl,hm])
     subst hn
     refine ⟨.slice none 0 0,w,?_,by rw [hm];exact World.ownsRow_nil w base e 1,⟨rfl,rfl,rfl,Nat.le_refl _,fun _ _ _=>rfl⟩,Or.inl rfl⟩
     rw [hm] at hf
     simp [Builtin.append_,run_underlying ht,run_underlying hu,sizeOf,typeInfo,hi,hsize,Builtin.lenOf,hf,hm]
   · have hgr:=grown 0 (by omega) (Value.ownBlock (.slice none 0 0))
     have h63' : ¬ (9223372036854775807 < (S.size : Int)):=by omega
     have h48' : ¬ (281474976710656 < Builtin.nextslicecap S.size 0*i.bytes):=by rw [nextslicecap_zero (by omega)];simp only [Nat.zero_add] at hbytes;omega
     simp only [Nat.zero_add,List.nil_append,Array.empty_append] at hgr ⊢
     refine ⟨_,_,?_,hgr.1,hgr.2,Or.inr rfl⟩
     simp [Builtin.append_,run_underlying ht,run_underlying hu,sizeOf,typeInfo,zeroValue,hi,hz,hsize,Builtin.lenOf,hm,h63',h48',Question.forced,run_firstCells_none,hf,newRow,grownCap]
 · by_cases hroom : n+S.size≤cap
   · have hfit : n*1+news.length≤cur.size:=by rw [hnl,hcs];omega
     have hst:=run_storeCells_at P g (n*1) e news 0 cur w hg (by simpa using hfit) h1
     simp only [Nat.add_zero] at hst
     have hr : (Builtin.append_ #[t,u] ty #[.slice (some ⟨g,0,none⟩) n cap,.string S]).run P w =
      .ok (.slice (some ⟨g,0,none⟩) (n+S.size) cap) (w.setRow g (cur.toList.take (n*1)++news++cur.toList.drop (n*1+news.length)).toArray):=by
      simp only [Nat.mul_one] at hst ⊢
      simp [Builtin.append_,run_underlying ht,run_underlying hu,sizeOf,typeInfo,hi,hsize,Builtin.lenOf,hroom,hf,Addr.add_lit,hst]
     refine ⟨_,_,hr,⟨hlen,.inr ⟨g,cap,_,rfl,hbg,setRow_heap w g cur _ e _ hg,hroom,hcm,?_,?_⟩⟩,⟨rfl,rfl,rfl,by simp,fun k _ hk=>setRow_other w g k _ (fun e=>hk (by simp [Value.ownBlock,e]))⟩,Or.inl rfl⟩
     · simp only [List.size_toArray,List.length_append,List.length_take,List.length_drop,Array.length_toList]
       omega
     · rw [htake,← hlen]
       exact List.take_left
   · have holds : ∀ j u,xs[j]?=some u→w.cell? ((⟨g,0,none⟩ : Addr).add j)=some u:=hown.cells (g:=g) rfl
     have hfo:=run_firstCells_some (P:=P) w.drew 1 n ⟨g,0,none⟩ n cap xs hown.1 (by simpa using holds)
     have h63' : ¬ (9223372036854775807 < ((n : Int)+(S.size : Int))):=by omega
     have h48' : ¬ (281474976710656 < Builtin.nextslicecap (n+S.size) cap*i.bytes):=by have:=growslice_fits (old:=cap) (need:=n+S.size) (bytes:=i.bytes) (by omega) hbytes;omega
     have hgr:=grown cap (by omega) (Value.ownBlock (.slice (some ⟨g,0,none⟩) n cap))
     refine ⟨_,_,?_,hgr.1,hgr.2,Or.inr rfl⟩
     simp [Builtin.append_,run_underlying ht,run_underlying hu,sizeOf,typeInfo,zeroValue,hi,hz,hsize,Builtin.lenOf,hroom,h63',h48',Question.forced,hf,hfo,newRow,grownCap]
     congr 2
     apply Array.ext'
     simp [List.append_assoc]
end
theorem wpList_app {P : Program} {w : World} {ops : Array Oper} {rest : List Oper} {o : Oper} {a : Act} {Q : Exit→Act→World→Prop} (hgd : o.guard=none) (s x : Operand) (t t2 : TypeId)
 (ho : o.op=.call { callee:=.builtin .append,args:=#[s,x],argTypes:=#[t,t2] }) (v y : Value) (hs : a.eval s=v) (hx : a.eval x=y) (R : Value→World→Prop)
 (hr : ∃ v' w',(Builtin.append_ #[t,t2] o.type #[v,y]).run P w=.ok v' w'∧R v' w') (h : ∀ v' w',R v' w'→wpList P ops Q rest (a.put o.dst v') w') : wpList P ops Q (o::rest) a w :=
 wpList_plain hgd fun _ hK=>by
  obtain ⟨v',w',hrun,hR⟩:=hr
  unfold Oper.wp execOp
  simp only [ho,resolve,invoke,builtin,Sem.run_bind,Sem.run_pure,Result.andThen_ok,List.map_toArray,List.map_cons,List.map_nil,hs,hx,hrun]
  exact hK _ _ (h v' w' hR)
end Go.Proofs.YtmpkejflgpodkaaGreatDoor
namespace Go.Proofs.YtmpkejflgpodkaaGreatDoor
open Go.ChangeShapes Go.WideShapes Go.ChangeAt Go.RowKit
def WEvo (w : World) (g : Nat) (o : Option Nat) (w' : World) (o' : Option Nat) : Prop:=Chg (fun k=>k=g∨o=some k) w w'∧(o'=o∨∃ h,o'=some h∧w.heap.size≤h)
theorem WEvo.refl (w : World) (g : Nat) (o : Option Nat) : WEvo w g o w o:=⟨Chg.refl w,.inl rfl⟩
theorem WEvo.trans {a b c : World} {g : Nat} {o o' o'' : Option Nat} (h : WEvo a g o b o') (k : WEvo b g o' c o'') : WEvo a g o c o'':=by
 refine ⟨h.1.trans k.1 fun i hi hm=>?_,?_⟩
 · rcases hm with hm | hm
   · exact .inl hm
   · rcases h.2 with e | ⟨x,e,hx⟩
     · exact .inr (by rw [← e];exact hm)
     · rw [e] at hm;injection hm with hm;omega
 · rcases k.2 with e | ⟨x,e,hx⟩
   · rw [e];exact h.2
   · exact .inr ⟨x,e,Nat.le_trans h.1.size hx⟩
theorem WEvo.of_below {w w' : World} {g : Nat} {o : Option Nat} (h : Below w.heap.size w w') : WEvo w g o w' o:=⟨Chg.of_below h,.inl rfl⟩
theorem WEvo.of_evo {w w' : World} {g : Nat} {o o' : Option Nat} (h : Evo w o w' o') : WEvo w g o w' o' :=
 ⟨⟨h.os,h.tape,h.output,h.size,fun k hk hn=>h.block k hk fun e=>hn (.inr e)⟩,h.lies⟩
theorem WEvo.set_ {a w : World} {g : Nat} {o o' : Option Nat} (h : WEvo a g o w o') (i : Nat) (u : Value) : WEvo a g o (w.setCell ⟨g,i,none⟩ u) o':=⟨h.1.setCell (p:=⟨g,i,none⟩) (.inl (.inl rfl)) u,h.2⟩
theorem WEvo.drew {a w : World} {g : Nat} {o o' : Option Nat} (h : WEvo a g o w o') : WEvo a g o w.drew o':=⟨h.1.drew,h.2⟩
theorem WEvo.alloc {a w : World} {g : Nat} {o o' : Option Nat} (h : WEvo a g o w o') (ob : Obj) : WEvo a g o (w.alloc ob) o':=⟨h.1.alloc ob,h.2⟩
theorem WEvo.block {w w' : World} {g : Nat} {o o' : Option Nat} (h : WEvo w g o w' o') {k : Nat} (hk : k < w.heap.size) (h1 : k≠g) (h2 : o≠some k) : w'.heap[k]?=w.heap[k]?:=h.1.block k hk (by rintro (e | e);exact h1 e;exact h2 e)
end Go.Proofs.YtmpkejflgpodkaaGreatDoor
