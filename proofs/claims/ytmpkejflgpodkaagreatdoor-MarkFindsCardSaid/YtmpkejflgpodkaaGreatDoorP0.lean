/- The frame of a law's row, whatever its parameters: the call answers true, and below the heap's old size nothing has turned. -/
import Derived.Test.YtmpkejflgpodkaaGreatDoorRows
import Derived.WalkKit
import Derived.ProofKit
import Derived.OpenShut
import Derived.Below
import Derived.Carry
import Derived.ChangeSame
import Derived.Deep.Slices
import Derived.Laws.OwnMore
import Derived.Deep.AppendLies
import Derived.Deep.Draws
import Derived.Laws.Rows
import Derived.Maps.AppendAt
import Derived.RegionTactic
import Derived.OwnWalk
import Derived.Maps.RangeWalk
import Derived.Laws.BitsAllLaws
import Derived.Laws.BitsLemmas
import Derived.Laws.Bits64
import Derived.Laws.IdiomStrings
import Derived.Laws.BytesArg
import Derived.WalkLawsBesides
import Derived.WalkSpells
import Derived.BigQuiet
import Derived.Deep.QuietTactic
import Derived.Deep.RegionHeld3
import Derived.Lib.Hide
import Derived.LoopTactic
import Derived.StillTailTactics
import Derived.DeepKeys4
import Derived.Deep.DeepFit
import Derived.Deep.RegionWith
set_option maxHeartbeats 4000000
set_option maxRecDepth 20000
set_option linter.unusedVariables false
set_option linter.unusedSimpArgs false
namespace Go.Proofs.YtmpkejflgpodkaaGreatDoor
open Go.ChangeShapes Go.WideShapes Go.ChangeAt Go.RowKit
section
open Go.ChangeShapes Go.WideShapes Go.ChangeAt Go.RowKit Go.Deep
section
variable{H:Type}{enc:TypeId×Value→H}{P:Program}
theorem nH(hl:laidOutB P=true){W W':World}(hb:Below W.heap.size W W')(sp:Nat→Bool):
 ∀(ts:List TypeId) (vs:List Value) (ds:List (DataW H)) (ps:List MemPlace),(∀t∈ts,P.readableRec t=true∧t<P.types.size) →
  DataW.TrodAll enc P W 0 (fun _=>true) true ts vs ds ps→(∀x∈ps,x.block<W.heap.size)→(∀x∈ps,sp x.block=true)→DataW.TrodAll enc P W' 0 sp true ts vs ds ps
 | [],vs,ds,ps,_,h,_,_=>by
   obtain⟨rfl,rfl,rfl⟩:=trodAll_nil h
   exact trodAll_mk0
 |t::ts,vs,ds,ps,hr,h,hlt,hs=>by
  obtain⟨v,vs',d,ds',p,q,rfl,rfl,rfl,h1,h2⟩:=trodAll_cons h
  have ht:=hr t (by simp);refine trodAll_cons_mk (WideElems.Trod_stays hl ht.1 ht.2 h1 (fun x hx=>hb.same (hlt x (by simp[hx]))) (fun x hx=>hs x (by simp[hx]))) ?_;exact nH hl hb sp ts vs' ds' q (fun t' h'=>hr t' (by simp[h'])) h2 (fun x hx=>hlt x (by simp[hx])) (fun x hx=>hs x (by simp[hx]))
theorem post_of_below{f:Func}{s:ChangeSpec}{apart fresh handsOn again:Bool}{W W':World}{args:Array Value}{v:Value}{ds gs:List (DataW H)}{before pa pv:List MemPlace}
 (hW:DataW.Whole enc P f.params.toList s.vars apart W args.toList ds gs before)
 (hres:∀(b:Nat) (sp:Nat→Bool) (hd:Bool),DataW.TrodAll enc P W' b sp hd f.resultTypes.toList (v.resultList f.resultTypes.size) (s.fn H (ds++gs)).results [])
 (hargs:∀sp:Nat→Bool,(∀p∈before,sp p.block=true)→DataW.TrodAll enc P W' 0 sp true f.params.toList args.toList (s.fn H (ds++gs)).args pa)
 (hvars:∀sp:Nat→Bool,(∀p∈before,sp p.block=true)→DataW.TrodVars enc P W' sp s.vars (s.fn H (ds++gs)).vars pv)
 (hps:before=pa++pv) (hb:Below W.heap.size W W')
 (hok:∀(j:Nat) (t:TypeId) (r:Value),f.resultTypes[j]?=some t→(v.resultList f.resultTypes.size)[j]?=some r→Value.okWide P W' .any 0 t r) :
 s.post enc P f apart fresh handsOn again W args v W':=by
 have hlt:∀p∈before,p.block<W.heap.size:=fun p hp=>hW.lt p hp
 have hold:∀p∈before,(fun b=>decide (b<W.heap.size)) p.block=true:=fun p hp=>by simpa using hlt p hp
 refine⟨ds,gs,before,[],pa,pv,hW,hres _ _ _,hargs _ hold,hvars _ hold,World.keptBut_mono (fun p hp=>⟨hp,?_⟩) (hb.frame (·∈before)),fun _=>?_⟩
 ·rw[hps,List.mem_append]at hp;exact Or.inr hp
 ·obtain⟨_,_,_,_,_,hz,hn⟩:=hW
  refine⟨hok,_,_,([]++pa)++pv,⟨[]++pa,pv,trodAll_append (hargs _ (fun _ _=>rfl)) (hres _ _ _),hvars _ (fun _ _=>rfl),rfl,?_,?_⟩,?_⟩
  ·intro b off hp;have hin:MemPlace.cell b off∈before:=by rw[hps];simpa using hp
   rw[hb.frozen (hlt _ hin)];exact hz b off hin
  ·intro ha;have:=hn ha
   rw[hps]at this;simpa using this
  ·intro p hp _;rw[hps];simpa using hp
theorem law_post{f:Func}{s:ChangeSpec}{apart fresh handsOn again:Bool}{W W':World}{args:Array Value}{ds gs:List (DataW H)}{before:List MemPlace}{tb:TypeId}
 (hl:laidOutB P=true) (hread:(f.params.toList.all fun t=>P.readableRec t&&decide (t<P.types.size))=true) (hres:f.resultTypes=#[tb]) (htb:P.underlying tb=some .bool)
 (hvars:s.vars=[]) (hs:(s.fn H ds).results=[.lit (.bool true)]∧(s.fn H ds).args=ds∧(s.fn H ds).vars=[])
 (hW:DataW.Whole enc P f.params.toList s.vars apart W args.toList ds gs before) (hb:Below W.heap.size W W') :
 ∃v,Ending.returned (.bool true)=.returned v∧s.post enc P f apart fresh handsOn again W args v W':=by
 have hW':=hW;obtain⟨p,q,hA,hV,rfl,hz,hn⟩:=hW
 rw[hvars]at hV;obtain⟨rfl,rfl⟩:=trodVars_none hV
 refine⟨_,rfl,post_of_below (pa:=p) (pv:=[]) hW' ?_ ?_ ?_ rfl hb ?_⟩
 ·intro b sp hd;rw[List.append_nil,hs.1,hres];exact trodAll_cons_mk (shut_bool htb true) trodAll_mk0
 ·intro sp hsp;rw[List.append_nil,hs.2.1];refine nH hl hb sp _ _ _ _ (fun t ht=>?_) hA (fun x hx=>hW'.lt x (by simp[hx])) (fun x hx=>hsp x (by simp[hx]));have:=List.all_eq_true.1 hread t ht
  simpa using this
 ·intro sp _;rw[List.append_nil,hs.2.2,hvars];rfl
 ·exact ok_one hres rfl (okWide_bool_mk htb true)
end
theorem own:ownKnob Tryz.prog.godebug=none:=by kernel_rfl
theorem laidOut:laidOutB Tryz.prog=true:=by kernel_rfl
end
section
open Go.RowKit
/-! what stays -/
def dS(D:Nat→Prop)(w w':World):Prop:=∀k,D k→w'.heap[k]?=w.heap[k]?
theorem dS.refl{D:Nat→Prop}{w:World}: dS D w w:=fun _ _=>rfl
theorem dS.trans{D:Nat→Prop}{a b c:World}(h:dS D a b)(k:dS D b c):dS D a c:=fun i hi=>(k i hi).trans (h i hi)
theorem dS.mono{D D':Nat→Prop}{w w':World}(h:dS D w w')(hd:∀k,D' k→D k):dS D' w w':=fun i hi=>h i (hd i hi)
theorem dS.drew{D:Nat→Prop}{a w:World}(h:dS D a w):dS D a w.drew:=h
theorem dS.drewN{D:Nat→Prop}{a w:World}(h:dS D a w)(n:Nat):dS D a (w.drewN n):=h
theorem dS.cell{D:Nat→Prop}{w w':World}(h:dS D w w'){p:Addr}(hp:D p.block):w'.cell? p=w.cell? p:=World.cell?_of_block (w:=w) (h p.block hp)
theorem dS.frozen{D:Nat→Prop}{w w':World}(h:dS D w w'){p:Addr}(hp:D p.block):w'.frozen? p=w.frozen? p:=World.frozen?_of_block (w:=w) (h p.block hp)
theorem dS.alloc{D:Nat→Prop}{a w:World}(h:dS D a w)(hD:∀k,D k→k<w.heap.size)(o:Obj):dS D a (w.alloc o):=fun k hk=>(Below.heap_alloc w o k (hD k hk)).trans (h k hk)
structure Chg(M:Nat→Prop)(w w':World):Prop where
 os:w'.os=w.os
 tape:w'.tape=w.tape
 output:w'.output=w.output
 size:w.heap.size≤w'.heap.size
 block:∀k,k<w.heap.size→¬M k→w'.heap[k]?=w.heap[k]?
theorem Chg.refl{M:Nat→Prop}(w:World):Chg M w w:=⟨rfl,rfl,rfl,Nat.le_refl _,fun _ _ _=>rfl⟩
theorem Chg.trans{M M':Nat→Prop}{a b c:World}(h:Chg M a b)(k:Chg M' b c)(hm:∀i,i<a.heap.size→M' i→M i):Chg M a c :=
 ⟨k.os.trans h.os,k.tape.trans h.tape,k.output.trans h.output,Nat.le_trans h.size k.size,fun i hi hn=>(k.block i (Nat.lt_of_lt_of_le hi h.size) (fun e=>hn (hm i hi e))).trans (h.block i hi hn)⟩
theorem Chg.mono{M M':Nat→Prop}{a b:World}(h:Chg M a b)(hm:∀i,i<a.heap.size→M i→M' i):Chg M' a b :=
 ⟨h.os,h.tape,h.output,h.size,fun i hi hn=>h.block i hi (fun e=>hn (hm i hi e))⟩
theorem Chg.drew{M:Nat→Prop}{a w:World}(h:Chg M a w):Chg M a w.drew:=⟨h.os,h.tape,h.output,h.size,h.block⟩
theorem Chg.drewN_{M:Nat→Prop}{a w:World}(h:Chg M a w)(n:Nat):Chg M a (w.drewN n):=⟨h.os,h.tape,h.output,h.size,h.block⟩
theorem Chg.alloc{M:Nat→Prop}{a w:World}(h:Chg M a w)(o:Obj):Chg M a (w.alloc o) :=
 ⟨h.os,h.tape,h.output,Nat.le_trans h.size (by simp),fun i hi hn=>(Below.heap_alloc w o i (Nat.lt_of_lt_of_le hi h.size)).trans (h.block i hi hn)⟩
theorem Chg.setCell{M:Nat→Prop}{a w:World}(h:Chg M a w){p:Addr}(hp:M p.block∨a.heap.size≤p.block)(u:Value):Chg M a (w.setCell p u) :=
 ⟨h.os,h.tape,h.output,by simpa[World.setCell] using h.size,fun i hi hn=>(Below.heap_setCell w p u i (by
  rintro rfl;rcases hp with hp|hp
  ·exact hn hp
  ·omega)).trans (h.block i hi hn)⟩
theorem Chg.grown{M:Nat→Prop}{a w w':World}{row:Option Nat}(h:Chg M a w)(hg:w.grownBy w' row)(hr:∀g,row=some g→M g∨a.heap.size≤g):Chg M a w' :=
 ⟨hg.os.trans h.os,hg.tape.trans h.tape,hg.output.trans h.output,Nat.le_trans h.size hg.size,fun i hi hn=>(hg.block i (Nat.lt_of_lt_of_le hi h.size) (fun e=>by
  rcases hr i e.symm with h1|h1
  ·exact hn h1
  ·omega)).trans (h.block i hi hn)⟩
theorem Chg.of_below{w w':World}(h:Below w.heap.size w w'){M:Nat→Prop}: Chg M w w':=⟨h.os,h.tape,h.output,h.size,fun k hk _=>h.block k hk⟩
theorem Chg.below{w w':World}{M:Nat→Prop}(h:Chg M w w'){B:Nat}(hB:B≤w.heap.size)(hM:∀k,M k→B≤k):Below B w w' :=
 ⟨h.os,h.tape,h.output,h.size,fun k hk=>h.block k (by omega) (fun e=>by have:=hM k e;omega)⟩
theorem Chg.keeps{M D:Nat→Prop}{w w':World}(h:Chg M w w')(hd:∀k,D k→k<w.heap.size∧¬M k):dS D w w':=fun k hk=>h.block k (hd k hk).1 (hd k hk).2
theorem Below.keeps{B:Nat}{w w':World}(h:Below B w w'):dS (· < B) w w':=fun k hk=>h.block k hk
theorem fP(a:Addr)(n:Nat):(a.add n).block=a.block:=by unfold Addr.add;split<;>rfl
theorem oV(a:Addr)(i j:Nat):(a.add i).add j=a.add (i+j):=by
 unfold Addr.add;by_cases hi:i=0<;>by_cases hj:j=0<;>simp[hi,hj,Nat.add_assoc]
/-! a slice '.slice A n c' that reads as the cells xs ('size' cells an element), in blocks of D -/
def aC(D:Nat→Prop)(w:World)(size:Nat)(A:Option Addr)(n:Nat)(xs:List Value):Prop :=
 xs.length=n*size∧(0<n→∃ad,A=some ad∧D ad.block∧∀j u,xs[j]?=some u→w.cell? (ad.add j)=some u)
section
variable{D D':Nat→Prop}{w w':World}{size n:Nat}{A:Option Addr}{xs:List Value}
theorem aC.none_{A:Option Addr}: aC D w size A 0 []:=⟨by simp,fun h=>absurd h (by omega)⟩
theorem aC.keep(h:aC D w size A n xs)(hk:dS D w w'):aC D w' size A n xs :=
 ⟨h.1,fun hn=>by
  obtain⟨ad,e,hb,hc⟩:=h.2 hn
  exact⟨ad,e,hb,fun j u hu=>(hk.cell (by rw[fP];exact hb)).trans (hc j u hu)⟩⟩
theorem aC.more(h:aC D w size A n xs)(hD:∀k,D k→D' k):aC D' w size A n xs :=
 ⟨h.1,fun hn=>by
  obtain⟨ad,e,hb,hc⟩:=h.2 hn
  exact⟨ad,e,hD _ hb,hc⟩⟩
theorem aC.cut(h:aC D w size A n xs){k cap:Nat}(hk:k≤n)(hc:n≤cap):
 aC D w size (if cap=k then A else A.map (·.add (k*size))) (n-k) (xs.drop (k*size)):=by
 refine⟨by rw[List.length_drop,h.1,Nat.sub_mul],fun hn=>?_⟩
 obtain⟨ad,rfl,hb,hcell⟩:=h.2 (by omega)
 rw[if_neg (by omega)];refine⟨ad.add (k*size),rfl,by rw[fP];exact hb,fun j u hu=>?_⟩
 rw[oV];exact hcell _ u (by rw[←hu,List.getElem?_drop])
theorem aC.take(h:aC D w size A n xs){k:Nat}(hk:k≤n):aC D w size A k (xs.take (k*size)):=by
 refine⟨by rw[List.length_take,h.1];exact Nat.min_eq_left (Nat.mul_le_mul_right _ hk),fun hn=>?_⟩
 obtain⟨ad,rfl,hb,hcell⟩:=h.2 (by omega)
 refine⟨ad,rfl,hb,fun j u hu=>hcell j u ?_⟩
 rw[List.getElem?_take]at hu;split at hu
 ·exact hu
 ·cases hu
theorem aC.at_(h:aC D w size A n xs)(hn:0<n)(hs:0<size):∃b off,A=some ⟨b,off,none⟩∧D b∧∀j u,xs[j]?=some u→w.cell? ⟨b,off+j,none⟩=some u:=by
 obtain⟨ad,rfl,hb,hc⟩:=h.2 hn
 have hx:0<xs.length:=by rw[h.1];exact Nat.mul_pos hn hs
 have h0:=hc 0 _ (List.getElem?_eq_getElem hx);have hsp:ad.spot=none:=by simpa[Addr.add] using World.cell?_spot h0
 obtain⟨b,off,sp⟩:=ad
 simp only at hsp;subst hsp;refine⟨b,off,rfl,hb,fun j u hu=>?_⟩
 have:=hc j u hu
 unfold Addr.add at this;split at this
 ·rename_i e;rw[e];exact this
 ·exact this
theorem aC.of_own{base:Nat}{e:TypeId}{v:Value}(h:w.ownsRow base e size v n xs):∃A c,v=.slice A n c∧n≤c∧c≤maxLen∧aC (fun k=>v.ownBlock=some k) w size A n xs:=by
 rcases h.2 with⟨rfl,h0⟩|⟨g,cap,cur,rfl,hbg,hg,hnc,hcm,hcs,ht⟩
 ·subst h0;exact⟨none,0,rfl,Nat.le_refl _,by simp[maxLen],h.1,fun hn=>absurd hn (by omega)⟩
 ·exact⟨_,cap,rfl,hnc,hcm,h.1,fun _=>⟨_,rfl,by simp[Value.ownBlock],h.cells (g:=g) rfl⟩⟩
end
/-! a block that is known whole -/
def Blk(w:World)(g:Nat)(t:TypeId)(cs:Array Value):Prop:=w.heap[g]?=some (.cells cs t (0,0))
section
variable{w w':World}{g:Nat}{t:TypeId}{cs:Array Value}
theorem Blk.lt(h:Blk w g t cs):g<w.heap.size:=by
 rcases Nat.lt_or_ge g w.heap.size with hlt|hge
 ·exact hlt
 ·unfold Blk at h;rw[Array.getElem?_eq_none hge]at h;cases h
theorem Blk.cell(h:Blk w g t cs)(i:Nat):w.cell? ⟨g,i,none⟩=cs[i]?:=cell_of_row w g i cs t (0,0) h
theorem Blk.frozen(h:Blk w g t cs)(i:Nat):w.frozen? ⟨g,i,none⟩=false:=by
 unfold Blk at h;simp[World.frozen?,h]
theorem Blk.new(w:World)(t:TypeId)(cs:Array Value):Blk (w.alloc (.cells cs t)) w.heap.size t cs:=heap_alloc_new w _
theorem Blk.keep(h:Blk w g t cs)(hk:w'.heap[g]?=w.heap[g]?):Blk w' g t cs:=hk.trans h
theorem Blk.drew(h:Blk w g t cs):Blk w.drew g t cs:=h
theorem Blk.alloc(h:Blk w g t cs)(o:Obj):Blk (w.alloc o) g t cs:=(Below.heap_alloc w o g h.lt).trans h
theorem Blk.set_(h:Blk w g t cs)(i:Nat)(u:Value):Blk (w.setCell ⟨g,i,none⟩ u) g t (cs.setIfInBounds i u):=by
 unfold Blk at h ⊢;simp[World.setCell,Array.getElem?_modify,h]
theorem Blk.far(h:Blk w g t cs){p:Addr}(hp:g≠p.block)(u:Value):Blk (w.setCell p u) g t cs:=(Below.heap_setCell w p u g hp).trans h
theorem Blk.ne_{g':Nat}{t':TypeId}{cs':Array Value}(h:Blk w g t cs)(h':Blk w g' t' cs')(hne:t≠t'):g≠g':=by
 rintro rfl;unfold Blk at h h';rw[h]at h';injection h' with h'
 injection h' with _ ht
 exact hne ht
theorem eT{base:Nat}{e:TypeId}{size n:Nat}{v:Value}{xs:List Value}(h:w.ownsRow base e size v n xs)(hg:Blk w g t cs)(hne:e≠t):v.ownBlock≠some g:=by
 rcases h.2 with⟨rfl,_⟩|⟨g',cap,cur,rfl,_,hh,_⟩
 ·simp[Value.ownBlock]
 ·intro he;have:g'=g:=by simpa[Value.ownBlock] using he
  subst this;exact Blk.ne_ (t:=e) hh hg hne rfl
end
theorem ce2{w:World}{g:Nat}{t:TypeId}{v0 v1:Value}(h:Blk w g t #[v0,v1]):w.cell? ⟨g,0,none⟩=some v0∧w.cell? ⟨g,1,none⟩=some v1 :=
 ⟨h.cell 0,h.cell 1⟩
theorem ce4{w:World}{g:Nat}{t:TypeId}{v0 v1 v2 v3:Value}(h:Blk w g t #[v0,v1,v2,v3]):w.cell? ⟨g,0,none⟩=some v0∧w.cell? ⟨g,1,none⟩=some v1∧w.cell? ⟨g,2,none⟩=some v2∧w.cell? ⟨g,3,none⟩=some v3 :=
 ⟨h.cell 0,h.cell 1,h.cell 2,h.cell 3⟩
theorem ce5{w:World}{g:Nat}{t:TypeId}{v0 v1 v2 v3 v4:Value}(h:Blk w g t #[v0,v1,v2,v3,v4]):w.cell? ⟨g,0,none⟩=some v0∧w.cell? ⟨g,1,none⟩=some v1∧w.cell? ⟨g,2,none⟩=some v2∧w.cell? ⟨g,3,none⟩=some v3∧w.cell? ⟨g,4,none⟩=some v4 :=
 ⟨h.cell 0,h.cell 1,h.cell 2,h.cell 3,h.cell 4⟩
theorem ce7{w:World}{g:Nat}{t:TypeId}{v0 v1 v2 v3 v4 v5 v6:Value}(h:Blk w g t #[v0,v1,v2,v3,v4,v5,v6]):w.cell? ⟨g,0,none⟩=some v0∧w.cell? ⟨g,1,none⟩=some v1∧w.cell? ⟨g,2,none⟩=some v2∧w.cell? ⟨g,3,none⟩=some v3∧w.cell? ⟨g,4,none⟩=some v4∧w.cell? ⟨g,5,none⟩=some v5∧w.cell? ⟨g,6,none⟩=some v6 :=
 ⟨h.cell 0,h.cell 1,h.cell 2,h.cell 3,h.cell 4,h.cell 5,h.cell 6⟩
theorem ce13{w:World}{g:Nat}{t:TypeId}{v0 v1 v2 v3 v4 v5 v6 v7 v8 v9 v10 v11 v12:Value}(h:Blk w g t #[v0,v1,v2,v3,v4,v5,v6,v7,v8,v9,v10,v11,v12]):w.cell? ⟨g,0,none⟩=some v0∧w.cell? ⟨g,1,none⟩=some v1∧w.cell? ⟨g,2,none⟩=some v2∧w.cell? ⟨g,3,none⟩=some v3∧w.cell? ⟨g,4,none⟩=some v4∧w.cell? ⟨g,5,none⟩=some v5∧w.cell? ⟨g,6,none⟩=some v6∧w.cell? ⟨g,7,none⟩=some v7∧w.cell? ⟨g,8,none⟩=some v8∧w.cell? ⟨g,9,none⟩=some v9∧w.cell? ⟨g,10,none⟩=some v10∧w.cell? ⟨g,11,none⟩=some v11∧w.cell? ⟨g,12,none⟩=some v12 :=
 ⟨h.cell 0,h.cell 1,h.cell 2,h.cell 3,h.cell 4,h.cell 5,h.cell 6,h.cell 7,h.cell 8,h.cell 9,h.cell 10,h.cell 11,h.cell 12⟩
theorem ce15{w:World}{g:Nat}{t:TypeId}{v0 v1 v2 v3 v4 v5 v6 v7 v8 v9 v10 v11 v12 v13 v14:Value}(h:Blk w g t #[v0,v1,v2,v3,v4,v5,v6,v7,v8,v9,v10,v11,v12,v13,v14]):w.cell? ⟨g,0,none⟩=some v0∧w.cell? ⟨g,1,none⟩=some v1∧w.cell? ⟨g,2,none⟩=some v2∧w.cell? ⟨g,3,none⟩=some v3∧w.cell? ⟨g,4,none⟩=some v4∧w.cell? ⟨g,5,none⟩=some v5∧w.cell? ⟨g,6,none⟩=some v6∧w.cell? ⟨g,7,none⟩=some v7∧w.cell? ⟨g,8,none⟩=some v8∧w.cell? ⟨g,9,none⟩=some v9∧w.cell? ⟨g,10,none⟩=some v10∧w.cell? ⟨g,11,none⟩=some v11∧w.cell? ⟨g,12,none⟩=some v12∧w.cell? ⟨g,13,none⟩=some v13∧w.cell? ⟨g,14,none⟩=some v14 :=
 ⟨h.cell 0,h.cell 1,h.cell 2,h.cell 3,h.cell 4,h.cell 5,h.cell 6,h.cell 7,h.cell 8,h.cell 9,h.cell 10,h.cell 11,h.cell 12,h.cell 13,h.cell 14⟩
theorem wF:type_of% @List.findIdx?_eq_some_iff_getElem:=@List.findIdx?_eq_some_iff_getElem
theorem uV:type_of% @List.takeWhile_append_dropWhile:=@List.takeWhile_append_dropWhile
theorem vD:type_of% @List.eq_nil_of_length_eq_zero:=@List.eq_nil_of_length_eq_zero
theorem wW:type_of% @List.count_eq_zero_of_not_mem:=@List.count_eq_zero_of_not_mem
theorem vN:type_of% @Array.getD_eq_getD_getElem?:=@Array.getD_eq_getD_getElem?
theorem rY:type_of% @List.setIfInBounds_toArray:=@List.setIfInBounds_toArray
theorem tR:type_of% @List.getElem?_append_right:=@List.getElem?_append_right
theorem vA:type_of% @List.length_eraseIdx_of_lt:=@List.length_eraseIdx_of_lt
theorem vQ:type_of% @Array.getElem?_eq_some_iff:=@Array.getElem?_eq_some_iff
theorem wH:type_of% @List.getD_eq_getElem?_getD:=@List.getD_eq_getElem?_getD
theorem sF:type_of% @List.getElem?_eq_some_iff:=@List.getElem?_eq_some_iff
theorem tJ:type_of% @List.drop_eq_getElem_cons:=@List.drop_eq_getElem_cons
theorem tU:type_of% @List.getElem?_append_left:=@List.getElem?_append_left
theorem uB:type_of% @List.mem_of_find?_eq_some:=@List.mem_of_find?_eq_some
theorem vV:type_of% @List.findIdx?_eq_none_iff:=@List.findIdx?_eq_none_iff
theorem wN:type_of% @List.pairwise_iff_getElem:=@List.pairwise_iff_getElem
theorem sD:type_of% @List.getElem?_eq_getElem:=@List.getElem?_eq_getElem
theorem wT:type_of% @World.cell?_setCells_out:=@World.cell?_setCells_out
theorem tV:type_of% @List.length_eq_zero_iff:=@List.length_eq_zero_iff
theorem uI:type_of% @List.filter_cons_of_pos:=@List.filter_cons_of_pos
theorem uJ:type_of% @List.filter_cons_of_neg:=@List.filter_cons_of_neg
theorem wD:type_of% @World.block_lt_of_cell?:=@World.block_lt_of_cell?
theorem wE:type_of% @List.getElem?_cons_succ:=@List.getElem?_cons_succ
theorem xM:type_of% @World.frozen?_alloc_old:=@World.frozen?_alloc_old
theorem sL:type_of% @List.take_of_length_le:=@List.take_of_length_le
theorem uW:type_of% @List.drop_of_length_le:=@List.drop_of_length_le
theorem vT:type_of% @World.frozen?_setCells:=@World.frozen?_setCells
theorem wJ:type_of% @Array.getElem!_eq_getD:=@Array.getElem!_eq_getD
theorem xD:type_of% @World.ownsRow.frozenAt:=@World.ownsRow.frozenAt
theorem xE:type_of% @List.drop_eq_nil_of_le:=@List.drop_eq_nil_of_le
theorem xQ:type_of% @List.getElem_cons_drop:=@List.getElem_cons_drop
theorem xR:type_of% @Array.getElem?_eq_none:=@Array.getElem?_eq_none
theorem tT:type_of% @List.mem_append_right:=@List.mem_append_right
theorem uE:type_of% @List.take_append_drop:=@List.take_append_drop
theorem uF:type_of% @List.getElem?_eq_none:=@List.getElem?_eq_none
theorem vC:type_of% @List.length_filter_le:=@List.length_filter_le
theorem vY:type_of% @List.length_singleton:=@List.length_singleton
theorem vZ:type_of% @Array.getElem?_toList:=@Array.getElem?_toList
theorem wO:type_of% @List.eq_nil_or_concat:=@List.eq_nil_or_concat
theorem wP:type_of% @List.concat_eq_append:=@List.concat_eq_append
theorem xS:type_of% @List.eraseIdx_sublist:=@List.eraseIdx_sublist
theorem sJ:type_of% @List.mem_of_getElem?:=@List.mem_of_getElem?
theorem sM:type_of% @World.cell?_of_block:=@World.cell?_of_block
theorem tE:type_of% @List.mem_append_left:=@List.mem_append_left
theorem tI:type_of% @World.cell?_alloc_lt:=@World.cell?_alloc_lt
theorem tS:type_of% @List.mem_cons_of_mem:=@List.mem_cons_of_mem
theorem wC:type_of% @World.ownsRow.cellAt:=@World.ownsRow.cellAt
theorem wU:type_of% @Nat.mul_le_mul_right:=@Nat.mul_le_mul_right
theorem wV:type_of% @List.mem_of_mem_take:=@List.mem_of_mem_take
theorem xH:type_of% @List.getElem?_of_mem:=@List.getElem?_of_mem
theorem sV:type_of% @List.take_succ_cons:=@List.take_succ_cons
theorem sY:type_of% @List.drop_succ_cons:=@List.drop_succ_cons
theorem tY:type_of% @List.mem_map_of_mem:=@List.mem_map_of_mem
theorem uD:type_of% @List.flatMap_append:=@List.flatMap_append
theorem uP:type_of% @List.map_congr_left:=@List.map_congr_left
theorem vJ:type_of% @Array.length_toList:=@Array.length_toList
theorem vW:type_of% @List.getElem_of_mem:=@List.getElem_of_mem
theorem vX:type_of% @List.filter_eq_self:=@List.filter_eq_self
theorem wK:type_of% @List.reverse_append:=@List.reverse_append
theorem wL:type_of% @Int.toNat_of_nonneg:=@Int.toNat_of_nonneg
theorem xB:type_of% @List.map_eq_nil_iff:=@List.map_eq_nil_iff
theorem xJ:type_of% @List.getElem?_range:=@List.getElem?_range
theorem xK:type_of% @List.filter_sublist:=@List.filter_sublist
theorem xL:type_of% @ByteArray.toList_eq:=@ByteArray.toList_eq
theorem rZ:type_of% @List.set_cons_succ:=@List.set_cons_succ
theorem sA:type_of% @List.set_cons_zero:=@List.set_cons_zero
theorem sE:type_of% @Nat.lt_of_lt_of_le:=@Nat.lt_of_lt_of_le
theorem sG:type_of% @List.length_append:=@List.length_append
theorem sN:type_of% @List.mem_singleton:=@List.mem_singleton
theorem sZ:type_of% @Below.heap_setCell:=@Below.heap_setCell
theorem tA:type_of% @List.mem_cons_self:=@List.mem_cons_self
theorem uM:type_of% @Option.toList_some:=@Option.toList_some
theorem uN:type_of% @List.filter_append:=@List.filter_append
theorem uR:type_of% @List.find?_eq_none:=@List.find?_eq_none
theorem uS:type_of% @Nat.eq_zero_or_pos:=@Nat.eq_zero_or_pos
theorem vB:type_of% @Bool.false_eq_true:=@Bool.false_eq_true
theorem vH:type_of% @List.append_of_mem:=@List.append_of_mem
theorem vO:type_of% @List.pairwise_cons:=@List.pairwise_cons
theorem wB:type_of% @List.getElem?_drop:=@List.getElem?_drop
theorem wS:type_of% @Array.extract_size:=@Array.extract_size
theorem sS:type_of% @List.take_add_one:=@List.take_add_one
theorem sX:type_of% @List.append_assoc:=@List.append_assoc
theorem tK:type_of% @World.drewN_drewN:=@World.drewN_drewN
theorem tM:type_of% @List.flatMap_cons:=@List.flatMap_cons
theorem tQ:type_of% @List.nodup_append:=@List.nodup_append
theorem tZ:type_of% @Value.slice.injEq:=@Value.slice.injEq
theorem uA:type_of% @Option.some.injEq:=@Option.some.injEq
theorem uU:type_of% @List.pairwise_map:=@List.pairwise_map
theorem uY:type_of% @List.getElem?_map:=@List.getElem?_map
theorem wX:type_of% @List.filter_congr:=@List.filter_congr
theorem xI:type_of% @List.find?_append:=@List.find?_append
theorem xT:type_of% @Result.andThen_ok:=@Result.andThen_ok
theorem xU:type_of% @Option.mem_toList:=@Option.mem_toList
theorem xV:type_of% @List.foldl_append:=@List.foldl_append
theorem sO:type_of% @Below.heap_alloc:=@Below.heap_alloc
theorem sW:type_of% @List.length_cons:=@List.length_cons
theorem tB:type_of% @Bool.and_eq_true:=@Bool.and_eq_true
theorem tD:type_of% @List.length_take:=@List.length_take
theorem tP:type_of% @List.all_eq_true:=@List.all_eq_true
theorem tX:type_of% @List.not_mem_nil:=@List.not_mem_nil
theorem uK:type_of% @List.mem_reverse:=@List.mem_reverse
theorem uQ:type_of% @List.length_drop:=@List.length_drop
theorem vL:type_of% @List.mem_flatMap:=@List.mem_flatMap
theorem vU:type_of% @List.perm_middle:=@List.perm_middle
theorem wQ:type_of% @List.cons_append:=@List.cons_append
theorem wR:type_of% @List.any_eq_true:=@List.any_eq_true
theorem xN:type_of% @List.filter_cons:=@List.filter_cons
theorem sI:type_of% @List.mem_append:=@List.mem_append
theorem sP:type_of% @List.length_map:=@List.length_map
theorem sQ:type_of% @List.map_append:=@List.map_append
theorem tF:type_of% @Option.some.inj:=@Option.some.inj
theorem tN:type_of% @List.nodup_cons:=@List.nodup_cons
theorem uH:type_of% @List.mem_filter:=@List.mem_filter
theorem uL:type_of% @List.append_nil:=@List.append_nil
theorem uZ:type_of% @List.foldl_cons:=@List.foldl_cons
theorem vK:type_of% @Option.map_some:=@Option.map_some
theorem vR:type_of% @List.find?_some:=@List.find?_some
theorem wA:type_of% @List.length_nil:=@List.length_nil
theorem wM:type_of% @List.cons.injEq:=@List.cons.injEq
theorem wY:type_of% @Option.some_get:=@Option.some_get
theorem wZ:type_of% @List.nil_append:=@List.nil_append
theorem xY:type_of% @Bool.or_eq_true:=@Bool.or_eq_true
theorem xZ:type_of% @Bool.eq_iff_iff:=@Bool.eq_iff_iff
theorem tG:type_of% @List.take_zero:=@List.take_zero
theorem tH:type_of% @List.drop_zero:=@List.drop_zero
theorem uG:type_of% @IntWalk.i64_in:=@IntWalk.i64_in
theorem vP:type_of% @List.Perm.refl:=@List.Perm.refl
theorem wI:type_of% @Bool.false_and:=@Bool.false_and
theorem xO:type_of% @List.drop_drop:=@List.drop_drop
theorem yD:type_of% @Bool.and_false:=@Bool.and_false
theorem sK:type_of% @List.mem_cons:=@List.mem_cons
theorem sT:type_of% @List.map_cons:=@List.map_cons
theorem sU:type_of% @AllReady.cons:=@AllReady.cons
theorem tL:type_of% @Nat.add_assoc:=@Nat.add_assoc
theorem uT:type_of% @Prod.mk.injEq:=@Prod.mk.injEq
theorem uX:type_of% @AllReadyH.nil:=@AllReadyH.nil
theorem wG:type_of% @Bool.true_and:=@Bool.true_and
theorem sH:type_of% @List.mem_map:=@List.mem_map
theorem sR:type_of% @Nat.le_trans:=@Nat.le_trans
theorem tC:type_of% @AllReady.nil:=@AllReady.nil
theorem vE:type_of% @Nat.zero_add:=@Nat.zero_add
theorem vF:type_of% @Nat.lt_or_ge:=@Nat.lt_or_ge
theorem vG:type_of% @List.map_map:=@List.map_map
theorem vM:type_of% @List.map_nil:=@List.map_nil
theorem xG:type_of% @Sem.run_bind:=@Sem.run_bind
theorem xP:type_of% @Nat.add_zero:=@Nat.add_zero
theorem xW:type_of% @Nat.zero_mul:=@Nat.zero_mul
theorem xX:type_of% @Nat.le_of_lt:=@Nat.le_of_lt
theorem yB:type_of% @Nat.mul_comm:=@Nat.mul_comm
theorem sC:type_of% @Nat.le_refl:=@Nat.le_refl
theorem tW:type_of% @Below.alloc:=@Below.alloc
theorem uC:type_of% @Below.trans:=@Below.trans
theorem vI:type_of% @Nat.zero_le:=@Nat.zero_le
theorem xF:type_of% @List.map_id:=@List.map_id
theorem yE:type_of% @Nat.le_succ:=@Nat.le_succ
theorem sB:type_of% @Below.refl:=@Below.refl
theorem uO:type_of% @Below.drew:=@Below.drew
theorem _root_.Go.RowKit.Hid.o{p:Prop}(h:RowKit.Hid p):p:=h
theorem Hi{p:Prop}(h:p):Hid p:=h
theorem zA{α:Type}(l:List α)(i:Nat)(a:α):l.toArray.setIfInBounds i a=(l.set i a).toArray:=List.setIfInBounds_toArray ..
theorem zB{α:Type}(x:α)(l:List α)(a:α):(x::l).set 0 a=a::l:=List.set_cons_zero ..
theorem zC{α:Type}(x:α)(l:List α)(n:Nat)(a:α):(x::l).set (n+1) a=x::l.set n a:=List.set_cons_succ ..
theorem cZ{w:World}{g:Nat}{t:TypeId}{cs:List Value}(h:Blk w g t cs.toArray)(i:Nat){v:Value}(hv:cs[i]?=some v):w.cell? ⟨g,i,none⟩=some v:=(h.cell i).trans (by simpa using hv)
theorem aF{w:World}{base:Nat}{e:TypeId}{size n:Nat}{v:Value}{xs:List Value}(h:w.ownsRow base e size v n xs){g:Nat}(hg:v.ownBlock=some g):base≤g∧g<w.heap.size:=by
 rcases h.2 with⟨rfl,_⟩|⟨g',cap,cur,rfl,hb,hh,_⟩
 ·simp[Value.ownBlock]at hg
 ·have:g'=g:=by simpa[Value.ownBlock] using hg
  subst this;exact⟨hb,by
   rcases vF g' w.heap.size with h'|h'
   ·exact h'
   ·simp[xR h']at hh⟩
theorem aU{w w':World}{base:Nat}{e:TypeId}{size n:Nat}{v:Value}{xs:List Value}(h:w.ownsRow base e size v n xs)(hk:∀g,v.ownBlock=some g→w'.heap[g]?=w.heap[g]?):w'.ownsRow base e size v n xs:=by
 obtain⟨h1,h2⟩:=h
 refine⟨h1,?_⟩
 rcases h2 with h2|⟨g,cap,cur,hv,hg,hh,r⟩
 ·exact Or.inl h2
 ·exact Or.inr ⟨g,cap,cur,hv,hg,by rw[hk g (by rw[hv];rfl)];exact hh,r⟩
theorem bU{w:World}{base base':Nat}{e:TypeId}{size n:Nat}{v:Value}{xs:List Value}(h:w.ownsRow base e size v n xs)(hb:∀g,v.ownBlock=some g→base'≤g):w.ownsRow base' e size v n xs:=by
 obtain⟨h1,h2⟩:=h
 refine⟨h1,?_⟩
 rcases h2 with h2|⟨g,cap,cur,hv,hg,hh,r⟩
 ·exact Or.inl h2
 ·exact Or.inr ⟨g,cap,cur,hv,hb g (by rw[hv];rfl),hh,r⟩
/-! append onto a slice of the call's own, the source nil, empty or not -/
section
variable{P:Program}(w:World)
theorem pH(base:Nat)(t ty e:TypeId)(i:TypeInfo)(size:Nat)(ht:P.underlying t=some (.slice e))(hi:P.info? e=some i)
 (v:Value) (n:Nat) (xs:List Value) (hown:w.ownsRow base e size v n xs) (c:Nat):(Builtin.append_ #[t,t] ty #[v,.slice none 0 c]).run P w=.ok v w:=by
 rcases hown.2 with⟨rfl,rfl⟩|⟨g,cap,cur,rfl,_,_,hnc,_⟩
 ·simp[Builtin.append_,run_underlying ht,sizeOf,typeInfo,hi,Builtin.lenOf,Builtin.firstCells]
 ·simp[Builtin.append_,run_underlying ht,sizeOf,typeInfo,hi,Builtin.lenOf,Builtin.firstCells,hnc,storeCells]
theorem lP(base:Nat)(t ty e:TypeId)(i:TypeInfo)(z:Value)(size bytes:Nat)(ht:P.underlying t=some (.slice e))(hi:P.info? e=some i)(hz:i.zero=some z)
 (hsize:i.size=size) (hby:i.bytes=bytes) (hzs:z.cells.size=size) (hsz:0<size)
 (v:Value) (n:Nat) (xs:List Value) (hown:w.ownsRow base e size v n xs)
 (D:Nat→Prop) (A:Option Addr) (m c:Nat) (news:List Value) (hr:aC D w size A m news) (h1:∀u∈news,u.oneCell'=true)
 (h63:n+m≤maxLen) (hbytes:(n+m)*bytes≤140737488355328) (hbase:base≤w.heap.size) :
 ∃v' w',(Builtin.append_ #[t,t] ty #[v,.slice A m c]).run P w=.ok v' w'∧w'.ownsRow base e size v' (n+m) (xs++news)∧w.grownBy w' v.ownBlock ∧
  (v'.ownBlock=v.ownBlock∨v'.ownBlock=some w.heap.size):=by
 rcases A with _|ad
 ·have hm:m=0:=by
   rcases uS m with h0|h0
   ·exact h0
   ·obtain⟨ad,h,_⟩:=hr.2 h0
    cases h
  subst hm;have hn:news=[]:=vD (by simpa using hr.1);subst hn;exact⟨v,w,pH w base t ty e i size ht hi v n xs hown c,by simpa using hown,World.grownBy.refl w _,.inl rfl⟩
 ·have hcells:∀j u,news[j]?=some u→w.cell? (ad.add j)=some u:=by
   intro j u hu;rcases uS m with h0|h0
   ·subst h0;have hn:news=[]:=vD (by simpa using hr.1);subst hn;simp at hu
   ·obtain⟨ad',h,_,hc⟩:=hr.2 h0
    injection h with h
    subst h;exact hc j u hu
  obtain⟨v',w',hrun,h2,h3,_,h5⟩:=run_append_own_at (P:=P) w base t ty e i z size bytes ht hi hz hsize hby hzs hsz v n xs hown ad m c news hr.1 hcells h1 h63 hbytes hbase
  exact⟨v',w',hrun,h2,h3,h5⟩
theorem nG{o:Oper}{a:Act}{K:Act→World→Prop}{Q:Exit→Act→World→Prop}(s x:Operand)(t:TypeId)
 (ho:o.op=.call { callee:=.builtin .append,args:=#[s,x],argTypes:=#[t,t] })
 (base:Nat) (e:TypeId) (i:TypeInfo) (z:Value) (size bytes:Nat) (ht:P.underlying t=some (.slice e)) (hi:P.info? e=some i) (hz:i.zero=some z)
 (hsize:i.size=size) (hby:i.bytes=bytes) (hzs:z.cells.size=size) (hsz:0<size)
 (v:Value) (n:Nat) (xs:List Value) (hs:a.eval s=v) (hown:w.ownsRow base e size v n xs)
 (D:Nat→Prop) (A:Option Addr) (m c:Nat) (news:List Value) (hx:a.eval x=.slice A m c) (hr:aC D w size A m news) (h1:∀u∈news,u.oneCell'=true)
 (h63:n+m≤maxLen) (hbytes:(n+m)*bytes≤140737488355328) (hbase:base≤w.heap.size)
 (h:∀v' w',w'.ownsRow base e size v' (n+m) (xs++news)→w.grownBy w' v.ownBlock→(v'.ownBlock=v.ownBlock∨v'.ownBlock=some w.heap.size)→K (a.put o.dst v') w'):o.wp P a w K Q:=by
 obtain⟨v',w',hrun,h2,h3,h4⟩:=lP (P:=P) w base t o.type e i z size bytes ht hi hz hsize hby hzs hsz v n xs hown D A m c news hr h1 h63 hbytes hbase
 unfold Oper.wp execOp;simp only[ho,resolve,invoke,builtin,xG,Sem.run_pure,xT,List.map_toArray,sT,vM,hs,hx,hrun];exact h v' w' h2 h3 h4
theorem aG{ops:Array Oper}{rest:List Oper}{o:Oper}{a:Act}{Q:Exit→Act→World→Prop}(hgd:o.guard=none)(s x:Operand)(t:TypeId)
 (ho:o.op=.call { callee:=.builtin .append,args:=#[s,x],argTypes:=#[t,t] })
 (base:Nat) (e:TypeId) (i:TypeInfo) (z:Value) (size bytes:Nat) (ht:P.underlying t=some (.slice e)) (hi:P.info? e=some i) (hz:i.zero=some z)
 (hsize:i.size=size) (hby:i.bytes=bytes) (hzs:z.cells.size=size) (hsz:0<size)
 (v:Value) (n:Nat) (xs:List Value) (hs:a.eval s=v) (hown:w.ownsRow base e size v n xs)
 (D:Nat→Prop) (A:Option Addr) (m c:Nat) (news:List Value) (hx:a.eval x=.slice A m c) (hr:aC D w size A m news) (h1:∀u∈news,u.oneCell'=true)
 (h63:n+m≤maxLen) (hbytes:(n+m)*bytes≤140737488355328) (hbase:base≤w.heap.size)
 (h:∀v' w',w'.ownsRow base e size v' (n+m) (xs++news)→w.grownBy w' v.ownBlock→(v'.ownBlock=v.ownBlock∨v'.ownBlock=some w.heap.size)→wpList P ops Q rest (a.put o.dst v') w'):wpList P ops Q (o::rest) a w :=
 wpList_plain hgd fun _ hK=>nG w s x t ho base e i z size bytes ht hi hz hsize hby hzs hsz v n xs hs hown D A m c news hx hr h1 h63 hbytes hbase fun v' w' h2 h3 h4=>hK _ _ (h v' w' h2 h3 h4)
theorem bN{ops:Array Oper}{o:Oper}{a:Act}{K:Act→World→Prop}{Q:Exit→Act→World→Prop}{E:Prop}(hgd:o.guard=none)(s x:Operand)(t:TypeId)
 (ho:o.op=.call { callee:=.builtin .append,args:=#[s,x],argTypes:=#[t,t] })
 (base:Nat) (e:TypeId) (i:TypeInfo) (z:Value) (size bytes:Nat) (ht:P.underlying t=some (.slice e)) (hi:P.info? e=some i) (hz:i.zero=some z)
 (hsize:i.size=size) (hby:i.bytes=bytes) (hzs:z.cells.size=size) (hsz:0<size)
 (v:Value) (n:Nat) (xs:List Value) (hs:a.eval s=v) (hown:w.ownsRow base e size v n xs)
 (D:Nat→Prop) (A:Option Addr) (m c:Nat) (news:List Value) (hx:a.eval x=.slice A m c) (hr:aC D w size A m news) (h1:∀u∈news,u.oneCell'=true)
 (h63:n+m≤maxLen) (hbytes:(n+m)*bytes≤140737488355328) (hbase:base≤w.heap.size)
 (h:∀v' w',w'.ownsRow base e size v' (n+m) (xs++news)→w.grownBy w' v.ownBlock→(v'.ownBlock=v.ownBlock∨v'.ownBlock=some w.heap.size)→K (a.put o.dst v') w') :
 if Region.wanted o (yielded ops a.tmps)=true then Oper.wp P o a w K Q else E:=by
 have hw:Region.wanted o (yielded ops a.tmps)=true:=by simp[Region.wanted,hgd]
 rw[if_pos hw];exact nG w s x t ho base e i z size bytes ht hi hz hsize hby hzs hsz v n xs hs hown D A m c news hx hr h1 h63 hbytes hbase h
end
theorem bJ{P:Program}{w:World}(t e:TypeId)(z:Value)(size bytes:Nat)(ht:P.underlying t=some (.slice e))(info:(P.info? e).map (fun i=>(i.zero,i.size,i.bytes))=some (some z,size,bytes))
 (hzs:z.cells.size=size) (hsz:0<size) {ops:Array Oper} {rest:List Oper} {o:Oper} {a:Act} {Q:Exit→Act→World→Prop} (hgd:o.guard=none) (s x:Operand)
 (ho:o.op=.call { callee:=.builtin .append,args:=#[s,x],argTypes:=#[t,t] })
 (base:Nat) (v:Value) (n:Nat) (xs:List Value) (hs:a.eval s=v) (hown:w.ownsRow base e size v n xs)
 (g c:Nat) (news:List Value) (hx:a.eval x=.slice (some ⟨g,0,none⟩) 1 c) (hl:news.length=size) (hnews:∀j u,news[j]?=some u→w.cell? ⟨g,j,none⟩=some u) (h1:∀u∈news,u.oneCell'=true)
 (hn:(n+1)*bytes≤140737488355328) (hn2:n+1≤4611686018427387904) (hbase:base≤w.heap.size)
 (h:∀v' w',w'.ownsRow base e size v' (n+1) (xs++news)→w.grownBy w' v.ownBlock→(v'.ownBlock=v.ownBlock∨v'.ownBlock=some w.heap.size)→wpList P ops Q rest (a.put o.dst v') w'):wpList P ops Q (o::rest) a w:=by
 obtain⟨i0,hi,hz0,hz1,hz2⟩:=info_parts info
 refine aG w hgd s x t ho base e i0 z size bytes ht hi hz0 hz1 hz2 hzs hsz v n xs hs hown (fun k=>k=g) (some ⟨g,0,none⟩) 1 c news hx ⟨by omega,fun _=>⟨_,rfl,rfl,fun j u hu=>?_⟩⟩ h1 (by simp only[maxLen];omega) hn hbase h;have e:(⟨g,0,none⟩:Addr).add j=⟨g,j,none⟩:=by
  unfold Addr.add;split
  ·rename_i h0;rw[h0]
  ·simp
 rw[e];exact hnews j u hu
theorem bT(w:World)(base:Nat)(e:TypeId)(size:Nat):w.ownsRow base e size (.slice none 0 0) 0 []:=⟨by simp,.inl ⟨rfl,rfl⟩⟩
structure Evo(w:World)(o:Option Nat)(w':World)(o':Option Nat):Prop where
 os:w'.os=w.os
 tape:w'.tape=w.tape
 output:w'.output=w.output
 size:w.heap.size≤w'.heap.size
 block:∀k,k<w.heap.size→o≠some k→w'.heap[k]?=w.heap[k]?
 lies:o'=o∨∃g,o'=some g∧w.heap.size≤g
theorem Evo.refl(w:World)(o:Option Nat):Evo w o w o:=⟨rfl,rfl,rfl,sC _,fun _ _ _=>rfl,.inl rfl⟩
theorem Evo.trans{a b c:World}{o o' o'':Option Nat}(h:Evo a o b o')(k:Evo b o' c o''):Evo a o c o'':=by
 refine⟨k.os.trans h.os,k.tape.trans h.tape,k.output.trans h.output,sR h.size k.size,fun i hi hn=>?_,?_⟩
 ·refine(k.block i (sE hi h.size) ?_).trans (h.block i hi hn)
  rcases h.lies with e|⟨g,e,hg⟩
  ·rw[e];exact hn
  ·rw[e];intro e2;injection e2 with e2;omega
 ·rcases k.lies with e|⟨g,e,hg⟩
  ·rw[e];exact h.lies
  ·exact .inr ⟨g,e,sR h.size hg⟩
theorem Evo.of_below{w w':World}{o:Option Nat}(h:Below w.heap.size w w'):Evo w o w' o:=⟨h.os,h.tape,h.output,h.size,fun k hk _=>h.block k hk,.inl rfl⟩
theorem Evo.of_append{w w':World}{o o':Option Nat}(h:w.grownBy w' o)(ho:o'=o∨o'=some w.heap.size):Evo w o w' o' :=
 ⟨h.os,h.tape,h.output,h.size,fun k hk hn=>h.block k hk (fun e=>hn e.symm),ho.imp id fun e=>⟨_,e,sC _⟩⟩
theorem Evo.alloc{a w:World}{o o':Option Nat}(h:Evo a o w o')(ob:Obj):Evo a o (w.alloc ob) o' :=
 ⟨h.os,h.tape,h.output,sR h.size (by simp),fun k hk hn=>(sO w ob k (sE hk h.size)).trans (h.block k hk hn),h.lies⟩
theorem Evo.drew{a w:World}{o o':Option Nat}(h:Evo a o w o'):Evo a o w.drew o':=⟨h.os,h.tape,h.output,h.size,h.block,h.lies⟩
theorem Evo.below{w w':World}{o o':Option Nat}(h:Evo w o w' o'){B:Nat}(hB:B≤w.heap.size)(ho:∀g,o=some g→B≤g):Below B w w' :=
 ⟨h.os,h.tape,h.output,h.size,fun k hk=>h.block k (by omega) (fun e=>by have:=ho k e;omega)⟩
theorem Evo.keeps{w w':World}{o o':Option Nat}{D:Nat→Prop}(h:Evo w o w' o')(hD:∀k,D k→k<w.heap.size∧o≠some k):dS D w w':=fun k hk=>h.block k (hD k hk).1 (hD k hk).2
theorem Evo.cell{w w':World}{o o':Option Nat}(h:Evo w o w' o'){p:Addr}(h1:p.block<w.heap.size)(h2:o≠some p.block):w'.cell? p=w.cell? p:=sM (w:=w) (h.block p.block h1 h2)
theorem Evo.least{w w':World}{o o':Option Nat}(h:Evo w o w' o'){B:Nat}(hB:B≤w.heap.size)(ho:∀g,o=some g→B≤g):∀g,o'=some g→B≤g:=by
 intro g hg;rcases h.lies with e|⟨g',e,hg'⟩
 ·exact ho g (by rw[←e];exact hg)
 ·rw[e]at hg;injection hg with hg;omega
theorem aS{w w':World}{base:Nat}{e:TypeId}{size n:Nat}{v:Value}{xs:List Value}(h:w.ownsRow base e size v n xs)(hb:Below w.heap.size w w'):w'.ownsRow base e size v n xs :=
 aU h fun g hg=>hb.block g (aF h hg).2
theorem eD(w:World)(t:TypeId)(cs:List Value){j:Nat}{u:Value}(h:cs[j]?=some u):(w.alloc (.cells cs.toArray t)).cell? ⟨w.heap.size,j,none⟩=some u:=by
 rw[(Blk.new w t cs.toArray).cell j];rw[List.getElem?_toArray];exact h
theorem Blk.grown{w w':World}{g:Nat}{t:TypeId}{cs:Array Value}{row:Option Nat}(h:Blk w g t cs)(hb:w.grownBy w' row)(hg:row≠some g):Blk w' g t cs:=(hb.block g h.lt (fun e=>hg e.symm)).trans h
theorem aJ{B:Nat}{a w:World}(h:Below B a w)(n:Nat):Below B a (w.drewN n):=⟨h.os,h.tape,h.output,h.size,h.block⟩
end
section
open Go.ChangeMaps (setBlock modify_eq_set set_perm map_eraseIdx heap_setBlock_same heap_setBlock_other)
open Go.MapKept Go.WideShapes Go.RowKit
open Go.WideElems (Fit rd rg pl rd_key rd_val rg_of rd_mk other_key)
open Go.Maps (Keyed)
def heldR(v:Value):Option (DataW Value×List MemPlace):=some (.held v,[])
def jA(es:Array MapEntry):List (Value×Value):=es.toList.map fun e=>(e.key,e.val)
def aI(w:World)(k:TypeId)(b:Nat)(l:List (Value×Value)):Prop :=
 ∃es clock,w.heap[b]?=some (.map es clock)∧Fit Tryz.prog k heldR es clock∧(jA es).Perm l
section
variable{w:World}{k e t:TypeId}{b:Nat}{l:List (Value×Value)}
theorem rd_held{P:Program}{x:MapEntry}{kl:Lit}(h:keyOf P k x.key=some kl):rd P k heldR x=some (kl,.held x.val):=by
 unfold rd;rw[h];rfl
theorem gI{α:Type}(l:List α)(j:Nat)(x:α)(h:l[j]?=some x):l.Perm (x::l.eraseIdx j):=by
 obtain⟨h1,h2⟩:=sF.1 h
 have:=set_perm l j h1 x
 rw[←h2,List.set_getElem_self,h2]at this;exact this
theorem aI.perm{l':List (Value×Value)}(h:aI w k b l)(hp:l.Perm l'):aI w k b l':=by
 obtain⟨es,c,hb,F,h⟩:=h
 exact⟨es,c,hb,F,h.trans hp⟩
theorem aI.lt(h:aI w k b l):b<w.heap.size:=by
 obtain⟨es,c,hb,_⟩:=h
 exact(vQ.1 hb).1
theorem aI.made(w:World)(k:TypeId):aI (w.alloc (.map #[] 0)) k w.heap.size [] :=
 ⟨#[],0,(MapKept.heap_alloc w _).1,⟨by simp,stamped_empty 0,by simp⟩,vP _⟩
theorem aI.keep{w':World}(h:aI w k b l)(hk:w'.heap[b]?=w.heap[b]?):aI w' k b l:=by
 obtain⟨es,c,hb,F,h⟩:=h
 exact⟨es,c,hk.trans hb,F,h⟩
theorem aI.no_cells(h:aI w k b l):∀cs t,w.heap[b]?≠some (.cells cs t):=by
 obtain⟨es,c,hb,_⟩:=h
 intro cs t e;rw[hb]at e;cases e
theorem aI.keys(h:aI w k b l):∀p∈l,∃kl,keyOf Tryz.prog k p.1=some kl:=by
 obtain⟨es,c,hb,F,h⟩:=h
 intro p hp;obtain⟨x,hx,rfl⟩:=sH.1 (h.mem_iff.2 hp)
 obtain⟨y,hy⟩:=F.reads x hx
 exact⟨_,rd_key hy⟩
theorem ents_apart{es:Array MapEntry}{c:Nat}(F:Fit Tryz.prog k heldR es c):(jA es).Pairwise (fun p q=>p.1≠q.1):=by
 unfold jA;rw[uU];exact((stamped_iff es c).1 F.stamped).2.2
theorem aI.apart(h:aI w k b l):l.Pairwise (fun p q=>p.1≠q.1):=by
 obtain⟨es,c,hb,F,h⟩:=h
 exact(h.pairwise_iff (fun {a b} (h:a.1≠b.1)=>h.symm)).1 (ents_apart F)
theorem aI.one(h:aI w k b l){p q:Value×Value}(hp:p∈l)(hq:q∈l)(he:p.1=q.1):p=q:=by
 have ha:=h.apart;clear h;induction l with
 |nil=>cases hp
 |cons x l ih =>
  obtain⟨h1,h2⟩:=vO.1 ha
  rcases sK.1 hp with ep|hp
  ·rcases sK.1 hq with eq|hq
   ·rw[ep,eq]
   ·rw[ep]at he;exact absurd he (h1 q hq)
  ·rcases sK.1 hq with eq|hq
   ·rw[eq]at he;exact absurd he.symm (h1 p hp)
   ·exact ih hp hq h2
theorem aI.hit(h:aI w k b l)(K:Keyed Tryz.prog k)(ht:Tryz.prog.underlying t=some (.map k e)){z:Value}(hz:(zeroValue e).run Tryz.prog w=.ok z w){key v:Value}(hm:(key,v)∈l)(c:Bool):
 (Instr.lookup t (.map (some b)) key c).run Tryz.prog w=.ok (if c then .tuple #[v,.bool true] else v) w:=by
 have h0:=h;obtain⟨es,cl,hb,F,hp⟩:=h
 obtain⟨kl,hkl⟩:=h0.keys _ hm
 rcases Maps.fit_look c K ht hz hb F hkl with⟨_,h2,_⟩|⟨e0,y,h1,h2,h3,_⟩
 ·obtain⟨x,hx,hx2⟩:=sH.1 (hp.mem_iff.2 hm)
  exact absurd (congrArg Prod.fst hx2) (h2 x hx)
 ·have:(e0.key,e0.val)=(key,v):=h0.one (hp.mem_iff.1 (sH.2 ⟨e0,h1,rfl⟩)) hm h2
  rw[h3,show e0.val=v from congrArg Prod.snd this]
theorem aI.miss(h:aI w k b l)(K:Keyed Tryz.prog k)(ht:Tryz.prog.underlying t=some (.map k e)){z:Value}(hz:(zeroValue e).run Tryz.prog w=.ok z w){key:Value}{kl:Lit}(hkl:keyOf Tryz.prog k key=some kl)(hm:∀p∈l,p.1≠key)(c:Bool):
 (Instr.lookup t (.map (some b)) key c).run Tryz.prog w=.ok (if c then .tuple #[z,.bool false] else z) w:=by
 obtain⟨es,cl,hb,F,hp⟩:=h
 rcases Maps.fit_look c K ht hz hb F hkl with⟨h1,h2,_⟩|⟨e0,y,h1,h2,_⟩
 ·exact h1
 ·exact absurd h2 (hm (e0.key,e0.val) (hp.mem_iff.1 (sH.2 ⟨e0,h1,rfl⟩)))
theorem aI.len(h:aI w k b l)(ht:Tryz.prog.underlying t=some (.map k e))(ty:TypeId):(Builtin.len_ #[t] ty #[.map (some b)]).run Tryz.prog w=.ok (.int .i64 l.length) w:=by
 obtain⟨es,cl,hb,F,hp⟩:=h
 have:l.length=es.size:=by rw[←hp.length_eq];simp[jA]
 rw[this];simp[Builtin.len_,run_underlying ht,MapKept.run_getObj_map hb,goInt,Result.andThen]
theorem hY{es es':Array MapEntry}{c c':Nat}(hb:w.heap[b]?=some (.map es c)):w.mapTurned (setBlock w b (.map es' c')) b:=⟨es,c,es',c',hb,rfl⟩
theorem aI.store(h:aI w k b l)(K:Keyed Tryz.prog k)(ht:Tryz.prog.underlying t=some (.map k e))(hn:l.length<maxLen){key v:Value}{kl:Lit}(hkl:keyOf Tryz.prog k key=some kl)(hm:∀p∈l,p.1≠key):
 ∃w',(Instr.mapUpdate t (.map (some b)) key v).run Tryz.prog w=.ok () w'∧aI w' k b (l++[(key,v)])∧w.mapTurned w' b:=by
 obtain⟨es,cl,hb,F,hp⟩:=h
 have hsz:es.size=l.length:=by rw[←hp.length_eq];simp[jA]
 rcases K.find w hkl es.toList F.keys with⟨h1,h2⟩|⟨j,e0,h1,h2,h3⟩
 ·refine⟨setBlock w b (.map (es.push ⟨key,v,cl⟩) (cl+1)),?_,⟨es.push ⟨key,v,cl⟩,cl+1,heap_setBlock_same hb _,⟨by simp;omega,stamped_push F.stamped h2,?_⟩,?_⟩,hY hb⟩
  ·simp[Instr.mapUpdate,run_underlying ht,MapKept.run_getObj_map hb,K.check w false hkl,h1,MapKept.run_setObj_map _ hb,Result.andThen,setBlock]
  ·intro x hx;simp only[Array.toList_push,sI,sN]at hx;rcases hx with hx|rfl
   ·exact F.reads x hx
   ·exact⟨_,rd_held hkl⟩
  ·unfold jA at hp ⊢;rw[Array.toList_push,sQ];exact hp.append_right _
 ·exact absurd h3 (hm (e0.key,e0.val) (hp.mem_iff.1 (sH.2 ⟨e0,sJ h2,rfl⟩)))
theorem qQ{α β:Type}{l l':List (α×β)}{p q:α×β}(hp:(p::l).Perm (q::l'))(he:p=q):l.Perm l':=by
 subst he;exact hp.cons_inv
theorem aI.over(h:aI w k b l)(K:Keyed Tryz.prog k)(ht:Tryz.prog.underlying t=some (.map k e)){key v v0:Value}{l':List (Value×Value)}(hm:l.Perm ((key,v0)::l')):
 ∃w',(Instr.mapUpdate t (.map (some b)) key v).run Tryz.prog w=.ok () w'∧aI w' k b ((key,v)::l')∧w.mapTurned w' b:=by
 have h0:=h;obtain⟨kl,hkl⟩:=h.keys (key,v0) (hm.mem_iff.2 (by simp))
 obtain⟨es,cl,hb,F,hp⟩:=h
 rcases K.find w hkl es.toList F.keys with⟨h1,h2⟩|⟨j,e0,h1,h2,h3⟩
 ·obtain⟨x,hx,hx2⟩:=sH.1 ((hp.trans hm).mem_iff.2 (tA ..))
  exact absurd (congrArg Prod.fst hx2) (h2 x hx)
 ·have hj:es[j]?=some e0:=by simpa using h2
  have hjl:j<es.toList.length:=(sF.1 h2).1;have hlist:(es.modify j (fun e'=>{ e' with key:=key,val:=v })).toList=es.toList.set j { e0 with key:=key,val:=v }:=by rw[Array.toList_modify,modify_eq_set _ _ _ _ h2]
  have hkeyf:∀e',es[j]?=some e'→({ e' with key:=key,val:=v } : MapEntry).key=e'.key:=fun e' he'=>by rw[hj]at he';cases he';exact h3.symm
  refine⟨setBlock w b (.map (es.modify j (fun e'=>{ e' with key:=key,val:=v })) cl),?_,⟨es.modify j (fun e'=>{ e' with key:=key,val:=v }),cl,heap_setBlock_same hb _,⟨by simpa using F.size,stamped_modify F.stamped _ _ (fun _ _=>rfl) (fun e' _ he'=>hkeyf e' he'),?_⟩,?_⟩,hY hb⟩
  ·simp[Instr.mapUpdate,run_underlying ht,MapKept.run_getObj_map hb,K.check w false hkl,h1,hj,h3,K.stays w hkl,MapKept.run_setObj_map _ hb,Result.andThen,setBlock]
  ·intro x hx;rw[hlist]at hx;rcases List.mem_or_eq_of_mem_set hx with hx|rfl
   ·exact F.reads x hx
   ·exact⟨_,rd_held (x:={ e0 with key:=key,val:=v }) hkl⟩
  ·unfold jA at hp ⊢;rw[hlist,List.map_set];have e1:((es.toList.map fun e=>(e.key,e.val)).set j (key,v)).Perm ((key,v)::(es.toList.map fun e=>(e.key,e.val)).eraseIdx j):=set_perm _ _ (by simpa using hjl) _;refine e1.trans (List.Perm.cons _ ?_);have e2:((es.toList.map fun e=>(e.key,e.val))).Perm ((e0.key,e0.val)::(es.toList.map fun e=>(e.key,e.val)).eraseIdx j):=by
    have h5:(es.toList.map fun e=>(e.key,e.val))[j]?=some (e0.key,e0.val):=by rw[uY,h2];rfl
    exact gI _ _ _ h5
   have e3:=(e2.symm.trans hp).trans hm;refine qQ e3 ?_;exact h0.one (hp.mem_iff.1 (e2.mem_iff.2 (tA ..))) (hm.mem_iff.2 (tA ..)) h3
theorem aI.drop(h:aI w k b l)(K:Keyed Tryz.prog k)(ht:Tryz.prog.underlying t=some (.map k e)){key v0:Value}{l':List (Value×Value)}(hm:l.Perm ((key,v0)::l'))(ty:TypeId):
 ∃w',(Builtin.delete_ #[t,k] ty #[.map (some b),key]).run Tryz.prog w=.ok (.tuple #[]) w'∧aI w' k b l'∧w.mapTurned w' b:=by
 have h0:=h;obtain⟨kl,hkl⟩:=h.keys (key,v0) (hm.mem_iff.2 (by simp))
 obtain⟨es,cl,hb,F,hp⟩:=h
 rcases K.find w hkl es.toList F.keys with⟨h1,h2⟩|⟨j,e0,h1,h2,h3⟩
 ·obtain⟨x,hx,hx2⟩:=sH.1 ((hp.trans hm).mem_iff.2 (tA ..))
  exact absurd (congrArg Prod.fst hx2) (h2 x hx)
 ·have hjl:j<es.toList.length:=(sF.1 h2).1;have hjs:j<es.size:=by simpa using hjl
  have hsub:(es.eraseIdxIfInBounds j).toList=es.toList.eraseIdx j:=by
   unfold Array.eraseIdxIfInBounds;rw[dif_pos hjs];simp
  refine⟨setBlock w b (.map (es.eraseIdxIfInBounds j) cl),?_,⟨_,cl,heap_setBlock_same hb _,⟨sR (MapFrom.size_erase es j) F.size,stamped_erase F.stamped j,?_⟩,?_⟩,hY hb⟩
  ·simp[Builtin.delete_,run_underlying ht,MapKept.run_getObj_map hb,K.check w _ hkl,h1,MapKept.run_setObj_map _ hb,Result.andThen,setBlock]
  ·intro x hx;rw[hsub]at hx;exact F.reads x ((xS _ _).subset hx)
  ·unfold jA at hp ⊢;rw[hsub,map_eraseIdx];have e2:((es.toList.map fun e=>(e.key,e.val))).Perm ((e0.key,e0.val)::(es.toList.map fun e=>(e.key,e.val)).eraseIdx j):=by
    have h5:(es.toList.map fun e=>(e.key,e.val))[j]?=some (e0.key,e0.val):=by rw[uY,h2];rfl
    exact gI _ _ _ h5
   have e3:=(e2.symm.trans hp).trans hm;refine qQ e3 ?_;exact h0.one (hp.mem_iff.1 (e2.mem_iff.2 (tA ..))) (hm.mem_iff.2 (tA ..)) h3
def bD(w:World)(k:TypeId)(b r:Nat)(l todo:List (Value×Value)):Prop :=
 ∃es clock since seen c0,w.heap[b]?=some (.map es clock)∧Fit Tryz.prog k heldR es clock∧(jA es).Perm l∧w.heap[r]?=some (.mapIter (some b) since seen c0) ∧
  (∀x∈es.toList,x.born<since)∧(jA (leftOf es seen)).Perm todo∧since≤c0∧since≤clock
theorem bD.map{r:Nat}{todo:List (Value×Value)}(h:bD w k b r l todo):aI w k b l:=by
 obtain⟨es,c,_,_,_,hb,F,hp,_⟩:=h
 exact⟨es,c,hb,F,hp⟩
theorem bD.lt{r:Nat}{todo:List (Value×Value)}(h:bD w k b r l todo):r<w.heap.size:=by
 obtain⟨es,c,_,_,_,hb,F,hp,hr,_⟩:=h
 exact(vQ.1 hr).1
theorem bD.keep{w':World}{r:Nat}{todo:List (Value×Value)}(h:bD w k b r l todo)(hk:w'.heap[b]?=w.heap[b]?)(hk':w'.heap[r]?=w.heap[r]?):bD w' k b r l todo:=by
 obtain⟨es,c,s,sn,c0,hb,F,hp,hr,rest⟩:=h
 exact⟨es,c,s,sn,c0,hk.trans hb,F,hp,hk'.trans hr,rest⟩
theorem bD.no_cells{r:Nat}{todo:List (Value×Value)}(h:bD w k b r l todo):∀cs t,w.heap[r]?≠some (.cells cs t):=by
 obtain⟨es,c,_,_,_,hb,F,hp,hr,_⟩:=h
 intro cs t e;rw[hr]at e;cases e
theorem bD.sub{r:Nat}{todo:List (Value×Value)}(h:bD w k b r l todo):∀p∈todo,p∈l:=by
 obtain⟨es,c,_,sn,_,hb,F,hp,hr,_,ht,_⟩:=h
 intro p hp';obtain⟨x,hx,rfl⟩:=sH.1 (ht.mem_iff.2 hp')
 exact hp.mem_iff.1 (sH.2 ⟨x,by simp[leftOf]at hx;simpa using hx.1,rfl⟩)
theorem aI.range(h:aI w k b l)(ht:Tryz.prog.underlying t=some (.map k e)):
 ∃w',(Instr.range t (.map (some b))).run Tryz.prog w=.ok (.pointer (some ⟨w.heap.size,0,none⟩)) w'∧bD w' k b w.heap.size l l∧Below w.heap.size w w'∧w'.heap.size=w.heap.size+1:=by
 have hlt:=h.lt;obtain⟨es,clock,hb,F,hp⟩:=h
 refine⟨_,run_range_map w t k e b es clock ht hb,⟨es,clock,clock,#[],clock,((MapKept.heap_alloc w _).2 b hlt).trans hb,F,hp,(MapKept.heap_alloc w _).1,F.stamped.1,?_,sC _,sC _⟩,(sB _ _).alloc (sC _) _,by simp⟩
 have:leftOf es #[]=es:=by simp[leftOf]
 rw[this];exact hp
theorem bD.next{r:Nat}{todo:List (Value×Value)}(h:bD w k b r l todo)(ty:TypeId):
 (todo=[]∧(Instr.next (.pointer (some ⟨r,0,none⟩)) false ty).run Tryz.prog w=.ok (.tuple #[.bool false]) w) ∨
 ∃key v todo' w',todo.Perm ((key,v)::todo')∧(Instr.next (.pointer (some ⟨r,0,none⟩)) false ty).run Tryz.prog w=.ok (.tuple #[.bool true,key,v]) w' ∧
  bD w' k b r l todo'∧w.grownBy w' (some r)∧w'.heap.size=w.heap.size∧(Instr.entry (.pointer (some ⟨r,0,none⟩))).run Tryz.prog w'=.ok (.tuple #[key,v]) w':=by
 obtain⟨es,clock,since,seen,c0,hb,F,hp,hr,hold,htodo,hsc,hsk⟩:=h
 have hne:r≠b:=by intro e;rw[e,hb]at hr;cases hr
 rcases run_next_at (P:=Tryz.prog) w ty r b since c0 seen es clock hr hb hold hsc with⟨h0,hrun⟩|⟨x,hx,w1,hal,hrun⟩
 ·left;refine⟨?_,hrun⟩
  have:=htodo.length_eq
  simp only[jA,sP,vJ,h0]at this;exact tV.1 this.symm
 ·right;obtain⟨hem,hes⟩:=mem_left hx
  have hr1:w1.heap[r]?=some (.mapIter (some b) since seen c0):=by rcases hal with rfl|rfl<;>exact hr
  have hb1:w1.heap[b]?=some (.map es clock):=by rcases hal with rfl|rfl<;>exact hb
  have hset:=heap_set (o':=.mapIter (some b) since (seen.push x.born) clock) hr1;have hb':(setBlock w1 r (.mapIter (some b) since (seen.push x.born) clock)).heap[b]?=some (.map es clock):=(hset.2 b (fun e1=>hne e1.symm)).trans hb1;have hborn:=((stamped_iff es clock).1 F.stamped).2.1;refine⟨x.key,x.val,jA (leftOf es (seen.push x.born)),_,htodo.symm.trans ?_,hrun,⟨es,clock,since,seen.push x.born,clock,hb',F,hp,hset.1,hold,vP _,hsk,hsk⟩,?_,?_,run_entry_at _ r b since seen es clock x hset.1 hb' hem hborn⟩
  ·have key:∀L:List MapEntry,(L.map (·.born)).Nodup→x∈L→seen.contains x.born=false→((L.filter fun e=>!seen.contains e.born).map fun e=>(e.key,e.val)).Perm ((x.key,x.val)::(L.filter fun e=>!(seen.push x.born).contains e.born).map fun e=>(e.key,e.val)):=by
    intro L;induction L with
    |nil=>intro _ h _;cases h
    |cons y L ih =>
     intro hn hm hs;rw[sT,tN]at hn;have hstep:∀z∈L,z.born≠y.born:=fun z hz e=>hn.1 (sH.2 ⟨z,hz,e⟩)
     by_cases hxy:x=y
     ·subst hxy;rw[uI (by rw[hs];rfl),uJ (by rw[contains_push];simp),sT];refine List.Perm.cons _ (List.Perm.of_eq ?_);congr 1;refine wX fun z hz=>?_
      rw[contains_push];have:(z.born == x.born)=false:=by simp[hstep z hz]
      rw[this];simp
     ·have hm':x∈L:=by rcases sK.1 hm with e|h;exact absurd e hxy;exact h
      have ih':=ih hn.2 hm' hs;have hb2:(y.born == x.born)=false:=by simp[(hstep x hm').symm]
      have hc:(seen.push x.born).contains y.born=seen.contains y.born:=by rw[contains_push,hb2];simp
      cases hsy:seen.contains y.born with
      |true=>rw[uJ (by rw[hsy];simp),uJ (by rw[hc,hsy];simp)];exact ih'
      |false =>
       rw[uI (by rw[hsy];rfl),uI (by rw[hc,hsy];rfl),sT,sT];exact(List.Perm.cons _ ih').trans (List.Perm.swap _ _ _)
   have:=key es.toList hborn hem hes
   simpa[jA,leftOf] using this
  ·rcases hal with rfl|rfl<;>exact⟨rfl,rfl,rfl,by simp[setBlock],fun i _ hi=>hset.2 i (fun e1=>hi (by rw[e1]))⟩
  ·rcases hal with rfl|rfl<;>simp[setBlock]
end
end
section
def bV(l:List UInt8):List Value:=l.map fun c=>.int .u8 (c.toNat:Int)
def intsC(l:List Int):List Value:=l.map fun n=>.int .i64 n
theorem fY(l r:List UInt8):bV (l++r)=bV l++bV r:=by simp[bV]
theorem bytesC_length(l:List UInt8):(bV l).length=l.length:=by simp[bV]
theorem intsC_length(l:List Int):(intsC l).length=l.length:=by simp[intsC]
theorem jM(l:List UInt8):∀u∈bV l,u.oneCell'=true:=by
 intro u hu;simp only[bV,sH]at hu;obtain⟨c,_,rfl⟩:=hu;rfl
def nB:Nat→Nat→List UInt8
 |0,n=>[UInt8.ofNat n]
 |f+1,n=>if n<128 then [UInt8.ofNat n] else UInt8.ofNat (n % 128+128)::nB f (n / 128)
def gE(n:Nat):List UInt8:=nB 9 n
theorem oH{f n:Nat}(h:n<128):nB f n=[UInt8.ofNat n]:=by cases f<;>simp[nB,h]
theorem putF_big{f n:Nat}(h:¬n<128):nB (f+1) n=UInt8.ofNat (n % 128+128)::nB f (n / 128):=by simp[nB,h]
theorem rP:∀(f n:Nat),1≤(nB f n).length∧(nB f n).length≤f+1
 |0,n=>by simp[nB]
 |f+1,n=>by
  simp only[nB];split
  ·simp
  ·have:=rP f (n / 128)
   simp;omega
theorem iO(n:Nat):1≤(gE n).length∧(gE n).length≤10:=rP 9 n
def lN:Nat→Nat→List UInt8→Option (Nat×Nat)
 |_,_,[]=>none
 |i,acc,c::r =>
  if i=9∧1<c.toNat∨9<i then none
  else if c.toNat<128 then (if c.toNat=0∧0<i then none else some (acc+c.toNat % 128*2 ^ (7*i),i+1))
  else lN (i+1) (acc+c.toNat % 128*2 ^ (7*i)) r
def nC(l:List UInt8):Option (Nat×Nat):=lN 0 0 l
theorem getG_at:∀(l:List UInt8) (i acc n k:Nat),lN i acc l=some (n,k)→i<k∧k≤i+l.length
 | [],i,acc,n,k,h=>by simp[lN]at h
 |c::r,i,acc,n,k,h=>by
  simp only[lN]at h;split at h
  ·cases h
  ·split at h
   ·split at h
    ·cases h
    ·simp only[uA,uT]at h;simp;omega
   ·have:=getG_at r _ _ _ _ h
    simp;omega
theorem getN_at{l:List UInt8}{n k:Nat}(h:nC l=some (n,k)):1≤k∧k≤l.length:=by
 have:=getG_at l 0 0 n k h;omega
theorem getG_lt:∀(l:List UInt8) (i acc n k:Nat),acc<2 ^ (7*i)→lN i acc l=some (n,k)→n<2 ^ 64
 | [],i,acc,n,k,_,h=>by simp[lN]at h
 |c::r,i,acc,n,k,ha,h=>by
  simp only[lN]at h;have hp:2 ^ (7*(i+1))=128*2 ^ (7*i):=by rw[Nat.mul_add,Nat.pow_add];omega
  have hm:c.toNat % 128*2 ^ (7*i)≤127*2 ^ (7*i):=wU _ (by omega);split at h
  ·cases h
  ·rename_i hg;split at h
   ·rename_i h128;split at h
    ·cases h
    ·simp only[uA,uT]at h;by_cases h9:i=9
     ·subst h9;have hc:c.toNat % 128≤1:=by omega
      have:c.toNat % 128*2 ^ (7*9)≤1*2 ^ (7*9):=wU _ hc
      omega
     ·have hi:7*(i+1)≤63:=by omega
      have:2 ^ (7*(i+1))≤2 ^ 63:=Nat.pow_le_pow_right (by omega) hi
      omega
   ·exact getG_lt r _ _ _ _ (by omega) h
theorem getN_lt{l:List UInt8}{n k:Nat}(h:nC l=some (n,k)):n<2 ^ 64:=getG_lt l 0 0 n k (by simp) h
theorem gK{n:Nat}(h:n<256):(UInt8.ofNat n).toNat=n:=by simp;omega
theorem getG_putF:∀(f n i acc:Nat) (more:List UInt8),f+i=9→n<2 ^ (64-7*i)→(0<i→0<n)→lN i acc (nB f n++more)=some (acc+n*2 ^ (7*i),i+(nB f n).length)
 |0,n,i,acc,more,hfi,hn,hz=>by
  have h9:i=9:=by omega
  subst h9;simp only[nB,wQ,wZ,lN];have hn2:n<2:=by simpa using hn
  rw[gK (by omega)];rw[if_neg (by omega),if_pos (by omega),if_neg (by omega),Nat.mod_eq_of_lt (by omega)];rfl
 |f+1,n,i,acc,more,hfi,hn,hz=>by
  by_cases h:n<128
  ·rw[oH h];simp only[wQ,wZ,lN];rw[gK (by omega),if_neg (by omega),if_pos h,if_neg (by omega),Nat.mod_eq_of_lt h];rfl
  ·rw[putF_big h];simp only[wQ,lN];rw[gK (by omega),if_neg (by omega),if_neg (by omega)];have hp:2 ^ (7*(i+1))=128*2 ^ (7*i):=by rw[Nat.mul_add,Nat.pow_add];omega
   have hq:2 ^ (64-7*i)=128*2 ^ (64-7*(i+1)):=by
    rw[show 64-7*i=(64-7*(i+1))+7 by omega,Nat.pow_add];omega
   rw[getG_putF f (n / 128) (i+1) _ more (by omega) (by omega) (by omega)];have e1:(n % 128+128) % 128=n % 128:=by omega
   have e2:n % 128*2 ^ (7*i)+n / 128*2 ^ (7*(i+1))=n*2 ^ (7*i):=by
    rw[hp,←Nat.mul_assoc,←Nat.add_mul];congr 1;omega
   rw[e1,tL,e2];simp;omega
theorem getN_putN(n:Nat)(more:List UInt8)(h:n<2 ^ 64):nC (gE n++more)=some (n,(gE n).length):=by
 have:=getG_putF 9 n 0 0 more rfl (by simpa using h) (by omega)
 simpa[nC,gE] using this
theorem putF_getG:∀(l:List UInt8) (f i acc n k:Nat),f+i=9→lN i acc l=some (n,k)→∃m,n=acc+m*2 ^ (7*i)∧(0<i→0<m)∧l.take (k-i)=nB f m
 | [],f,i,acc,n,k,_,h=>by simp[lN]at h
 |c::r,f,i,acc,n,k,hfi,h=>by
  have hc256:c.toNat<256:=c.toNat_lt;simp only[lN]at h;split at h
  ·cases h
  ·rename_i hg;split at h
   ·rename_i h128;split at h
    ·cases h
    ·rename_i hz;simp only[uA,uT]at h;refine⟨c.toNat,by rw[←h.1];congr 1;rw[Nat.mod_eq_of_lt h128],by omega,?_⟩
     rw[oH h128,show k-i=1 by omega];simp
   ·rename_i h128;obtain _|f:=f
    ·omega
    ·obtain⟨m,hm,hpos,ht⟩:=putF_getG r f (i+1) _ n k (by omega) h
     have hk:=getG_at r _ _ _ _ h;have hm1:=hpos (by omega);refine⟨c.toNat % 128+128*m,?_,by omega,?_⟩
     ·have hp:2 ^ (7*(i+1))=128*2 ^ (7*i):=by rw[Nat.mul_add,Nat.pow_add];omega
      rw[hm,hp,←Nat.mul_assoc,tL,←Nat.add_mul,yB m 128]
     ·rw[putF_big (by omega),show k-i=(k-(i+1))+1 by omega,sV,ht];congr 1
      ·rw[←UInt8.toNat_inj,gK (by omega)];omega
      ·congr 1;omega
theorem putN_getN{l:List UInt8}{n k:Nat}(h:nC l=some (n,k)):l.take k=gE n:=by
 obtain⟨m,hm,_,ht⟩:=putF_getG l 9 0 0 n k rfl h
 have:n=m:=by rw[hm];simp
 subst this;simpa[gE] using ht
def zz(n:Int):Nat:=if 0≤n then (2*n).toNat else (-2*n-1).toNat
def unzz(m:Nat):Int:=if m % 2=0 then (m / 2:Nat) else -((m / 2:Nat):Int)-1
theorem unzz_zz(n:Int):unzz (zz n)=n:=by unfold unzz zz;split<;>split<;>omega
theorem zz_unzz(m:Nat):zz (unzz m)=m:=by unfold unzz zz;split<;>split<;>omega
theorem zz_lt{n:Int}(h:-9223372036854775808≤n∧n≤9223372036854775807):zz n<2 ^ 64:=by unfold zz;split<;>omega
theorem unzz_bd{m:Nat}(h:m<2 ^ 64):-9223372036854775808≤unzz m∧unzz m≤9223372036854775807:=by unfold unzz;split<;>omega
def jP(n:Int):List UInt8:=gE (zz n)
def getS(l:List UInt8):Option (Int×Nat):=(nC l).map fun x=>(unzz x.1,x.2)
end
section
theorem pI{k:IntKind}{a b:Int}(h:a=b):Ending.returned (.int k a)=.returned (.int k b):=by rw[h]
theorem aM{a b:Bool}(h:a=b):Ending.returned (.bool a)=.returned (.bool b):=by rw[h]
theorem pT:(Tryz.prog.info? 5).map (fun i=>(i.zero,i.size,i.bytes))=some (some (.int .u8 0),1,1):=by kernel_rfl
theorem reads_new(wr:World)(t:TypeId)(c:UInt8)(x:Int)(hx:x=(c.toNat:Int))(H:Nat)(hH:wr.heap.size=H):aC (fun k=>k=H) (wr.alloc (.cells #[.int .u8 x] t)) 1 (some ⟨H,0,none⟩) 1 (bV [c]):=by
 subst hx;subst hH;refine⟨by simp[bV],fun _=>⟨_,rfl,rfl,fun j u hu=>?_⟩⟩
 match j,hu with
 |0,hu=>simp[bV]at hu;subst hu;simp[Addr.add]
 |j+1,hu=>simp[bV]at hu
theorem lG{α:Type}{l:List α}{k:Nat}(h:k<l.length):∃x,l[k]?=some x:=⟨l[k],sD h⟩
theorem conv_reads{l:List UInt8}{D:Nat→Prop}{A:Option Addr}{c:Nat}{w:World}(hr:aC D w 1 A l.length (bV l)):
 (convert 141 9 (.slice A l.length c)).run Tryz.prog w=.ok (.string ⟨l.toArray⟩) w:=by
 rcases uS l.length with h0|h0
 ·have:l=[]:=tV.1 h0
  subst this;rw[run_convert_bytes_string w 141 9 5 A _ c Tryz.underlying141 Tryz.underlying5 Tryz.underlying9];cases A with
  |none=>simp[Conv.bytesToString];rfl
  |some a =>
   have:=run_convert_bytes_back (P:=Tryz.prog) w 141 9 5 a c [] Tryz.underlying141 Tryz.underlying5 Tryz.underlying9 (fun j hj=>by simp at hj)
   rw[run_convert_bytes_string w 141 9 5 (some a) _ c Tryz.underlying141 Tryz.underlying5 Tryz.underlying9]at this;exact this
 ·obtain⟨ad,rfl,_,hc⟩:=hr.2 h0
  refine run_convert_bytes_back w 141 9 5 ad c l Tryz.underlying141 Tryz.underlying5 Tryz.underlying9 (fun j hj=>?_);exact hc j _ (by simp[bV,sD hj])
end
section
theorem aK{P:Program}{ops:Array Oper}{w:World}{Q:Act→Prop}{a:Act}{o:Oper}{rest:List Oper}(hw:Region.wanted o (yielded ops a.tmps)=true)
 (h:∀K:Act→Prop,(∀a,wpStill P ops w Q rest a→K a)→o.still P a w K):wpStill P ops w Q (o::rest) a :=
 wpStill_step fun K hK=>by rw[if_pos hw];exact h K hK
theorem aO{P:Program}{ops:Array Oper}{w:World}{Q:Act→Prop}{a:Act}{o:Oper}{rest:List Oper}(hw:Region.wanted o (yielded ops a.tmps)=false)
 (h:wpStill P ops w Q rest (a.put o.dst undef)):wpStill P ops w Q (o::rest) a :=
 wpStill_step fun K hK=>by rw[hw];exact hK _ h
end
section
abbrev Rf:=Int×Int
def bB(r:Rf):Value:=.agg #[.int .i64 r.1,.int .i64 r.2]
def aE(l:List Rf):List Value:=l.flatMap fun r=>[.int .i64 r.1,.int .i64 r.2]
theorem aY:∀(l:List Rf),(aE l).length=l.length*2
 | []=>rfl
 |r::l=>by have:=aY l;simp only[aE,tM,sG,sW,wA]at this ⊢;omega
theorem bC(a b:List Rf):aE (a++b)=aE a++aE b:=by simp[aE]
theorem aL:∀ {l:List Rf} {k:Nat} {r:Rf},l[k]?=some r→(aE l)[k*2]?=some (.int .i64 r.1)∧(aE l)[k*2+1]?=some (.int .i64 r.2)
 | [],k,r,h=>by simp at h
 |x::l,0,r,h=>by simp at h;subst h;simp[aE]
 |x::l,k+1,r,h=>by
  have:=aL (l:=l) (k:=k) (by simpa using h)
  have e:aE (x::l)=.int .i64 x.1::.int .i64 x.2::aE l:=by simp[aE]
  rw[e,show(k+1)*2=k*2+1+1 from by omega,wE,wE,show k*2+1+1+1=(k*2+1)+1+1 from rfl,wE,wE];exact this
def dZ(r:Rf):Bool:=decide (1≤r.1∧r.1≤99)&&decide (1≤r.2∧r.2≤1000000)
def cK:Int→List Rf→Nat
 |_,[]=>0
 |p,r::l=>if dZ r=false then 1 else if r.1≤p then 5 else cK r.1 l
def eA(k:Nat):Value:=if k=0 then .nilIface else .iface 101 (.int .i64 k)
theorem cactor_any(x:Int)(w:World):Calls Tryz.prog 182 #[.int .i64 x] w fun e w'=>e=.returned (.bool (decide (1≤x∧x≤99)))∧w'=w:=by
 by_cases h1:1≤x
 ·have h1':decide (1≤x)=true:=decide_eq_true h1;have h2:decide (1≤x∧x≤99)=decide (x≤99):=by simp[h1]
  rw[h2];go_enter Tryz.func182,Tryz.ntmps182;go_wp2_with fail
  go_ret;exact⟨rfl,rfl⟩
 ·have h1':decide (1≤x)=false:=decide_eq_false h1;have h2:decide (1≤x∧x≤99)=false:=by simp[h1]
  rw[h2];go_enter Tryz.func182,Tryz.ntmps182;go_wp2_with fail
  go_ret;exact⟨rfl,rfl⟩
theorem cnum_any(x:Int)(w:World):Calls Tryz.prog 183 #[.int .i64 x] w fun e w'=>e=.returned (.bool (decide (1≤x∧x≤1000000)))∧w'=w:=by
 by_cases h1:1≤x
 ·have h1':decide (1≤x)=true:=decide_eq_true h1;have h2:decide (1≤x∧x≤1000000)=decide (x≤1000000):=by simp[h1]
  rw[h2];go_enter Tryz.func183,Tryz.ntmps183;go_wp2_with fail
  go_ret;exact⟨rfl,rfl⟩
 ·have h1':decide (1≤x)=false:=decide_eq_false h1;have h2:decide (1≤x∧x≤1000000)=false:=by simp[h1]
  rw[h2];go_enter Tryz.func183,Tryz.ntmps183;go_wp2_with fail
  go_ret;exact⟨rfl,rfl⟩
theorem cref_any(r:Rf)(w:World):Calls Tryz.prog 160 #[bB r] w fun e w'=>e=.returned (.bool (dZ r))∧Below w.heap.size w w':=by
 obtain⟨a,s⟩:=r
 simp only[bB,dZ];have ha:=cactor_any a;have hs:=cnum_any s;generalize decide (1≤a∧a≤99)=x at *;generalize decide (1≤s∧s≤1000000)=y at *;cases x with
 |false =>
  go_enter Tryz.func160,Tryz.ntmps160;go_wp2_with fail
  go_at_call 182;refine(ha _).mono ?_
  rintro e w1 ⟨rfl,rfl⟩;go_wp2_with fail
  go_ret;exact⟨rfl,(sB _ w).alloc (sC _) _⟩
 |true =>
  go_enter Tryz.func160,Tryz.ntmps160;go_wp2_with fail
  go_at_call 182;refine(ha _).mono ?_
  rintro e w1 ⟨rfl,rfl⟩;go_wp2_with fail
  go_at_call 183;refine(hs _).mono ?_
  rintro e w1 ⟨rfl,rfl⟩;go_wp2_with fail
  go_ret;exact⟨rfl,(sB _ w).alloc (sC _) _⟩
theorem refs_any(l:List Rf)(D:Nat→Prop)(A:Option Addr)(c:Nat)(w:World)(hr:aC D w 2 A l.length (aE l))(hD:∀k,D k→k<w.heap.size)(hl:l.length≤9223372036854775807):
 Calls Tryz.prog 161 #[.slice A l.length c] w fun e w'=>e=.returned (eA (cK 0 l))∧Below w.heap.size w w':=by
 have HR:=Hi hr;have HD:=Hi hD;clear hr hD;obtain⟨n,hn⟩:∃n,l.length=n:=⟨_,rfl⟩
 have HN:=Hi hn;rw[hn]at hl ⊢;clear hn;go_enter Tryz.func161,Tryz.ntmps161;go_wp2_with fail
 go_loopw [7] (fun s7 wr=>∃k:Nat,k≤n∧s7=.int .i64 k∧Hid (Below w.heap.size w wr∧∃p:Int,cK 0 l=cK p (l.drop k)∧(k=0→p=0)∧(∀j r,k=j+1→l[j]?=some r→p=r.1)) ) (fun s7 _=>n-(intOf s7).toNat)
 case atStart=>exact⟨0,by omega,rfl,⟨sB _ _,0,by simp,fun _=>rfl,fun j r h=>by omega⟩⟩
 case round =>
  obtain⟨k,hk,rfl,HI⟩:=hrel
  by_cases hlt:k<n
  ·obtain⟨b,off,rfl,hb,hcell⟩:=HR.o.at_ (by rw[HN.o];omega) (by omega)
   obtain⟨r,hr⟩:∃r,l[k]?=some r:=⟨_,sD (by rw[HN.o];exact hlt)⟩
   have hbl:=HD.o b hb;have hblk:∀o,wr.cell? ⟨b,o,none⟩=w.cell? ⟨b,o,none⟩:=fun o=>sM (w:=w) (HI.o.1.block b hbl)
   obtain⟨h1,h2⟩:=aL hr
   have x1:wr.cell? ⟨b,off+k*2,none⟩=some (.int .i64 r.1):=by rw[hblk];exact hcell _ _ h1
   have x2:wr.cell? ⟨b,off+k*2+1,none⟩=some (.int .i64 r.2):=by rw[hblk];exact hcell _ _ h2
   clear hblk hcell h1 h2;have HX:=Hi hr;clear hr;go_wp2_with fail
   go_at_call 160;refine(cref_any r _).mono ?_
   rintro e w2 ⟨rfl,hb2⟩;have hs1:wr.heap.size<w2.heap.size:=by have:=hb2.size;simp at this;omega
   have hc4:w2.cell? ⟨wr.heap.size,0,none⟩=some (.int .i64 r.1):=by
    rw[sM (w:=wr.alloc (.cells #[.int .i64 r.1,.int .i64 r.2] 77)) (hb2.block wr.heap.size (by simp))];exact(Blk.new wr _ _).cell 0
   have HB2:Hid (Below w.heap.size w w2):=(HI.o.1.alloc HI.o.1.size _).trans (hb2.mono (by have:=HI.o.1.size;simp;omega));clear hb2 x1 x2;obtain⟨p,hp1,hp2,hp3⟩:=HI.o.2
   have hdr:l.drop k=r::l.drop (k+1):=by
    have hl:k<l.length:=by rw[HN.o];exact hlt
    have:=HX.o
    rw[sD hl]at this;rw[tJ hl,tF this]
   have hre:cK p (r::l.drop (k+1))=if dZ r=false then 1 else if r.1≤p then 5 else cK r.1 (l.drop (k+1)):=rfl
   rw[hdr,hre]at hp1;clear hdr hre;cases hir:dZ r with
   |false =>
    rw[hir,if_pos rfl]at hp1;have HP:=Hi hp1;clear hp1 hp2 hp3 hir;go_wp2_with fail
    go_ret;exact⟨by rw[HP.o];rfl,HB2.o⟩
   |true =>
    rw[hir,if_neg (by simp)]at hp1;have hr1:1≤r.1:=by
     simp only[dZ,tB,decide_eq_true_eq]at hir;exact hir.1.1
    have HP:=Hi (And.intro hp1 (And.intro hp2 hp3));clear hp1 hp2 hp3 hir;by_cases hk0:k=0
    ·have hpz:=HP.o.2.1 hk0;have HE:Hid (cK 0 l=cK r.1 (l.drop (k+1))):=by
      have:=HP.o.1
      rw[hpz,if_neg (by omega)]at this;exact this
     have d1:decide (0<(k:Int))=false:=decide_eq_false (by omega);have d1':decide (0<k)=false:=decide_eq_false (by omega);clear hk0 hpz;go_wp2_with fail
     go_quiet (fail)
     change Exit.then _ _ _ _ (w2.drewN nq);have HB3:Hid (Below w.heap.size w (w2.drewN nq)):=aJ HB2.o nq;generalize w2.drewN nq=w3 at HB3 ⊢;clear hc4 hs1;go_wp2_with fail
     go_roundw
     case rel =>
      refine⟨k+1,hlt,by go_num,⟨HB3.o,r.1,HE.o,fun e=>by omega,fun j r' e h=>?_⟩⟩
      obtain rfl:j=k:=by omega
      rw[HX.o]at h;cases h;rfl
     case measure=>simp[intOf];omega
    ·have d1:decide (0<(k:Int))=true:=decide_eq_true (by omega);have d1':decide (0<k)=true:=decide_eq_true (by omega);obtain⟨r0,hr0⟩:∃r,l[k-1]?=some r:=⟨_,sD (by rw[HN.o];omega)⟩
     have hp0:=HP.o.2.2 (k-1) r0 (by omega) hr0;have hblk:∀o,w2.cell? ⟨b,o,none⟩=w.cell? ⟨b,o,none⟩:=fun o=>sM (w:=w) (HB2.o.block b hbl)
     obtain⟨b2,off2,e2,-,hcell2⟩:=HR.o.at_ (by rw[HN.o];omega) (by omega)
     simp only[uA,Addr.mk.injEq,and_true]at e2;obtain⟨rfl,rfl⟩:=e2
     have x3:w2.cell? ⟨b,off+(k-1)*2,none⟩=some (.int .i64 r0.1):=by rw[hblk];exact hcell2 _ _ (aL hr0).1
     have HP1:=Hi HP.o.1;rw[hp0]at HP1;have hw:IntKind.i64.wrap ((k:Int)-1)=(k:Int)-1:=uG _ (by omega);have hi0:0≤(k:Int)-1:=by omega
     have hi1:(k:Int)-1<(n:Int):=by omega
     have hi2:((k:Int)-1).toNat=k-1:=by omega
     clear hblk hcell2 hr0 hp0 HP;go_wp2_with fail
     by_cases hle:r.1≤r0.1
     ·have d2:decide (r.1≤r0.1)=true:=decide_eq_true hle;go_quiet (fail)
      change Exit.then _ _ _ _ (w2.drewN nq);have HB3:Hid (Below w.heap.size w (w2.drewN nq)):=aJ HB2.o nq;generalize w2.drewN nq=w3 at HB3 ⊢;clear hc4 hs1 x3 hw hi2;go_wp2_with fail
      go_ret;exact⟨by rw[HP1.o,if_pos hle];rfl,HB3.o⟩
     ·have d2:decide (r.1≤r0.1)=false:=decide_eq_false hle;go_quiet (fail)
      change Exit.then _ _ _ _ (w2.drewN nq);have HB3:Hid (Below w.heap.size w (w2.drewN nq)):=aJ HB2.o nq;generalize w2.drewN nq=w3 at HB3 ⊢;clear hc4 hs1 x3 hw hi2;go_wp2_with fail
      go_roundw
      case rel =>
       refine⟨k+1,hlt,by go_num,⟨HB3.o,r.1,by rw[HP1.o,if_neg hle],fun e=>by omega,fun j r' e h=>?_⟩⟩
       obtain rfl:j=k:=by omega
       rw[HX.o]at h;cases h;rfl
      case measure=>simp[intOf];omega
  ·have hkn:k=n:=by omega
   obtain⟨p,hp1,-,-⟩:=HI.o.2
   rw[uW (by rw[HN.o];omega)]at hp1;have HP:Hid (cK 0 l=0):=hp1;have HBw:=Hi HI.o.1;clear hp1;go_wp2_with fail
   go_ret;exact⟨by rw[HP.o];rfl,HBw.o⟩
theorem refRef_any(r:Rf)(w:World):Calls Tryz.prog 77 #[bB r] w fun e w'=>e=.returned (.bool (dZ r))∧Below w.heap.size w w':=by
 obtain⟨a,s⟩:=r
 simp only[bB,dZ];by_cases h1:1≤a
 case neg =>
  have d1:decide (1≤a)=false:=decide_eq_false h1;have e0:decide (1≤a∧a≤99)=false:=decide_eq_false fun h=>h1 h.1
  rw[e0];go_enter Tryz.func77,Tryz.ntmps77;go_wp2_with fail
  go_ret;exact⟨rfl,(sB _ w).alloc (sC _) _⟩
 have d1:decide (1≤a)=true:=decide_eq_true h1;by_cases h2:a≤99
 case neg =>
  have d2:decide (a≤99)=false:=decide_eq_false h2;have e0:decide (1≤a∧a≤99)=false:=decide_eq_false fun h=>h2 h.2
  rw[e0];go_enter Tryz.func77,Tryz.ntmps77;go_wp2_with fail
  go_ret;exact⟨rfl,(sB _ w).alloc (sC _) _⟩
 have d2:decide (a≤99)=true:=decide_eq_true h2;have e0:decide (1≤a∧a≤99)=true:=decide_eq_true ⟨h1,h2⟩;rw[e0];by_cases h3:1≤s
 case neg =>
  have d3:decide (1≤s)=false:=decide_eq_false h3;have e1:decide (1≤s∧s≤1000000)=false:=decide_eq_false fun h=>h3 h.1
  rw[e1];go_enter Tryz.func77,Tryz.ntmps77;go_wp2_with fail
  go_ret;exact⟨rfl,(sB _ w).alloc (sC _) _⟩
 have d3:decide (1≤s)=true:=decide_eq_true h3;have e1:decide (1≤s∧s≤1000000)=decide (s≤1000000):=by simp[h3]
 rw[e1];go_enter Tryz.func77,Tryz.ntmps77;go_wp2_with fail
 go_ret;exact⟨rfl,(sB _ w).alloc (sC _) _⟩
theorem refClock_any(l:List Rf)(D:Nat→Prop)(A:Option Addr)(c:Nat)(w:World)(hr:aC D w 2 A l.length (aE l))(hD:∀k,D k→k<w.heap.size)(hl:l.length≤9223372036854775807):
 Calls Tryz.prog 78 #[.slice A l.length c] w fun e w'=>e=.returned (.int .i64 (cK 0 l))∧Below w.heap.size w w':=by
 have HR:=Hi hr;have HD:=Hi hD;clear hr hD;obtain⟨n,hn⟩:∃n,l.length=n:=⟨_,rfl⟩
 have HN:=Hi hn;rw[hn]at hl ⊢;clear hn;go_enter Tryz.func78,Tryz.ntmps78;go_wp2_with fail
 go_loopw [3] (fun s7 wr=>∃k:Nat,k≤n∧s7=.int .i64 k∧Hid (Below w.heap.size w wr∧∃p:Int,cK 0 l=cK p (l.drop k)∧(k=0→p=0)∧(∀j r,k=j+1→l[j]?=some r→p=r.1)) ) (fun s7 _=>n-(intOf s7).toNat)
 case atStart=>exact⟨0,by omega,rfl,⟨sB _ _,0,by simp,fun _=>rfl,fun j r h=>by omega⟩⟩
 case round =>
  obtain⟨k,hk,rfl,HI⟩:=hrel
  by_cases hlt:k<n
  ·obtain⟨b,off,rfl,hb,hcell⟩:=HR.o.at_ (by rw[HN.o];omega) (by omega)
   obtain⟨r,hr⟩:∃r,l[k]?=some r:=⟨_,sD (by rw[HN.o];exact hlt)⟩
   have hbl:=HD.o b hb;have hblk:∀o,wr.cell? ⟨b,o,none⟩=w.cell? ⟨b,o,none⟩:=fun o=>sM (w:=w) (HI.o.1.block b hbl)
   obtain⟨h1,h2⟩:=aL hr
   have x1:wr.cell? ⟨b,off+k*2,none⟩=some (.int .i64 r.1):=by rw[hblk];exact hcell _ _ h1
   have x2:wr.cell? ⟨b,off+k*2+1,none⟩=some (.int .i64 r.2):=by rw[hblk];exact hcell _ _ h2
   clear hblk hcell h1 h2;have HX:=Hi hr;clear hr;go_wp2_with fail
   go_at_call 77;refine(refRef_any r _).mono ?_
   rintro e w2 ⟨rfl,hb2⟩;have HB2:Hid (Below w.heap.size w w2):=HI.o.1.trans (hb2.mono HI.o.1.size);have y1:w2.cell? ⟨b,off+k*2,none⟩=some (.int .i64 r.1):=by
    rw[sM (w:=wr) (hb2.block b (sE hbl HI.o.1.size))];exact x1
   clear hb2 x1 x2;obtain⟨p,hp1,hp2,hp3⟩:=HI.o.2
   have hdr:l.drop k=r::l.drop (k+1):=by
    have hl:k<l.length:=by rw[HN.o];exact hlt
    have:=HX.o
    rw[sD hl]at this;rw[tJ hl,tF this]
   have hre:cK p (r::l.drop (k+1))=if dZ r=false then 1 else if r.1≤p then 5 else cK r.1 (l.drop (k+1)):=rfl
   rw[hdr,hre]at hp1;clear hdr hre;cases hir:dZ r with
   |false =>
    rw[hir,if_pos rfl]at hp1;have HP:=Hi hp1;clear hp1 hp2 hp3 hir;go_wp2_with fail
    go_ret;exact⟨by rw[HP.o];rfl,HB2.o⟩
   |true =>
    rw[hir,if_neg (by simp)]at hp1;have hr1:1≤r.1:=by
     simp only[dZ,tB,decide_eq_true_eq]at hir;exact hir.1.1
    have HP:=Hi (And.intro hp1 (And.intro hp2 hp3));clear hp1 hp2 hp3 hir;by_cases hk0:k=0
    ·have hpz:=HP.o.2.1 hk0;have HE:Hid (cK 0 l=cK r.1 (l.drop (k+1))):=by
      have:=HP.o.1
      rw[hpz,if_neg (by omega)]at this;exact this
     have d1:decide (0<(k:Int))=false:=decide_eq_false (by omega);have d1':decide (0<k)=false:=decide_eq_false (by omega);clear hk0 hpz;go_wp2_with fail
     go_quiet (fail)
     change Exit.then _ _ _ _ (w2.drewN nq);have HB3:Hid (Below w.heap.size w (w2.drewN nq)):=aJ HB2.o nq;generalize w2.drewN nq=w3 at HB3 ⊢;clear y1;go_wp2_with fail
     go_roundw
     case rel =>
      refine⟨k+1,hlt,by go_num,⟨HB3.o,r.1,HE.o,fun e=>by omega,fun j r' e h=>?_⟩⟩
      obtain rfl:j=k:=by omega
      rw[HX.o]at h;cases h;rfl
     case measure=>simp[intOf];omega
    ·have d1:decide (0<(k:Int))=true:=decide_eq_true (by omega);have d1':decide (0<k)=true:=decide_eq_true (by omega);obtain⟨r0,hr0⟩:∃r,l[k-1]?=some r:=⟨_,sD (by rw[HN.o];omega)⟩
     have hp0:=HP.o.2.2 (k-1) r0 (by omega) hr0;have hblk:∀o,w2.cell? ⟨b,o,none⟩=w.cell? ⟨b,o,none⟩:=fun o=>sM (w:=w) (HB2.o.block b hbl)
     obtain⟨b2,off2,e2,-,hcell2⟩:=HR.o.at_ (by rw[HN.o];omega) (by omega)
     simp only[uA,Addr.mk.injEq,and_true]at e2;obtain⟨rfl,rfl⟩:=e2
     have x3:w2.cell? ⟨b,off+(k-1)*2,none⟩=some (.int .i64 r0.1):=by rw[hblk];exact hcell2 _ _ (aL hr0).1
     have HP1:=Hi HP.o.1;rw[hp0]at HP1;have hw:IntKind.i64.wrap ((k:Int)-1)=(k:Int)-1:=uG _ (by omega);have hi0:0≤(k:Int)-1:=by omega
     have hi1:(k:Int)-1<(n:Int):=by omega
     have hi2:((k:Int)-1).toNat=k-1:=by omega
     clear hblk hcell2 hr0 hp0 HP;go_wp2_with fail
     by_cases hle:r.1≤r0.1
     ·have d2:decide (r.1≤r0.1)=true:=decide_eq_true hle;go_quiet (fail)
      change Exit.then _ _ _ _ (w2.drewN nq);have HB3:Hid (Below w.heap.size w (w2.drewN nq)):=aJ HB2.o nq;generalize w2.drewN nq=w3 at HB3 ⊢;clear y1 x3 hw hi2;go_wp2_with fail
      go_ret;exact⟨by rw[HP1.o,if_pos hle];rfl,HB3.o⟩
     ·have d2:decide (r.1≤r0.1)=false:=decide_eq_false hle;go_quiet (fail)
      change Exit.then _ _ _ _ (w2.drewN nq);have HB3:Hid (Below w.heap.size w (w2.drewN nq)):=aJ HB2.o nq;generalize w2.drewN nq=w3 at HB3 ⊢;clear y1 x3 hw hi2;go_wp2_with fail
      go_roundw
      case rel =>
       refine⟨k+1,hlt,by go_num,⟨HB3.o,r.1,by rw[HP1.o,if_neg hle],fun e=>by omega,fun j r' e h=>?_⟩⟩
       obtain rfl:j=k:=by omega
       rw[HX.o]at h;cases h;rfl
      case measure=>simp[intOf];omega
  ·have hkn:k=n:=by omega
   obtain⟨p,hp1,-,-⟩:=HI.o.2
   rw[uW (by rw[HN.o];omega)]at hp1;have HP:Hid (cK 0 l=0):=hp1;have HBw:=Hi HI.o.1;clear hp1;go_wp2_with fail
   go_ret;exact⟨by rw[HP.o];rfl,HBw.o⟩
end
section
open Go.Maps (Keyed)
theorem eZ:Keyed Tryz.prog 77 :=
 Keyed.of_law (deep_law_laid laidOut (m:=2) (by omega) (of_decide_eq_true (by kernel_rfl)) (by kernel_rfl) (by rw[Tryz.underlying77]))
theorem dW:Keyed Tryz.prog 24 :=
 Keyed.of_law (deep_law_laid laidOut (m:=2) (by omega) (of_decide_eq_true (by kernel_rfl)) (by kernel_rfl) (by rw[Tryz.underlying24]))
def I64R(r:Rf):Prop:=(-9223372036854775808≤r.1∧r.1≤9223372036854775807)∧(-9223372036854775808≤r.2∧r.2≤9223372036854775807)
theorem wf64{x:Int}(h:-9223372036854775808≤x∧x≤9223372036854775807):(Lit.int .i64 x).wf=true:=by
 simp only[Lit.wf,IntKind.min,IntKind.max,IntKind.signed,IntKind.bits];simpa using h
theorem kP{r:Rf}(h:I64R r):∃kl,keyOf Tryz.prog 77 (bB r)=some kl:=by
 have hk:Tryz.prog.keyType 77=true:=by kernel_rfl
 have hc:Tryz.prog.cellsOf 77=2:=by kernel_rfl
 have hi:Tryz.prog.cellsOf 3=1:=by kernel_rfl
 have hf:(bB r).formed Tryz.prog 77=true:=by simp[bB,Value.formed,Tryz.underlying77,hc]
 obtain⟨d,hd⟩:∃d,Tryz.prog.types.size=d+1:=⟨Tryz.prog.types.size-1,by have:0<Tryz.prog.types.size:=of_decide_eq_true (by kernel_rfl);omega⟩
 unfold keyOf;rw[Tryz.underlying77];simp only[hk,hf,Bool.and_true,if_true,hd];have e:∃ls,Tryz.prog.keyLits (d+1+1) 77 (bB r).cells.toList=some ls:=by
  unfold Program.keyLits;rw[Tryz.underlying77];simp[bB,Value.cells,hc,hi,Program.keyLits,Tryz.underlying3,wf64 h.1,wf64 h.2]
 obtain⟨ls,e⟩:=e
 exact⟨_,by rw[e];rfl⟩
theorem gU{r:Rf}(h:I64R r):∃kl,keyOf Tryz.prog 24 (bB r)=some kl:=by
 have hk:Tryz.prog.keyType 24=true:=by kernel_rfl
 have hc:Tryz.prog.cellsOf 24=2:=by kernel_rfl
 have hi:Tryz.prog.cellsOf 3=1:=by kernel_rfl
 have hf:(bB r).formed Tryz.prog 24=true:=by simp[bB,Value.formed,Tryz.underlying24,hc]
 obtain⟨d,hd⟩:∃d,Tryz.prog.types.size=d+1:=⟨Tryz.prog.types.size-1,by have:0<Tryz.prog.types.size:=of_decide_eq_true (by kernel_rfl);omega⟩
 unfold keyOf;rw[Tryz.underlying24];simp only[hk,hf,Bool.and_true,if_true,hd];have e:∃ls,Tryz.prog.keyLits (d+1+1) 24 (bB r).cells.toList=some ls:=by
  unfold Program.keyLits;rw[Tryz.underlying24];simp[bB,Value.cells,hc,hi,Program.keyLits,Tryz.underlying3,wf64 h.1,wf64 h.2]
 obtain⟨ls,e⟩:=e
 exact⟨_,by rw[e];rfl⟩
theorem iN{r q:Rf}(h:bB r=bB q):r=q:=by
 obtain⟨a,b⟩:=r
 obtain⟨c,d⟩:=q
 simpa[bB] using h
/-! ### at the operation, for the walk -/
section
variable(w:World){ops:Array Oper}{rest:List Oper}{o:Oper}{a:Act}{Q:Exit→Act→World→Prop}
theorem dB(hg:o.guard=none)(m x v:Operand)(t:TypeId)(hop:o.op=Op.mapUpdate t m x v∨o.op=Op.insert t m x v)(b:Nat)(key val:Value)(hm:a.eval m=.map (some b))(hx:a.eval x=key)(hv:a.eval v=val)
 (R:World→Prop) (h:∃w',(Instr.mapUpdate t (.map (some b)) key val).run Tryz.prog w=.ok () w'∧R w')
 (hK:∀w',R w'→wpList Tryz.prog ops Q rest (a.put o.dst undef) w'):wpList Tryz.prog ops Q (o::rest) a w:=by
 refine wpList_plain hg fun K' hK'=>?_
 obtain⟨w',hrun,hR⟩:=h
 unfold Oper.wp;rcases hop with hop|hop<;>simp[execOp,hop,hm,hx,hv,hrun,Result.andThen]<;>exact hK' _ _ (hK w' hR)
theorem wpL_delete(hg:o.guard=none)(m x:Operand)(t k:TypeId)(hop:o.op=Op.call { callee:=Callee.builtin Builtin.delete,args:=#[m,x],argTypes:=#[t,k] })(b:Nat)(key:Value)(hm:a.eval m=.map (some b))(hx:a.eval x=key)
 (R:World→Prop) (h:∀ty,∃w',(Builtin.delete_ #[t,k] ty #[.map (some b),key]).run Tryz.prog w=.ok (.tuple #[]) w'∧R w')
 (hK:∀w',R w'→wpList Tryz.prog ops Q rest (a.put o.dst (.tuple #[])) w'):wpList Tryz.prog ops Q (o::rest) a w:=by
 refine wpList_plain hg fun K' hK'=>?_
 obtain⟨w',hrun,hR⟩:=h o.type
 unfold Oper.wp;simp[execOp,hop,resolve,invoke,builtin,hm,hx,hrun,Result.andThen];exact hK' _ _ (hK w' hR)
theorem kJ(hg:o.guard=none)(m:Operand)(t:TypeId)(hop:o.op=Op.range t m)(k e:TypeId)(ht:Tryz.prog.underlying t=some (.map k e))(b:Nat)(l:List (Value×Value))(hm:a.eval m=.map (some b))(h:aI w k b l)
 (hK:∀w',bD w' k b w.heap.size l l→Below w.heap.size w w'→w'.heap.size=w.heap.size+1→wpList Tryz.prog ops Q rest (a.put o.dst (.pointer (some ⟨w.heap.size,0,none⟩))) w') :
 wpList Tryz.prog ops Q (o::rest) a w:=by
 refine wpList_plain hg fun K' hK'=>?_
 obtain⟨w',hrun,r1,r2,r3⟩:=h.range ht
 unfold Oper.wp;simp[execOp,hop,hm,hrun,Result.andThen];exact hK' _ _ (hK w' r1 r2 r3)
theorem wpL_next(hg:o.guard=none)(it:Operand)(hop:o.op=Op.next it false)(k:TypeId)(b r:Nat)(l todo:List (Value×Value))(hit:a.eval it=.pointer (some ⟨r,0,none⟩))(h:bD w k b r l todo)
 (hDone:todo=[]→wpList Tryz.prog ops Q rest (a.put o.dst (.tuple #[.bool false])) w)
 (hMore:∀(key v:Value) (todo':List (Value×Value)) (w':World),todo.Perm ((key,v)::todo')→bD w' k b r l todo'→w.grownBy w' (some r)→w'.heap.size=w.heap.size →
   (Instr.entry (.pointer (some ⟨r,0,none⟩))).run Tryz.prog w'=.ok (.tuple #[key,v]) w'→wpList Tryz.prog ops Q rest (a.put o.dst (.tuple #[.bool true,key,v])) w') :
 wpList Tryz.prog ops Q (o::rest) a w:=by
 refine wpList_plain hg fun K' hK'=>?_
 unfold Oper.wp;rcases h.next o.type with⟨h0,hrun⟩|⟨key,v,todo',w',hp,hrun,hI,hg,hs,hen⟩
 ·simp[execOp,hop,hit,hrun,Result.andThen];exact hK' _ _ (hDone h0)
 ·simp[execOp,hop,hit,hrun,Result.andThen];exact hK' _ _ (hMore key v todo' w' hp hI hg hs hen)
end
/-! ### sets of refs -/
def fF(w:World)(b:Nat)(S:List Rf):Prop:=aI w 77 b (S.map fun r=>(bB r,.bool true))
theorem zero_bool(w:World):(zeroValue 4).run Tryz.prog w=.ok (.bool false) w:=by kernel_rfl
theorem fF.made(w:World):fF (w.alloc (.map #[] 0)) w.heap.size []:=aI.made w _
theorem fF.nodup{w:World}{b:Nat}{S:List Rf}(h:fF w b S):S.Nodup:=by
 have h1:=aI.apart h;rw[uU]at h1;exact h1.imp fun h e=>h (by rw[e])
theorem fF.look{w:World}{b:Nat}{S:List Rf}(h:fF w b S){r:Rf}(hr:I64R r):
 (Instr.lookup 157 (.map (some b)) (bB r) false).run Tryz.prog w=.ok (.bool (decide (r∈S))) w:=by
 by_cases hm:r∈S
 ·rw[decide_eq_true hm];exact aI.hit h eZ Tryz.underlying157 (zero_bool w) (sH.2 ⟨r,hm,rfl⟩) false
 ·rw[decide_eq_false hm];obtain⟨kl,hk⟩:=kP hr
  refine aI.miss h eZ Tryz.underlying157 (zero_bool w) hk (fun p hp e=>?_) false;obtain⟨q,hq,rfl⟩:=sH.1 hp
  exact hm (iN e▸hq)
theorem perm_pick{S:List Rf}{r:Rf}(hm:r∈S):∃S',S.Perm (r::S'):=by
 obtain⟨a,b,rfl⟩:=vH hm
 exact⟨a++b,vU⟩
theorem fF.add{w:World}{b:Nat}{S:List Rf}(h:fF w b S){r:Rf}(hr:I64R r)(hn:S.length<maxLen):
 ∃w',(Instr.mapUpdate 157 (.map (some b)) (bB r) (.bool true)).run Tryz.prog w=.ok () w'∧(∃S',fF w' b S'∧(∀x,x∈S'↔x∈S∨x=r)∧S'.length≤S.length+1)∧w.mapTurned w' b:=by
 by_cases hm:r∈S
 ·obtain⟨S',hp⟩:=perm_pick hm
  obtain⟨w',h1,h2,h3⟩:=aI.over (v:=.bool true) (v0:=.bool true) (l':=S'.map fun r=>(bB r,.bool true)) h eZ Tryz.underlying157 (hp.map _)
  refine⟨w',h1,⟨r::S',h2,fun x=>?_,by rw[hp.length_eq];exact yE _⟩,h3⟩
  rw[hp.mem_iff,sK];constructor
  ·exact Or.inl
  ·rintro(h|h)
   ·exact h
   ·exact Or.inl h
 ·obtain⟨kl,hk⟩:=kP hr
  obtain⟨w',h1,h2,h3⟩:=aI.store (v:=.bool true) h eZ Tryz.underlying157 (by rw[sP];exact hn) hk (fun p hp e=>by
   obtain⟨q,hq,rfl⟩:=sH.1 hp
   exact hm (iN e▸hq))
  refine⟨w',h1,⟨S++[r],?_,fun x=>by simp,by simp⟩,h3⟩
  have e:(S++[r]).map (fun r=>(bB r,Value.bool true))=S.map (fun r=>(bB r,.bool true))++[(bB r,.bool true)]:=by simp
  unfold fF;rw[e];exact h2
theorem fF.perm{w:World}{b:Nat}{S S':List Rf}(h:fF w b S)(hp:S.Perm S'):fF w b S':=aI.perm h (hp.map _)
theorem fF.keep{w w':World}{b:Nat}{S:List Rf}(h:fF w b S)(hk:w'.heap[b]?=w.heap[b]?):fF w' b S:=aI.keep h hk
def fZ(w:World)(b r:Nat)(S todo:List Rf):Prop:=bD w 77 b r (S.map fun r=>(bB r,.bool true)) (todo.map fun r=>(bB r,.bool true))
theorem oK{α β:Type}(f:α→β):∀ {l:List α} {x:β} {m:List β},(l.map f).Perm (x::m)→∃y l',f y=x∧l.Perm (y::l')∧m.Perm (l'.map f):=by
 intro l x m h;have hx:x∈l.map f:=h.mem_iff.2 (tA ..);obtain⟨y,hy,rfl⟩:=sH.1 hx
 obtain⟨a,b,rfl⟩:=vH hy
 refine⟨y,a++b,rfl,vU,?_⟩
 have h2:((a++y::b).map f).Perm (f y::(a++b).map f):=by
  simp only[sQ,sT];exact vU
 exact(h2.symm.trans h).symm.cons_inv
theorem fZ.sub{w:World}{b r:Nat}{S todo:List Rf}(h:fZ w b r S todo):∀x∈todo,x∈S:=by
 intro x hx;have:=bD.sub h (bB x,.bool true) (sH.2 ⟨x,hx,rfl⟩)
 obtain⟨y,hy,e⟩:=sH.1 this
 have e1:bB y=bB x:=congrArg Prod.fst e;exact iN e1▸hy
theorem bD.perm{w:World}{k:TypeId}{b r:Nat}{l todo todo':List (Value×Value)}(h:bD w k b r l todo)(hp:todo.Perm todo'):bD w k b r l todo':=by
 obtain⟨es,c,s,sn,c0,h1,h2,h3,h4,h5,h6,h7⟩:=h
 exact⟨es,c,s,sn,c0,h1,h2,h3,h4,h5,h6.trans hp,h7⟩
section
variable(w:World){ops:Array Oper}{rest:List Oper}{o:Oper}{a:Act}{Q:Exit→Act→World→Prop}
theorem wpS_next(hg:o.guard=none)(it:Operand)(hop:o.op=Op.next it false)(b r:Nat)(S todo:List Rf)(hit:a.eval it=.pointer (some ⟨r,0,none⟩))(h:fZ w b r S todo)
 (hDone:todo=[]→wpList Tryz.prog ops Q rest (a.put o.dst (.tuple #[.bool false])) w)
 (hMore:∀(x:Rf) (todo':List Rf) (w':World),todo.Perm (x::todo')→fZ w' b r S todo'→w.grownBy w' (some r)→w'.heap.size=w.heap.size →
   (Instr.entry (.pointer (some ⟨r,0,none⟩))).run Tryz.prog w'=.ok (.tuple #[.agg #[.int .i64 x.1,.int .i64 x.2],.bool true]) w'→wpList Tryz.prog ops Q rest (a.put o.dst (.tuple #[.bool true,.agg #[.int .i64 x.1,.int .i64 x.2],.bool true])) w') :
 wpList Tryz.prog ops Q (o::rest) a w:=by
 refine wpL_next w hg it hop _ b r _ _ hit h (fun e=>hDone (xB.1 e)) fun key v todo' w' hp hI hg hs hen=>?_
 obtain⟨x,t',hx,hp1,hp2⟩:=oK _ hp
 have e1:bB x=key:=congrArg Prod.fst hx;have e2:Value.bool true=v:=congrArg Prod.snd hx;subst e1 e2;exact hMore x t' w' hp1 (hI.perm hp2) hg hs hen
end
end
section
open Go.ChangeMaps (setBlock modify_eq_set set_perm map_eraseIdx heap_setBlock_same heap_setBlock_other)
open Go.MapKept Go.WideShapes Go.RowKit
open Go.WideElems (Fit rd rg pl rd_key rd_val rg_of rd_mk other_key)
open Go.Maps (Keyed)
abbrev Wh:=Rf×ByteArray×Rf
structure VD where
 k:Int
 n:Int
 t:ByteArray
 a:Int
 b:Int
def rF(w:World)(k:TypeId)(b:Nat)(key v0:Value)(c:Nat)(l':List (Value×Value)):Prop :=
 ∃(es:Array MapEntry) (clock j:Nat) (e0:MapEntry),w.heap[b]?=some (.map es clock)∧Fit Tryz.prog k heldR es clock∧es.toList[j]?=some e0∧e0.key=key∧e0.val=v0∧e0.born=c∧((jA es).eraseIdx j).Perm l'
section
variable{w:World}{k e t:TypeId}{b c:Nat}{l l':List (Value×Value)}{key v0:Value}
theorem rF.map(h:rF w k b key v0 c l'):aI w k b ((key,v0)::l'):=by
 obtain⟨es,clock,j,e0,hb,F,hj,rfl,rfl,-,hp⟩:=h
 refine⟨es,clock,hb,F,?_⟩
 have h5:(jA es)[j]?=some (e0.key,e0.val):=by unfold jA;rw[uY,hj];rfl
 exact(gI _ _ _ h5).trans (hp.cons _)
theorem rF.lt(h:rF w k b key v0 c l'):b<w.heap.size:=aI.lt h.map
theorem rF.keep{w':World}(h:rF w k b key v0 c l')(hk:w'.heap[b]?=w.heap[b]?):rF w' k b key v0 c l':=by
 obtain⟨es,clock,j,e0,hb,h2⟩:=h
 exact⟨es,clock,j,e0,hk.trans hb,h2⟩
theorem aI.entry_new(h:aI w k b l)(K:Keyed Tryz.prog k)(ht:Tryz.prog.underlying t=some (.map k e)){z:Value}(hz:(zeroValue e).run Tryz.prog w=.ok z w)(hn:l.length<maxLen){kl:Lit}(hkl:keyOf Tryz.prog k key=some kl)(hm:∀p∈l,p.1≠key):
 ∃w' c,(Instr.mapEntry t (.map (some b)) key).run Tryz.prog w=.ok (.tuple #[z,.int .i64 (c:Nat)]) w'∧rF w' k b key z c l∧w.mapTurned w' b:=by
 obtain⟨es,cl,hb,F,hp⟩:=h
 have hsz:es.size=l.length:=by rw[←hp.length_eq];simp[jA]
 rcases K.find w hkl es.toList F.keys with⟨h1,h2⟩|⟨j,e0,h1,h2,h3⟩
 ·refine⟨setBlock w b (.map (es.push ⟨key,z,cl⟩) (cl+1)),cl,?_,⟨es.push ⟨key,z,cl⟩,cl+1,es.size,⟨key,z,cl⟩,heap_setBlock_same hb _,⟨by simp;omega,stamped_push F.stamped h2,?_⟩,by simp,rfl,rfl,rfl,?_⟩,hY hb⟩
  ·simp[Instr.mapEntry,run_underlying ht,MapKept.run_getObj_map hb,K.check w false hkl,h1,hz,MapKept.run_setObj_map _ hb,Result.andThen,setBlock,goInt]
  ·intro x hx;simp only[Array.toList_push,sI,sN]at hx;rcases hx with hx|rfl
   ·exact F.reads x hx
   ·exact⟨_,rd_held hkl⟩
  ·unfold jA at hp ⊢;rw[Array.toList_push,sQ,List.eraseIdx_append_of_length_le (by simp)];simpa using hp
 ·exact absurd h3 (hm (e0.key,e0.val) (hp.mem_iff.1 (sH.2 ⟨e0,sJ h2,rfl⟩)))
theorem aI.entry_old(h:aI w k b l)(K:Keyed Tryz.prog k)(ht:Tryz.prog.underlying t=some (.map k e))(hm:l.Perm ((key,v0)::l')):
 ∃w' c,(Instr.mapEntry t (.map (some b)) key).run Tryz.prog w=.ok (.tuple #[v0,.int .i64 (c:Nat)]) w'∧rF w' k b key v0 c l'∧w.mapTurned w' b:=by
 have h0:=h;obtain⟨kl,hkl⟩:=h.keys (key,v0) (hm.mem_iff.2 (by simp))
 obtain⟨es,cl,hb,F,hp⟩:=h
 rcases K.find w hkl es.toList F.keys with⟨h1,h2⟩|⟨j,e0,h1,h2,h3⟩
 ·obtain⟨x,hx,hx2⟩:=sH.1 ((hp.trans hm).mem_iff.2 (tA ..))
  exact absurd (congrArg Prod.fst hx2) (h2 x hx)
 ·have hj:es[j]?=some e0:=by simpa using h2
  have hjl:j<es.toList.length:=(sF.1 h2).1;have he2:(jA es).Perm ((e0.key,e0.val)::(jA es).eraseIdx j):=gI _ _ _ (by unfold jA;rw[uY,h2];rfl);have he3:(e0.key,e0.val)=(key,v0):=h0.one (hp.mem_iff.1 (he2.mem_iff.2 (tA ..))) (hm.mem_iff.2 (tA ..)) h3;have hv0:e0.val=v0:=congrArg Prod.snd he3;have hlist:(es.modify j (fun e'=>{ e' with key:=key })).toList=es.toList.set j { e0 with key:=key }:=by rw[Array.toList_modify,modify_eq_set _ _ _ _ h2]
  have h3':e0.key=key:=h3;have hsame:({ e0 with key:=key } : MapEntry)=e0:=by rw[←h3']
  have hset:es.toList.set j e0=es.toList:=List.ext_getElem? fun i=>by
   rw[List.getElem?_set];split
   ·rename_i h;subst h;simp[hjl,h2]
   ·rfl
  have hes:es.modify j (fun e'=>{ e' with key:=key })=es:=Array.ext' (by rw[hlist,hsame,hset]);refine⟨setBlock w b (.map es cl),e0.born,?_,⟨es,cl,j,e0,heap_setBlock_same hb _,F,h2,h3,hv0,rfl,qQ ((he2.symm.trans hp).trans hm) he3⟩,hY hb⟩
  simp[Instr.mapEntry,run_underlying ht,MapKept.run_getObj_map hb,K.check w false hkl,h1,hj,h3,K.stays w hkl,hes,hv0,MapKept.run_setObj_map _ hb,Result.andThen,setBlock,goInt]
theorem rF.store(h:rF w k b key v0 c l')(v:Value)(t:TypeId):
 ∃w',(Instr.entryStore t (.map (some b)) (.int .i64 c) v).run Tryz.prog w=.ok () w'∧aI w' k b ((key,v)::l')∧w.mapTurned w' b:=by
 obtain⟨es,cl,j,e0,hb,F,h2,rfl,rfl,rfl,hp⟩:=h
 have hjl:j<es.toList.length:=(sF.1 h2).1;have hfind:es.findIdx? (fun e=>(e.born:Int) == (e0.born:Int))=some j:=by
  have hjs:j<es.size:=by simpa using hjl
  have e0j:es[j]=e0:=by
   have:=h2
   rw[vZ,Array.getElem?_eq_getElem hjs]at this;exact tF this
  rw[Array.findIdx?_eq_some_iff_getElem];refine⟨hjs,by simp[e0j],fun i hi=>?_⟩
  have hil:i<es.toList.length:=by omega
  have hnb:=F.stamped.2.1;rw[List.Nodup,uU]at hnb;have hne:=wN.1 hnb i j hil hjl hi;rw[Array.getElem_toList,Array.getElem_toList,e0j]at hne;simp only[beq_iff_eq];intro e;exact hne (by omega)
 have hlist:(es.modify j (fun e'=>{ e' with val:=v })).toList=es.toList.set j { e0 with val:=v }:=by rw[Array.toList_modify,modify_eq_set _ _ _ _ h2]
 obtain⟨y,hy⟩:=F.reads e0 (sJ h2)
 obtain⟨kl,hkl⟩:=F.keys e0 (sJ h2)
 refine⟨setBlock w b (.map (es.modify j (fun e'=>{ e' with val:=v })) cl),?_,⟨es.modify j (fun e'=>{ e' with val:=v }),cl,heap_setBlock_same hb _,⟨by simpa using F.size,stamped_modify F.stamped _ _ (fun _ _=>rfl) (fun _ _ _=>rfl),?_⟩,?_⟩,hY hb⟩
 ·simp[Instr.entryStore,MapKept.run_getObj_map hb,asInt,asIntOf,hfind,MapKept.run_setObj_map _ hb,Result.andThen,setBlock]
 ·intro x hx;rw[hlist]at hx;rcases List.mem_or_eq_of_mem_set hx with hx|rfl
  ·exact F.reads x hx
  ·exact⟨_,rd_held (x:={ e0 with val:=v }) hkl⟩
 ·unfold jA at hp ⊢;rw[hlist,List.map_set];have e1:((es.toList.map fun e=>(e.key,e.val)).set j (e0.key,v)).Perm ((e0.key,v)::(es.toList.map fun e=>(e.key,e.val)).eraseIdx j):=set_perm _ _ (by simpa using hjl) _;exact e1.trans (hp.cons _)
end
end
section
open Go.Maps (Keyed)
theorem bY:Keyed Tryz.prog 126 :=
 Keyed.of_law (deep_law_laid laidOut (m:=4) (by omega) (of_decide_eq_true (by kernel_rfl)) (by kernel_rfl) (by rw[Tryz.underlying126]))
def whV(x:Wh):Value:=.agg #[.int .i64 x.1.1,.int .i64 x.1.2,.string x.2.1,.int .i64 x.2.2.1,.int .i64 x.2.2.2]
theorem pA{x y:Wh}(h:whV x=whV y):x=y:=by
 obtain⟨⟨a,b⟩,k,c,d⟩:=x
 obtain⟨⟨a',b'⟩,k',c',d'⟩:=y
 simp only[whV,Value.agg.injEq,Array.mk.injEq,wM,Value.int.injEq,Value.string.injEq,and_true,true_and]at h;obtain⟨h1,h2,h3,h4,h5⟩:=h
 subst h1 h2 h3 h4 h5;rfl
theorem iP{x:Wh}(h1:I64R x.1)(h2:I64R x.2.2)(h3:x.2.1.size≤maxLen):∃kl,keyOf Tryz.prog 126 (whV x)=some kl:=by
 have hk:Tryz.prog.keyType 126=true:=by kernel_rfl
 have hc:Tryz.prog.cellsOf 126=5:=by kernel_rfl
 have hid:Tryz.prog.cellsOf 24=2:=by kernel_rfl
 have hi:Tryz.prog.cellsOf 3=1:=by kernel_rfl
 have hs:Tryz.prog.cellsOf 9=1:=by kernel_rfl
 have hf:(whV x).formed Tryz.prog 126=true:=by simp[whV,Value.formed,Tryz.underlying126,hc]
 obtain⟨d,hd⟩:∃d,Tryz.prog.types.size=d+2:=⟨Tryz.prog.types.size-2,by have:1<Tryz.prog.types.size:=of_decide_eq_true (by kernel_rfl);omega⟩
 unfold keyOf;rw[Tryz.underlying126];simp only[hk,hf,Bool.and_true,if_true,hd];have hI:∀a b:Int,(Lit.int .i64 a).wf=true→(Lit.int .i64 b).wf=true→Tryz.prog.keyLits (d+2) 24 [.int .i64 a,.int .i64 b]=some [.int .i64 a,.int .i64 b]:=fun a b wa wb=>by
  unfold Program.keyLits;rw[Tryz.underlying24];simp[hid,hi,Program.keyLits,Tryz.underlying3,wa,wb]
 have hS:∀k:ByteArray,k.size≤maxLen→Tryz.prog.keyLits (d+2) 9 [.string k]=some [.string k.data.toList]:=fun k hk=>by
  unfold Program.keyLits;rw[Tryz.underlying9];simp[hk]
 have e:∃ls,Tryz.prog.keyLits (d+2+1) 126 (whV x).cells.toList=some ls:=by
  unfold Program.keyLits;rw[Tryz.underlying126];simp[whV,Value.cells,hc,hid,hs,hI _ _ (wf64 h1.1) (wf64 h1.2),hI _ _ (wf64 h2.1) (wf64 h2.2),hS _ h3]
 obtain⟨ls,e⟩:=e
 exact⟨_,by rw[e];rfl⟩
end
section
def cmpI(a b:Int):Int:=if a<b then -1 else if b<a then 1 else 0
theorem cmpI_lt{a b:Int}(h:a<b):-1=cmpI a b:=by simp[cmpI,h]
theorem cmpI_gt{a b:Int}(h:b<a):1=cmpI a b:=by rw[cmpI,if_neg (by omega),if_pos h]
theorem cmpI_eq{a b:Int}(h1:¬a<b)(h:¬b<a):0=cmpI a b:=by rw[cmpI,if_neg h1,if_neg h]
theorem cmpInt_any(a b:Int)(w:World):
 Calls Tryz.prog 70 #[.int .i64 a,.int .i64 b] w fun e w'=>e=.returned (.int .i64 (cmpI a b))∧w=w':=by
 by_cases h1:a<b
 ·go_enter Tryz.func70,Tryz.ntmps70;go_wp2
  go_ret;exact⟨pI (cmpI_lt h1),rfl⟩
 ·by_cases h2:b<a
  ·go_enter Tryz.func70,Tryz.ntmps70;go_wp2
   go_ret;exact⟨pI (cmpI_gt h2),rfl⟩
  ·go_enter Tryz.func70,Tryz.ntmps70;go_wp2
   go_ret;exact⟨pI (cmpI_eq (by omega) (by omega)),rfl⟩
def gC:List Int→Int
 | []=>0
 |x::l=>if x=0 then gC l else x
theorem firstNZ_at:∀(l:List Int) (k:Nat) (x:Int),(∀j,j<k→l.getD j 0=0)→l[k]?=some x→x≠0→gC l=x
 | [],_,_,_,h,_=>by simp at h
 |y::l,0,x,_,h,hx=>by
  simp at h;subst h;simp[gC,hx]
 |y::l,k+1,x,h0,h,hx=>by
  have hy:y=0:=h0 0 (by omega);subst hy;simp only[gC,if_true];exact firstNZ_at l k x (fun j hj=>by simpa using h0 (j+1) (by omega)) (by simpa using h) hx
theorem pW:∀(l:List Int),(∀j,j<l.length→l.getD j 0=0)→gC l=0
 | [],_=>rfl
 |y::l,h0=>by
  have hy:y=0:=h0 0 (by simp);subst hy;simp only[gC,if_true];exact pW l (fun j hj=>by simpa using h0 (j+1) (by simpa using hj))
theorem or_any(xs:List Int)(n:Nat)(hn:n=xs.length)(b:Nat)(w:World)(hlen:n≤1000000)
 (hc:∀(k:Nat) (x:Int),xs[k]?=some x→w.cell? ⟨b,k,none⟩=some (.int .i64 x)) :
 Calls Tryz.prog 69 #[.slice (some ⟨b,0,none⟩) n n] w fun e w'=>e=.returned (.int .i64 (gC xs))∧w=w':=by
 have HN:=Hi hn;have HC:=Hi hc;clear hn hc;go_enter Tryz.func69,Tryz.ntmps69;go_wp2
 go_loop [5,8] (fun _ i=>∃k:Nat,k≤n∧i=.int .i64 k∧∀j,j<k→xs.getD j 0=0) (fun _ i=>n-(intOf i).toNat)
 case atStart=>exact⟨0,by omega,rfl,fun j hj=>absurd hj (by omega)⟩
 case round =>
  obtain⟨k,hk,rfl,hz⟩:=hrel
  have HZ:=Hi hz;clear hz;by_cases hlt:k<n
  ·obtain⟨x,hx⟩:∃x,xs[k]?=some x:=by have:=HN.o;exact⟨xs[k],sD (by omega)⟩
   have HX:=Hi hx;have hcell:=HC.o k x hx;clear hx;by_cases h0:x=0
   ·subst h0;go_wp2
    go_round
    case rel=>exact⟨k+1,by omega,by go_num,fun j hj=>by
     by_cases e:j=k
     ·subst e;rw[wH,HX.o];rfl
     ·exact HZ.o j (by omega)⟩
    case measure=>simp[intOf];omega
   ·have hb:(x != 0)=true:=by simpa using h0
    have H0:=Hi h0;clear h0;go_wp2
    go_ret;exact⟨pI (firstNZ_at xs k x HZ.o HX.o H0.o).symm,rfl⟩
  ·go_wp2
   go_ret;exact⟨pI (pW xs (fun j hj=>HZ.o j (by have:=HN.o;omega))).symm,rfl⟩
def cmp2(a b c d:Int):Int:=gC [cmpI a c,cmpI b d]
theorem or2_any(x y:Int)(b:Nat)(w:World)(h0:w.cell? ⟨b,0,none⟩=some (.int .i64 x))(h1:w.cell? ⟨b,1,none⟩=some (.int .i64 y)):
 Calls Tryz.prog 69 #[.slice (some ⟨b,0,none⟩) 2 2] w fun e w'=>e=.returned (.int .i64 (gC [x,y]))∧w=w' :=
 or_any [x,y] 2 rfl b w (by omega) fun k u hk=>by
  match k,hk with
  |0,hk=>simp at hk;subst hk;exact h0
  |1,hk=>simp at hk;subst hk;exact h1
  |k+2,hk=>simp at hk
theorem idCompare_any(a b c d:Int)(w:World):
 Calls Tryz.prog 44 #[.agg #[.int .i64 a,.int .i64 b],.agg #[.int .i64 c,.int .i64 d]] w fun e w'=>e=.returned (.int .i64 (cmp2 a b c d))∧Below w.heap.size w w':=by
 go_enter Tryz.func44,Tryz.ntmps44;go_wp2
 go_region_held3 (fun w'=>w'.cell? ⟨w.heap.size,0,none⟩=some (.int .i64 a)∧w'.cell? ⟨w.heap.size,1,none⟩=some (.int .i64 b)∧w'.cell? ⟨w.heap.size+1,0,none⟩=some (.int .i64 c)∧w'.cell? ⟨w.heap.size+1,1,none⟩=some (.int .i64 d)) (go_keep)
  (first|(go_at_call 70;refine(cmpInt_any _ _ _).mono ?_;rintro e w' ⟨rfl,rfl⟩)|(go_at_call 69;refine(or2_any (cmpI a c) (cmpI b d) _ _ ?_ ?_).mono ?_;(go_simp);(go_simp);rintro e w' ⟨rfl,rfl⟩))
 go_wp2
 go_ret;exact⟨rfl,((((sB _ _).alloc (sC _) _).alloc (by simp) _).alloc (by simp;omega) _).drew⟩
end
section
structure TotC{α:Type}(c:α→α→Int):Prop where
 neg:∀a b,c a b=- c b a
 tr:∀a b d,c a b≤0→c b d≤0→c a d≤0
theorem TotC.const{α:Type}: TotC fun(_ _:α)=>(0:Int):=⟨fun _ _=>rfl,fun _ _ _ _ _=>Int.le_refl 0⟩
theorem firstNZ_cons(x:Int)(l:List Int):gC (x::l)=if x=0 then gC l else x:=rfl
structure V5 where
 k:Int
 n:Int
 t:List UInt8
 a:Int
 b:Int
end
section
def loB(n:Nat):UInt8:=UInt8.ofNat (n % 128+128)
theorem loB_toNat(n:Nat):(loB n).toNat=n % 128+128:=gK (by omega)
def kT(n f cur:Nat)(pre:List UInt8):Prop:=cur<128 ^ (f+1)∧cur<2 ^ 64∧gE n=pre++nB f cur∧pre.length+f≤9
theorem kT.start{n:Nat}(h:n<2 ^ 64):kT n 9 n []:=⟨by omega,h,rfl,by simp⟩
theorem kT.last{n f cur:Nat}{pre:List UInt8}(h:kT n f cur pre)(hc:cur<128):gE n=pre++[UInt8.ofNat cur]:=by rw[h.2.2.1,oH hc]
theorem kT.step{n f cur:Nat}{pre:List UInt8}(h:kT n f cur pre)(hc:¬cur<128):∃f',kT n f' (cur / 128) (pre++[loB cur]):=by
 obtain⟨h1,h2,h3,h4⟩:=h
 obtain _|f:=f
 ·simp at h1;omega
 ·refine⟨f,?_,by omega,by rw[h3,putF_big hc,sX];rfl,by simp;omega⟩
  rw[Nat.pow_succ]at h1;exact Nat.div_lt_of_lt_mul (by rw[yB];exact h1)
theorem kT.len{n f cur:Nat}{pre:List UInt8}(h:kT n f cur pre):pre.length≤9:=by have:=h.2.2.2;omega
theorem kT.lt{n f cur:Nat}{pre:List UInt8}(h:kT n f cur pre):cur<2 ^ 64:=h.2.1
theorem u64_keep{m:Nat}(h:m<18446744073709551616):IntKind.u64.wrap (m:Int)=(m:Int):=by
 simp[IntKind.wrap,IntKind.bits,IntKind.signed];omega
def gA(l:List UInt8)(k acc:Nat):Prop:=nC l=lN k acc (l.drop k)∧acc<2 ^ (7*k)∧k≤10
theorem gA.start(l:List UInt8):gA l 0 0:=⟨rfl,by simp,by omega⟩
section
variable{l:List UInt8}{k acc cc m p q:Nat}
theorem gA.open_(h:gA l k acc)(hlt:k<l.length)(hcc:l[k].toNat=cc):nC l=if k=9∧1<cc∨9<k then none
 else if cc<128 then (if cc=0∧0<k then none else some (acc+cc % 128*2 ^ (7*k),k+1))
 else lN (k+1) (acc+cc % 128*2 ^ (7*k)) (l.drop (k+1)):=by
 rw[h.1,tJ hlt];simp only[lN,hcc]
theorem gA.bad(h:gA l k acc)(hlt:k<l.length)(hcc:l[k].toNat=cc)(hb:k=9∧1<cc∨9<k):nC l=none:=by
 rw[h.open_ hlt hcc,if_pos hb]
theorem gA.fin(h:gA l k acc)(hlt:¬k<l.length):nC l=none:=by
 rw[h.1,xE (by omega)];rfl
theorem gA.zero(h:gA l k acc)(hlt:k<l.length)(hcc:l[k].toNat=cc)(hz:cc=0)(hk:0<k)(hb:¬(k=9∧1<cc∨9<k)):nC l=none:=by
 rw[h.open_ hlt hcc,if_neg hb,if_pos (by omega),if_pos ⟨hz,hk⟩]
theorem gA.last(h:gA l k acc)(hlt:k<l.length)(hcc:l[k].toNat=cc)(h128:cc<128)(hb:¬(k=9∧1<cc∨9<k))(hz:¬(cc=0∧0<k))
 (hm:Hid (m=cc % 128)) (hp:Hid (p=m*2 ^ (7*k))) (hq:Hid (q=acc+p)):nC l=some (q,k+1):=by
 rw[h.open_ hlt hcc,if_neg hb,if_pos h128,if_neg hz,hq.out,hp.out,hm.out]
theorem gA.bd(h:gA l k acc)(hp:p=m*2 ^ (7*k))(hm:m<128)(h9:k<9∨k=9∧m≤1):p<2 ^ 64∧acc<2 ^ 64∧p % 2 ^ (7*k)=0:=by
 have h1:=h.2.1;subst hp;have hmod:m*2 ^ (7*k) % 2 ^ (7*k)=0:=Nat.mul_mod_left _ _;rcases h9 with h9|⟨h9,hm1⟩
 ·have hb:m*2 ^ (7*k)≤127*2 ^ (7*k):=wU _ (by omega);have hk:2 ^ (7*k)≤2 ^ 56:=Nat.pow_le_pow_right (by omega) (by omega);exact⟨by omega,by omega,hmod⟩
 ·subst h9;have hb:m*2 ^ (7*9)≤1*2 ^ (7*9):=wU _ hm1;exact⟨by omega,by omega,hmod⟩
theorem gA.e3(h:gA l k acc)(hp:p=m*2 ^ (7*k))(hm:m<128)(h9:k<9∨k=9∧m≤1):IntKind.u64.wrap ((m:Int)*2 ^ (7*k))=(p:Int):=by
 have hb:=h.bd hp hm h9;rw[show((m:Int)*2 ^ (7*k))=(p:Int) by rw[hp];simp];exact u64_keep (by omega)
theorem gA.e4(h:gA l k acc)(hp:p=m*2 ^ (7*k))(hq:q=acc+p)(hm:m<128)(h9:k<9∨k=9∧m≤1):bits .or .u64 (acc:Int) (p:Int)=(q:Int):=by
 have hb:=h.bd hp hm h9;rw[u64_or_nat _ _ (by omega) (by omega),hq,Nat.or_comm,nat_join (7*k) p acc hb.2.2 h.2.1,Nat.add_comm]
theorem gA.step(h:gA l k acc)(hlt:k<l.length)(hcc:l[k].toNat=cc)(h128:¬cc<128)(hb:¬(k=9∧1<cc∨9<k))
 (hm:Hid (m=cc % 128)) (hp:Hid (p=m*2 ^ (7*k))) (hq:Hid (q=acc+p)):gA l (k+1) q:=by
 have h1:=h.2.1;refine⟨?_,?_,by omega⟩
 ·rw[h.open_ hlt hcc,if_neg hb,if_neg h128,hq.out,hp.out,hm.out]
 ·have hp2:2 ^ (7*(k+1))=128*2 ^ (7*k):=by rw[Nat.mul_add,Nat.pow_add];omega
  have hle:m*2 ^ (7*k)≤127*2 ^ (7*k):=wU _ (by have:=hm.out;omega);have:=hp.out;have:=hq.out
  omega
end
end
section
theorem kI(n:Int):IntKind.u64.wrap n=n % 18446744073709551616:=by simp[IntKind.wrap,IntKind.bits,IntKind.signed]
theorem wrap_i64(n:Int):wrap64 n=(n+9223372036854775808) % 18446744073709551616-9223372036854775808:=by
 unfold wrap64;omega
end
section
theorem putR_any(n:Nat)(hn:Hid (n<2 ^ 64))(w:World):
 Calls Tryz.prog 159 #[.int .u64 n] w fun e w'=>∃v,e=.returned v∧w'.ownsRow w.heap.size 5 1 v (gE n).length (bV (gE n))∧Below w.heap.size w w':=by
 obtain⟨i0,hi,hz0,hz1,hz2⟩:=info_parts pT
 go_enter Tryz.func159,Tryz.ntmps159;go_wp2
 go_loopw [0,3] (fun s0 v wr=>∃(f cur:Nat) (pre:List UInt8),s0=.int .u64 cur∧Hid (kT n f cur pre) ∧
  wr.ownsRow w.heap.size 5 1 v pre.length (bV pre)∧Below w.heap.size w wr) (fun s0 _ _=>(intOf s0).toNat)
 case atStart=>exact⟨9,n,[],rfl,kT.start hn.out,bT _ _ _ _,sB _ _⟩
 obtain⟨f,cur,pre,rfl,hpa,hown,hb⟩:=hrel
 have hlen:=hpa.out.len;by_cases hlt:cur<128
 ·have hd:decide ((127:Int)<(cur:Int))=false:=by simp;omega
  have hc8:(cur:Int) % 256=(cur:Int):=by omega
  have HL:=Hi (hpa.out.last hlt);go_wp2_with (at_builtin;refine aG _ rfl (.tmp 15) (.tmp 18) _ rfl (w.heap.size) 5 i0 _ 1 1 Tryz.underlying141 hi hz0 hz1 hz2 rfl (by omega) (u3) (pre.length) (bV pre) rfl (hown.alloc _) _ (some ⟨wr.heap.size,0,none⟩) (1) (1) (bV [UInt8.ofNat cur]) rfl (reads_new _ _ _ _ (by rw[gK (by omega)]) _ rfl) (jM _) ?c1 ?c2 ?c3 ?_)
  try case c1=>simp only[maxLen];omega
  try case c2=>omega
  try case c3=>have:=hb.size;simp;omega
  intro v1 w1 hown1 hg1 hat1;have hb1:Below w.heap.size w w1:=(hb.alloc hb.size _).grown hg1 (by have:=hb.size;simp;omega) (fun g hg=>(aF hown hg).1);go_wp2
  go_ret;exact⟨_,rfl,by rw[HL.o,sG,fY];exact hown1,hb1⟩
 ·have hd:decide ((127:Int)<(cur:Int))=true:=by simp;omega
  obtain⟨m,hm⟩:∃m,m=cur % 128:=⟨_,rfl⟩
  obtain⟨q,hq⟩:∃q,q=cur / 128:=⟨_,rfl⟩
  have hm1:(cur:Int).tmod 128=(m:Int):=by rw[Int.tmod_eq_emod_of_nonneg (by omega)];omega
  have hm2:(cur:Int) % 128=(m:Int):=by omega
  have hq1:(cur:Int).tdiv 128=(q:Int):=by rw[Int.tdiv_eq_ediv_of_nonneg (by omega)];omega
  have hq2:(cur:Int) / 128=(q:Int):=by omega
  have hm8:m<128:=by omega
  have HX:Hid ((m:Int)+128=((loB cur).toNat:Int)):=by show _=_;rw[loB_toNat];omega
  obtain⟨f',hp'⟩:=hpa.out.step hlt
  rw[←hq]at hp';have HP:=Hi hp';have hqc:q<cur:=by omega
  have hq3:IntKind.u64.wrap (q:Int)=(q:Int):=u64_keep (by have:=hpa.out.lt;omega);clear hm hq hp';go_wp2_with (at_builtin;refine aG _ rfl (.tmp 6) (.tmp 11) _ rfl (w.heap.size) 5 i0 _ 1 1 Tryz.underlying141 hi hz0 hz1 hz2 rfl (by omega) (u3) (pre.length) (bV pre) rfl (hown.alloc _) _ (some ⟨wr.heap.size,0,none⟩) (1) (1) (bV [loB cur]) rfl (reads_new _ _ _ _ HX.o _ rfl) (jM _) ?c1 ?c2 ?c3 ?_)
  try case c1=>simp only[maxLen];omega
  try case c2=>omega
  try case c3=>have:=hb.size;simp;omega
  intro v1 w1 hown1 hg1 hat1;have hb1:Below w.heap.size w w1:=(hb.alloc hb.size _).grown hg1 (by have:=hb.size;simp;omega) (fun g hg=>(aF hown hg).1);go_wp2
  exact⟨⟨f',q,pre++[loB cur],rfl,HP,by rw[sG,fY];exact hown1,hb1⟩,by simp[intOf];omega⟩
theorem putSR_any(n:Int)(hn:(Lit.int .i64 n).wf=true)(w:World):
 Calls Tryz.prog 123 #[.int .i64 n] w fun e w'=>∃v,e=.returned v∧w'.ownsRow w.heap.size 5 1 v (jP n).length (bV (jP n))∧Below w.heap.size w w':=by
 have hb:=bounds_i64 hn;have HL:Hid (zz n<2 ^ 64):=zz_lt hb;by_cases h0:n<0
 ·have HZ:Hid (IntKind.u64.wrap (IntKind.u64.wrap (IntKind.u64.wrap (wrap64 (-wrap64 (n+1)))*2)+1)=((zz n:Nat):Int)):=by
   show _=_;rw[kI,kI,kI,wrap_i64,wrap_i64];unfold zz;split<;>omega
  have hd:decide (n<0)=true:=by simpa using h0
  clear hn hb h0;go_enter Tryz.func123,Tryz.ntmps123;go_wp2_with fail
  rw[HZ.o];refine(putR_any (zz n) HL w).mono ?_
  rintro e w1 ⟨v,rfl,ho,hb⟩;go_wp2
  go_ret;exact⟨v,rfl,ho,hb⟩
 ·have HZ:Hid (IntKind.u64.wrap (IntKind.u64.wrap n*2)=((zz n:Nat):Int)):=by
   show _=_;rw[kI,kI];unfold zz;split<;>omega
  have hd:decide (n<0)=false:=by simpa using h0
  clear hn hb;go_enter Tryz.func123,Tryz.ntmps123;go_wp2_with fail
  rw[HZ.o];refine(putR_any (zz n) HL w).mono ?_
  rintro e w1 ⟨v,rfl,ho,hb⟩;go_wp2
  go_ret;exact⟨v,rfl,ho,hb⟩
end
section
theorem intsC_at_{l:List Int}{k:Nat}{x:Int}(h:l[k]?=some x):(intsC l)[k]?=some (.int .i64 x):=by simp[intsC,h]
def bG(l:List Int):List UInt8:=l.flatMap fun x=>gE x.toNat
theorem qV:∀(l:List Int),(bG l).length≤10*l.length
 | []=>by simp[bG]
 |x::l=>by
  have:=qV l
  have h:=(iO x.toNat).2;simp only[bG,tM,sG,sW]at this ⊢;omega
theorem numsL_append(a b:List Int):bG (a++b)=bG a++bG b:=by simp[bG]
theorem numsL_take{l:List Int}{k:Nat}{x:Int}(h:l[k]?=some x):bG (l.take (k+1))=bG (l.take k)++gE x.toNat:=by
 rw[sS,h,numsL_append];simp[bG]
theorem u64_nat{x:Int}(h0:0≤x)(h1:x≤9223372036854775807):IntKind.u64.wrap x=((x.toNat:Nat):Int):=by
 rw[kI];omega
theorem Evo.of_append'{w w':World}{o o':Option Nat}(h:w.grownBy w' o)(ho:o'=o∨o'=some w.heap.size):Evo w o w' o':=Evo.of_append h ho
theorem refNums_any(xs:List Int)(pre:List UInt8)(v:Value)(base:Nat)(D:Nat→Prop)(A:Option Addr)(n c:Nat)(w:World)
 (hown:w.ownsRow base 5 1 v pre.length (bV pre)) (hbase:base≤w.heap.size) (hr:aC D w 1 A n (intsC xs)) (hD:∀k,D k→k<w.heap.size∧v.ownBlock≠some k)
 (hn:xs.length=n) (hn1:n≤100) (hp:pre.length≤1000000) (hx:∀x∈xs,0≤x∧x≤9223372036854775807) :
 Calls Tryz.prog 122 #[v,.slice A n c] w fun e w'=>∃v',e=.returned v'∧w'.ownsRow base 5 1 v' (pre++bG xs).length (bV (pre++bG xs))∧Evo w v.ownBlock w' v'.ownBlock:=by
 obtain⟨i0,hi,hz0,hz1,hz2⟩:=info_parts pT
 have HR:=Hi hr;have HD:=Hi hD;have HN:=Hi hn;have HX:=Hi hx;have HP:=Hi hp;clear hr hD hn hx hp;go_enter Tryz.func122,Tryz.ntmps122;go_wp2_with fail
 go_loopw [0,5] (fun s0 s5 wr=>∃k:Nat,k≤n∧s5=.int .i64 k∧wr.ownsRow base 5 1 s0 (pre++bG (xs.take k)).length (bV (pre++bG (xs.take k)))∧Hid (Evo w v.ownBlock wr s0.ownBlock)) (fun _ s5 _=>n-(intOf s5).toNat)
 case atStart=>exact⟨0,by omega,rfl,by simpa[bG] using hown,Evo.refl _ _⟩
 case round =>
  clear hown;obtain⟨k,hk,rfl,hown,HE⟩:=hrel
  by_cases hlt:k<n
  ·obtain⟨x,hx⟩:∃x,xs[k]?=some x:=lG (by rw[HN.o];exact hlt)
   obtain⟨b,off,hA,hb,hcell⟩:=HR.o.at_ (by omega) (by omega)
   subst hA;have hxb:=HX.o x (sJ hx);have hcx:wr.cell? ⟨b,off+k,none⟩=some (.int .i64 x):=by
    rw[HE.o.cell (p:=⟨b,off+k,none⟩) (HD.o b hb).1 (HD.o b hb).2];exact hcell k _ (intsC_at_ hx)
   have hu:=u64_nat hxb.1 hxb.2;have hlen:=qV (xs.take k);have hst:Hid (pre++bG (xs.take (k+1))=(pre++bG (xs.take k))++gE x.toNat):=by show _=_;rw[numsL_take hx,sX]
   have hpl:(pre++bG (xs.take k)).length≤1001000:=by
    have:=HP.o
    simp only[sG,tD]at hlen ⊢;omega
   have HQ:Hid (x.toNat<2 ^ 64):=by show _<_;omega
   generalize pre++bG (xs.take k)=acc at hown hst hpl;generalize x.toNat=q at hu hst HQ;clear hx hxb hlen;go_wp2_with fail
   refine(putR_any q HQ wr).mono ?_
   rintro e w3 ⟨v3,rfl,ho3,hb3⟩;obtain⟨A3,c3,hv3,_,_,hr3⟩:=aC.of_own ho3
   subst hv3;have HE3:Hid (Evo w v.ownBlock w3 u0.ownBlock):=HE.o.trans (Evo.of_below hb3);have hown3:=aU hown fun g hg=>hb3.block g (aF hown hg).2
   have hpn:=(iO q).2;have HR3:=Hi hr3;have hs3:base≤w3.heap.size:=sR hbase HE3.o.size;clear ho3 hb3 hr3 hcx;go_wp2_with (at_builtin;refine aG _ rfl (.tmp 12) (.tmp 18) _ rfl (base) 5 i0 _ 1 1 Tryz.underlying141 hi hz0 hz1 hz2 rfl (by omega) (u0) (acc.length) (bV acc) rfl (hown3) _ (A3) ((gE q).length) (c3) (bV (gE q)) rfl (HR3.o) (jM _) ?c1 ?c2 ?c3 ?_)
   try case c1=>simp only[maxLen];omega
   try case c2=>omega
   try case c3=>exact hs3
   intro v4 w4 ho4 hg4 hat4;have HE4:Hid (Evo w v.ownBlock w4 v4.ownBlock):=HE3.o.trans (Evo.of_append' hg4 hat4);rw[←fY]at ho4;clear hown3 hg4 hat4 HR3 hs3;go_wp2_with fail
   first
    |exact⟨⟨k+1,by omega,by go_num,by rw[hst.out];simpa using ho4,HE4⟩,by simp[intOf];omega⟩
    |(go_roundw
      case rel=>exact⟨k+1,by omega,by go_num,by rw[hst.out];simpa using ho4,HE4⟩
      case measure=>simp[intOf];omega)
  ·have hkn:k=n:=by omega
   have HF:Hid (xs.take k=xs):=by show _=_;exact sL (by rw[HN.o];omega)
   rw[HF.o]at hown;clear hkn;go_wp2_with fail
   go_ret;exact⟨_,rfl,hown,HE.o⟩
end
section
section
variable{P:Program}(w:World)
theorem oF(S:ByteArray):(Builtin.firstCells 1 S.size (.string S)).run P w=.ok (bV S.data.toList).toArray w:=by
 have hx:(Array.map (fun b:UInt8=>Value.int IntKind.u8 (b.toNat:Int)) S.data).extract 0 S.size=Array.map (fun b:UInt8=>Value.int IntKind.u8 (b.toNat:Int)) S.data:=by
  have hs:S.size=(Array.map (fun b:UInt8=>Value.int IntKind.u8 (b.toNat:Int)) S.data).size:=by rw[Array.size_map];rfl
  rw[hs,wS]
 have e:(bV S.data.toList).toArray=Array.map (fun b:UInt8=>Value.int IntKind.u8 (b.toNat:Int)) S.data:=by
  apply Array.ext';simp[bV]
 rw[e];simp[Builtin.firstCells,hx]
theorem str_len(S:ByteArray):(bV S.data.toList).length=S.size:=by
 rw[bytesC_length,ByteArray.size,vJ]
theorem run_append_str(base:Nat)(t u ty e:TypeId)(i:TypeInfo)(z:Value)(bytes:Nat)(ht:P.underlying t=some (.slice e))(hu:P.underlying u=some .string)(hi:P.info? e=some i)(hz:i.zero=some z)
 (hsize:i.size=1) (hby:i.bytes=bytes) (hzs:z.cells.size=1)
 (v:Value) (n:Nat) (xs:List Value) (hown:w.ownsRow base e 1 v n xs) (S:ByteArray)
 (h63:n+S.size≤maxLen) (hbytes:(n+S.size)*bytes≤140737488355328) (hbase:base≤w.heap.size) :
 ∃v' w',(Builtin.append_ #[t,u] ty #[v,.string S]).run P w=.ok v' w'∧w'.ownsRow base e 1 v' (n+S.size) (xs++bV S.data.toList)∧w.grownBy w' v.ownBlock ∧
  (v'.ownBlock=v.ownBlock∨v'.ownBlock=some w.heap.size):=by
 subst hby
 have hnl:=str_len S;have hf:=fun w=>oF (P:=P) w S
 have h1:=jM S.data.toList;generalize bV S.data.toList=news at hnl hf h1 ⊢;have hsmall:n+S.size≤9223372036854775807:=by simp only[maxLen]at h63;omega
 have hlen:(xs++news).length=(n+S.size)*1:=by rw[sG,hown.1,hnl];omega
 have grown:∀(old:Nat),old<n+S.size→∀(row:Option Nat),
  (w.drew.alloc (.cells (xs.toArray++news.toArray++Builtin.zeroCells z.cells (grownCap w (n+S.size) old e-(n+S.size))) e)).ownsRow base e 1
    (.slice (some ⟨w.heap.size,0,none⟩) (n+S.size) (grownCap w (n+S.size) old e)) (n+S.size) (xs++news) ∧
  w.grownBy (w.drew.alloc (.cells (xs.toArray++news.toArray++Builtin.zeroCells z.cells (grownCap w (n+S.size) old e-(n+S.size))) e)) row:=by
  intro old ho row;have hge:=grownCap_ge w (n+S.size) old e;have hcm:grownCap w (n+S.size) old e≤maxLen:=grownCap_le_maxLen w (n+S.size) old e h63;refine⟨⟨hlen,.inr ⟨w.heap.size,_,_,rfl,hbase,heap_alloc_new w.drew _,hge,hcm,?_,?_⟩⟩,⟨rfl,rfl,rfl,by simp,fun k hk _=>sO w.drew _ k hk⟩⟩
  ·simp only[Array.size_append,List.size_toArray,size_zeroCells,hzs,hown.1,hnl];omega
  ·simp only[Array.toList_append,sX];rw[←sX,←hlen];exact List.take_left
 rcases hown.2 with⟨rfl,rfl⟩|⟨g,cap,cur,rfl,hbg,hg,hnc,hcm,hcs,htake⟩
 ·have hx:xs=[]:=vD (by simpa using hown.1);subst hx;by_cases hm:S.size=0
  ·have hn:news=[]:=vD (by rw[hnl,hm]);subst hn;refine⟨.slice none 0 0,w,?_,by rw[hm];exact World.ownsRow_nil w base e 1,⟨rfl,rfl,rfl,sC _,fun _ _ _=>rfl⟩,Or.inl rfl⟩
   rw[hm]at hf;simp[Builtin.append_,run_underlying ht,run_underlying hu,sizeOf,typeInfo,hi,hsize,Builtin.lenOf,hf,hm]
  ·have hgr:=grown 0 (by omega) (Value.ownBlock (.slice none 0 0));have h63':¬(9223372036854775807<(S.size:Int)):=by omega
   have h48':¬(281474976710656<Builtin.nextslicecap S.size 0*i.bytes):=by rw[nextslicecap_zero (by omega)];simp only[vE]at hbytes;omega
   simp only[vE,wZ,Array.empty_append]at hgr ⊢;refine⟨_,_,?_,hgr.1,hgr.2,Or.inr rfl⟩
   simp[Builtin.append_,run_underlying ht,run_underlying hu,sizeOf,typeInfo,zeroValue,hi,hz,hsize,Builtin.lenOf,hm,h63',h48',Question.forced,run_firstCells_none,hf,newRow,grownCap]
 ·by_cases hroom:n+S.size≤cap
  ·have hfit:n*1+news.length≤cur.size:=by rw[hnl,hcs];omega
   have hst:=run_storeCells_at P g (n*1) e news 0 cur w hg (by simpa using hfit) h1;simp only[xP]at hst;have hr:(Builtin.append_ #[t,u] ty #[.slice (some ⟨g,0,none⟩) n cap,.string S]).run P w =
    .ok (.slice (some ⟨g,0,none⟩) (n+S.size) cap) (w.setRow g (cur.toList.take (n*1)++news++cur.toList.drop (n*1+news.length)).toArray):=by
    simp only[Nat.mul_one]at hst ⊢;simp[Builtin.append_,run_underlying ht,run_underlying hu,sizeOf,typeInfo,hi,hsize,Builtin.lenOf,hroom,hf,Addr.add_lit,hst]
   refine⟨_,_,hr,⟨hlen,.inr ⟨g,cap,_,rfl,hbg,setRow_heap w g cur _ e _ hg,hroom,hcm,?_,?_⟩⟩,⟨rfl,rfl,rfl,by simp,fun k _ hk=>setRow_other w g k _ (fun e=>hk (by simp[Value.ownBlock,e]))⟩,Or.inl rfl⟩
   ·simp only[List.size_toArray,sG,tD,uQ,vJ];omega
   ·rw[htake,←hlen];exact List.take_left
  ·have holds:∀j u,xs[j]?=some u→w.cell? ((⟨g,0,none⟩:Addr).add j)=some u:=hown.cells (g:=g) rfl;have hfo:=run_firstCells_some (P:=P) w.drew 1 n ⟨g,0,none⟩ n cap xs hown.1 (by simpa using holds);have h63':¬(9223372036854775807<((n:Int)+(S.size:Int))):=by omega
   have h48':¬(281474976710656<Builtin.nextslicecap (n+S.size) cap*i.bytes):=by have:=growslice_fits (old:=cap) (need:=n+S.size) (bytes:=i.bytes) (by omega) hbytes;omega
   have hgr:=grown cap (by omega) (Value.ownBlock (.slice (some ⟨g,0,none⟩) n cap));refine⟨_,_,?_,hgr.1,hgr.2,Or.inr rfl⟩
   simp[Builtin.append_,run_underlying ht,run_underlying hu,sizeOf,typeInfo,zeroValue,hi,hz,hsize,Builtin.lenOf,hroom,h63',h48',Question.forced,hf,hfo,newRow,grownCap];congr 2;apply Array.ext';simp[sX]
end
theorem gD{P:Program}{w:World}{ops:Array Oper}{rest:List Oper}{o:Oper}{a:Act}{Q:Exit→Act→World→Prop}(hgd:o.guard=none)(s x:Operand)(t t2:TypeId)
 (ho:o.op=.call { callee:=.builtin .append,args:=#[s,x],argTypes:=#[t,t2] }) (v y:Value) (hs:a.eval s=v) (hx:a.eval x=y) (R:Value→World→Prop)
 (hr:∃v' w',(Builtin.append_ #[t,t2] o.type #[v,y]).run P w=.ok v' w'∧R v' w') (h:∀v' w',R v' w'→wpList P ops Q rest (a.put o.dst v') w'):wpList P ops Q (o::rest) a w :=
 wpList_plain hgd fun _ hK=>by
  obtain⟨v',w',hrun,hR⟩:=hr
  unfold Oper.wp execOp;simp only[ho,resolve,invoke,builtin,xG,Sem.run_pure,xT,List.map_toArray,sT,vM,hs,hx,hrun];exact hK _ _ (h v' w' hR)
end
section
def kG(w:World)(g:Nat)(o:Option Nat)(w':World)(o':Option Nat):Prop:=Chg (fun k=>k=g∨o=some k) w w'∧(o'=o∨∃h,o'=some h∧w.heap.size≤h)
theorem kG.refl(w:World)(g:Nat)(o:Option Nat):kG w g o w o:=⟨Chg.refl w,.inl rfl⟩
theorem kG.trans{a b c:World}{g:Nat}{o o' o'':Option Nat}(h:kG a g o b o')(k:kG b g o' c o''):kG a g o c o'':=by
 refine⟨h.1.trans k.1 fun i hi hm=>?_,?_⟩
 ·rcases hm with hm|hm
  ·exact .inl hm
  ·rcases h.2 with e|⟨x,e,hx⟩
   ·exact .inr (by rw[←e];exact hm)
   ·rw[e]at hm;injection hm with hm;omega
 ·rcases k.2 with e|⟨x,e,hx⟩
  ·rw[e];exact h.2
  ·exact .inr ⟨x,e,sR h.1.size hx⟩
theorem kG.of_below{w w':World}{g:Nat}{o:Option Nat}(h:Below w.heap.size w w'):kG w g o w' o:=⟨Chg.of_below h,.inl rfl⟩
theorem kG.of_evo{w w':World}{g:Nat}{o o':Option Nat}(h:Evo w o w' o'):kG w g o w' o' :=
 ⟨⟨h.os,h.tape,h.output,h.size,fun k hk hn=>h.block k hk fun e=>hn (.inr e)⟩,h.lies⟩
theorem kG.set_{a w:World}{g:Nat}{o o':Option Nat}(h:kG a g o w o')(i:Nat)(u:Value):kG a g o (w.setCell ⟨g,i,none⟩ u) o':=⟨h.1.setCell (p:=⟨g,i,none⟩) (.inl (.inl rfl)) u,h.2⟩
theorem kG.drew{a w:World}{g:Nat}{o o':Option Nat}(h:kG a g o w o'):kG a g o w.drew o':=⟨h.1.drew,h.2⟩
theorem kG.alloc{a w:World}{g:Nat}{o o':Option Nat}(h:kG a g o w o')(ob:Obj):kG a g o (w.alloc ob) o':=⟨h.1.alloc ob,h.2⟩
theorem kG.block{w w':World}{g:Nat}{o o':Option Nat}(h:kG w g o w' o'){k:Nat}(hk:k<w.heap.size)(h1:k≠g)(h2:o≠some k):w'.heap[k]?=w.heap[k]?:=h.1.block k hk (by rintro(e|e);exact h1 e;exact h2 e)
end
end Go.Proofs.YtmpkejflgpodkaaGreatDoor
