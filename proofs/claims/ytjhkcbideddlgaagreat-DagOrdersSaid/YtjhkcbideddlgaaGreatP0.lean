/- The frame of a law's row, whatever its parameters: the call answers true, and below the heap's old size nothing has turned. -/
import Derived.Test.YtjhkcbideddlgaaGreatRows
import Derived.WalkKit
import Derived.ProofKit
import Derived.OpenShut
import Derived.Below
import Derived.Carry
import Derived.ChangeSame
import Derived.Deep.Slices
import Derived.Laws.OwnMore
import Derived.Deep.AppendLies
import Derived.Deep.Draws
import Derived.Laws.Rows
import Derived.Maps.AppendAt
import Derived.RegionTactic
import Derived.OwnWalk
import Derived.Laws.BitsAllLaws
import Derived.Laws.BitsLemmas
import Derived.Laws.Bits64
import Derived.Laws.IdiomStrings
import Derived.Laws.BytesArg
import Derived.WalkLawsBesides
import Derived.WalkSpells
import Derived.BigQuiet
import Derived.Deep.QuietTactic
import Derived.Deep.RegionHeld3
import Derived.Lib.Hide
import Derived.LoopTactic
import Derived.StillTailTactics
import Derived.Deep.DeepFit
import Derived.Deep.RegionWith
set_option maxHeartbeats 4000000
set_option maxRecDepth 20000
set_option linter.unusedVariables false
set_option linter.unusedSimpArgs false
namespace Go.Proofs.YtjhkcbideddlgaaGreat
open Go.ChangeShapes Go.WideShapes Go.ChangeAt Go.RowKit
section
open Go.ChangeShapes Go.WideShapes Go.ChangeAt Go.RowKit Go.Deep
section
variable{H:Type}{enc:TypeId×Value→H}{P:Program}
theorem lP(hl:laidOutB P=true){W W':World}(hb:Below W.heap.size W W')(sp:Nat→Bool):
 ∀(ts:List TypeId) (vs:List Value) (ds:List (DataW H)) (ps:List MemPlace),(∀t∈ts,P.readableRec t=true∧t<P.types.size) →
  DataW.TrodAll enc P W 0 (fun _=>true) true ts vs ds ps→(∀x∈ps,x.block<W.heap.size)→(∀x∈ps,sp x.block=true)→DataW.TrodAll enc P W' 0 sp true ts vs ds ps
 | [],vs,ds,ps,_,h,_,_=>by
   obtain⟨rfl,rfl,rfl⟩:=trodAll_nil h
   exact trodAll_mk0
 |t::ts,vs,ds,ps,hr,h,hlt,hs=>by
  obtain⟨v,vs',d,ds',p,q,rfl,rfl,rfl,h1,h2⟩:=trodAll_cons h
  have ht:=hr t (by simp);refine trodAll_cons_mk (WideElems.Trod_stays hl ht.1 ht.2 h1 (fun x hx=>hb.same (hlt x (by simp[hx]))) (fun x hx=>hs x (by simp[hx]))) ?_;exact lP hl hb sp ts vs' ds' q (fun t' h'=>hr t' (by simp[h'])) h2 (fun x hx=>hlt x (by simp[hx])) (fun x hx=>hs x (by simp[hx]))
theorem post_of_below{f:Func}{s:ChangeSpec}{apart fresh handsOn again:Bool}{W W':World}{args:Array Value}{v:Value}{ds gs:List (DataW H)}{before pa pv:List MemPlace}
 (hW:DataW.Whole enc P f.params.toList s.vars apart W args.toList ds gs before)
 (hres:∀(b:Nat) (sp:Nat→Bool) (hd:Bool),DataW.TrodAll enc P W' b sp hd f.resultTypes.toList (v.resultList f.resultTypes.size) (s.fn H (ds++gs)).results [])
 (hargs:∀sp:Nat→Bool,(∀p∈before,sp p.block=true)→DataW.TrodAll enc P W' 0 sp true f.params.toList args.toList (s.fn H (ds++gs)).args pa)
 (hvars:∀sp:Nat→Bool,(∀p∈before,sp p.block=true)→DataW.TrodVars enc P W' sp s.vars (s.fn H (ds++gs)).vars pv)
 (hps:before=pa++pv) (hb:Below W.heap.size W W')
 (hok:∀(j:Nat) (t:TypeId) (r:Value),f.resultTypes[j]?=some t→(v.resultList f.resultTypes.size)[j]?=some r→Value.okWide P W' .any 0 t r) :
 s.post enc P f apart fresh handsOn again W args v W':=by
 have hlt:∀p∈before,p.block<W.heap.size:=fun p hp=>hW.lt p hp
 have hold:∀p∈before,(fun b=>decide (b<W.heap.size)) p.block=true:=fun p hp=>by simpa using hlt p hp
 refine⟨ds,gs,before,[],pa,pv,hW,hres _ _ _,hargs _ hold,hvars _ hold,World.keptBut_mono (fun p hp=>⟨hp,?_⟩) (hb.frame (·∈before)),fun _=>?_⟩
 ·rw[hps,List.mem_append]at hp;exact Or.inr hp
 ·obtain⟨_,_,_,_,_,hz,hn⟩:=hW
  refine⟨hok,_,_,([]++pa)++pv,⟨[]++pa,pv,trodAll_append (hargs _ (fun _ _=>rfl)) (hres _ _ _),hvars _ (fun _ _=>rfl),rfl,?_,?_⟩,?_⟩
  ·intro b off hp;have hin:MemPlace.cell b off∈before:=by rw[hps];simpa using hp
   rw[hb.frozen (hlt _ hin)];exact hz b off hin
  ·intro ha;have:=hn ha
   rw[hps]at this;simpa using this
  ·intro p hp _;rw[hps];simpa using hp
theorem law_post{f:Func}{s:ChangeSpec}{apart fresh handsOn again:Bool}{W W':World}{args:Array Value}{ds gs:List (DataW H)}{before:List MemPlace}{tb:TypeId}
 (hl:laidOutB P=true) (hread:(f.params.toList.all fun t=>P.readableRec t&&decide (t<P.types.size))=true) (hres:f.resultTypes=#[tb]) (htb:P.underlying tb=some .bool)
 (hvars:s.vars=[]) (hs:(s.fn H ds).results=[.lit (.bool true)]∧(s.fn H ds).args=ds∧(s.fn H ds).vars=[])
 (hW:DataW.Whole enc P f.params.toList s.vars apart W args.toList ds gs before) (hb:Below W.heap.size W W') :
 ∃v,Ending.returned (.bool true)=.returned v∧s.post enc P f apart fresh handsOn again W args v W':=by
 have hW':=hW;obtain⟨p,q,hA,hV,rfl,hz,hn⟩:=hW
 rw[hvars]at hV;obtain⟨rfl,rfl⟩:=trodVars_none hV
 refine⟨_,rfl,post_of_below (pa:=p) (pv:=[]) hW' ?_ ?_ ?_ rfl hb ?_⟩
 ·intro b sp hd;rw[List.append_nil,hs.1,hres];exact trodAll_cons_mk (shut_bool htb true) trodAll_mk0
 ·intro sp hsp;rw[List.append_nil,hs.2.1];refine lP hl hb sp _ _ _ _ (fun t ht=>?_) hA (fun x hx=>hW'.lt x (by simp[hx])) (fun x hx=>hsp x (by simp[hx]));have:=List.all_eq_true.1 hread t ht
  simpa using this
 ·intro sp _;rw[List.append_nil,hs.2.2,hvars];rfl
 ·exact ok_one hres rfl (okWide_bool_mk htb true)
end
theorem own:ownKnob Tryz.prog.godebug=none:=by kernel_rfl
theorem laidOut:laidOutB Tryz.prog=true:=by kernel_rfl
end
section
open Go.RowKit
/-! what stays -/
def lD(D:Nat→Prop)(w w':World):Prop:=∀k,D k→w'.heap[k]?=w.heap[k]?
theorem lD.cell{D:Nat→Prop}{w w':World}(h:lD D w w'){p:Addr}(hp:D p.block):w'.cell? p=w.cell? p:=World.cell?_of_block (w:=w) (h p.block hp)
structure Chg(M:Nat→Prop)(w w':World):Prop where
 os:w'.os=w.os
 tape:w'.tape=w.tape
 output:w'.output=w.output
 size:w.heap.size≤w'.heap.size
 block:∀k,k<w.heap.size→¬M k→w'.heap[k]?=w.heap[k]?
theorem Chg.refl{M:Nat→Prop}(w:World):Chg M w w:=⟨rfl,rfl,rfl,Nat.le_refl _,fun _ _ _=>rfl⟩
theorem Chg.trans{M M':Nat→Prop}{a b c:World}(h:Chg M a b)(k:Chg M' b c)(hm:∀i,i<a.heap.size→M' i→M i):Chg M a c :=
 ⟨k.os.trans h.os,k.tape.trans h.tape,k.output.trans h.output,Nat.le_trans h.size k.size,fun i hi hn=>(k.block i (Nat.lt_of_lt_of_le hi h.size) (fun e=>hn (hm i hi e))).trans (h.block i hi hn)⟩
theorem Chg.mono{M M':Nat→Prop}{a b:World}(h:Chg M a b)(hm:∀i,i<a.heap.size→M i→M' i):Chg M' a b :=
 ⟨h.os,h.tape,h.output,h.size,fun i hi hn=>h.block i hi (fun e=>hn (hm i hi e))⟩
theorem Chg.drew{M:Nat→Prop}{a w:World}(h:Chg M a w):Chg M a w.drew:=⟨h.os,h.tape,h.output,h.size,h.block⟩
theorem Chg.drewN_{M:Nat→Prop}{a w:World}(h:Chg M a w)(n:Nat):Chg M a (w.drewN n):=⟨h.os,h.tape,h.output,h.size,h.block⟩
theorem Chg.alloc{M:Nat→Prop}{a w:World}(h:Chg M a w)(o:Obj):Chg M a (w.alloc o) :=
 ⟨h.os,h.tape,h.output,Nat.le_trans h.size (by simp),fun i hi hn=>(Below.heap_alloc w o i (Nat.lt_of_lt_of_le hi h.size)).trans (h.block i hi hn)⟩
theorem Chg.setCell{M:Nat→Prop}{a w:World}(h:Chg M a w){p:Addr}(hp:M p.block∨a.heap.size≤p.block)(u:Value):Chg M a (w.setCell p u) :=
 ⟨h.os,h.tape,h.output,by simpa[World.setCell] using h.size,fun i hi hn=>(Below.heap_setCell w p u i (by
  rintro rfl;rcases hp with hp|hp
  ·exact hn hp
  ·omega)).trans (h.block i hi hn)⟩
theorem Chg.grown{M:Nat→Prop}{a w w':World}{row:Option Nat}(h:Chg M a w)(hg:w.grownBy w' row)(hr:∀g,row=some g→M g∨a.heap.size≤g):Chg M a w' :=
 ⟨hg.os.trans h.os,hg.tape.trans h.tape,hg.output.trans h.output,Nat.le_trans h.size hg.size,fun i hi hn=>(hg.block i (Nat.lt_of_lt_of_le hi h.size) (fun e=>by
  rcases hr i e.symm with h1|h1
  ·exact hn h1
  ·omega)).trans (h.block i hi hn)⟩
theorem Chg.of_below{w w':World}(h:Below w.heap.size w w'){M:Nat→Prop}: Chg M w w':=⟨h.os,h.tape,h.output,h.size,fun k hk _=>h.block k hk⟩
theorem Chg.below{w w':World}{M:Nat→Prop}(h:Chg M w w'){B:Nat}(hB:B≤w.heap.size)(hM:∀k,M k→B≤k):Below B w w' :=
 ⟨h.os,h.tape,h.output,h.size,fun k hk=>h.block k (by omega) (fun e=>by have:=hM k e;omega)⟩
theorem Chg.keeps{M D:Nat→Prop}{w w':World}(h:Chg M w w')(hd:∀k,D k→k<w.heap.size∧¬M k):lD D w w':=fun k hk=>h.block k (hd k hk).1 (hd k hk).2
theorem gE(a:Addr)(n:Nat):(a.add n).block=a.block:=by unfold Addr.add;split<;>rfl
theorem add_of_add(a:Addr)(i j:Nat):(a.add i).add j=a.add (i+j):=by
 unfold Addr.add;by_cases hi:i=0<;>by_cases hj:j=0<;>simp[hi,hj,Nat.add_assoc]
/-! a slice '.slice A n c' that reads as the cells xs ('size' cells an element), in blocks of D -/
def aC(D:Nat→Prop)(w:World)(size:Nat)(A:Option Addr)(n:Nat)(xs:List Value):Prop :=
 xs.length=n*size∧(0<n→∃ad,A=some ad∧D ad.block∧∀j u,xs[j]?=some u→w.cell? (ad.add j)=some u)
section
variable{D D':Nat→Prop}{w w':World}{size n:Nat}{A:Option Addr}{xs:List Value}
theorem aC.none_{A:Option Addr}: aC D w size A 0 []:=⟨by simp,fun h=>absurd h (by omega)⟩
theorem aC.keep(h:aC D w size A n xs)(hk:lD D w w'):aC D w' size A n xs :=
 ⟨h.1,fun hn=>by
  obtain⟨ad,e,hb,hc⟩:=h.2 hn
  exact⟨ad,e,hb,fun j u hu=>(hk.cell (by rw[gE];exact hb)).trans (hc j u hu)⟩⟩
theorem aC.more(h:aC D w size A n xs)(hD:∀k,D k→D' k):aC D' w size A n xs :=
 ⟨h.1,fun hn=>by
  obtain⟨ad,e,hb,hc⟩:=h.2 hn
  exact⟨ad,e,hD _ hb,hc⟩⟩
theorem aC.cut(h:aC D w size A n xs){k cap:Nat}(hk:k≤n)(hc:n≤cap):
 aC D w size (if cap=k then A else A.map (·.add (k*size))) (n-k) (xs.drop (k*size)):=by
 refine⟨by rw[List.length_drop,h.1,Nat.sub_mul],fun hn=>?_⟩
 obtain⟨ad,rfl,hb,hcell⟩:=h.2 (by omega)
 rw[if_neg (by omega)];refine⟨ad.add (k*size),rfl,by rw[gE];exact hb,fun j u hu=>?_⟩
 rw[add_of_add];exact hcell _ u (by rw[←hu,List.getElem?_drop])
theorem aC.take(h:aC D w size A n xs){k:Nat}(hk:k≤n):aC D w size A k (xs.take (k*size)):=by
 refine⟨by rw[List.length_take,h.1];exact Nat.min_eq_left (Nat.mul_le_mul_right _ hk),fun hn=>?_⟩
 obtain⟨ad,rfl,hb,hcell⟩:=h.2 (by omega)
 refine⟨ad,rfl,hb,fun j u hu=>hcell j u ?_⟩
 rw[List.getElem?_take]at hu;split at hu
 ·exact hu
 ·cases hu
theorem aC.at_(h:aC D w size A n xs)(hn:0<n)(hs:0<size):∃b off,A=some ⟨b,off,none⟩∧D b∧∀j u,xs[j]?=some u→w.cell? ⟨b,off+j,none⟩=some u:=by
 obtain⟨ad,rfl,hb,hc⟩:=h.2 hn
 have hx:0<xs.length:=by rw[h.1];exact Nat.mul_pos hn hs
 have h0:=hc 0 _ (List.getElem?_eq_getElem hx);have hsp:ad.spot=none:=by simpa[Addr.add] using World.cell?_spot h0
 obtain⟨b,off,sp⟩:=ad
 simp only at hsp;subst hsp;refine⟨b,off,rfl,hb,fun j u hu=>?_⟩
 have:=hc j u hu
 unfold Addr.add at this;split at this
 ·rename_i e;rw[e];exact this
 ·exact this
theorem aC.of_own{base:Nat}{e:TypeId}{v:Value}(h:w.ownsRow base e size v n xs):∃A c,v=.slice A n c∧n≤c∧c≤maxLen∧aC (fun k=>v.ownBlock=some k) w size A n xs:=by
 rcases h.2 with⟨rfl,h0⟩|⟨g,cap,cur,rfl,hbg,hg,hnc,hcm,hcs,ht⟩
 ·subst h0;exact⟨none,0,rfl,Nat.le_refl _,by simp[maxLen],h.1,fun hn=>absurd hn (by omega)⟩
 ·exact⟨_,cap,rfl,hnc,hcm,h.1,fun _=>⟨_,rfl,by simp[Value.ownBlock],h.cells (g:=g) rfl⟩⟩
end
/-! a block that is known whole -/
def Blk(w:World)(g:Nat)(t:TypeId)(cs:Array Value):Prop:=w.heap[g]?=some (.cells cs t (0,0))
section
variable{w w':World}{g:Nat}{t:TypeId}{cs:Array Value}
theorem Blk.lt(h:Blk w g t cs):g<w.heap.size:=by
 rcases Nat.lt_or_ge g w.heap.size with hlt|hge
 ·exact hlt
 ·unfold Blk at h;rw[Array.getElem?_eq_none hge]at h;cases h
theorem Blk.cell(h:Blk w g t cs)(i:Nat):w.cell? ⟨g,i,none⟩=cs[i]?:=cell_of_row w g i cs t (0,0) h
theorem Blk.frozen(h:Blk w g t cs)(i:Nat):w.frozen? ⟨g,i,none⟩=false:=by
 unfold Blk at h;simp[World.frozen?,h]
theorem Blk.new(w:World)(t:TypeId)(cs:Array Value):Blk (w.alloc (.cells cs t)) w.heap.size t cs:=heap_alloc_new w _
theorem Blk.keep(h:Blk w g t cs)(hk:w'.heap[g]?=w.heap[g]?):Blk w' g t cs:=hk.trans h
theorem Blk.drew(h:Blk w g t cs):Blk w.drew g t cs:=h
theorem Blk.alloc(h:Blk w g t cs)(o:Obj):Blk (w.alloc o) g t cs:=(Below.heap_alloc w o g h.lt).trans h
theorem Blk.set_(h:Blk w g t cs)(i:Nat)(u:Value):Blk (w.setCell ⟨g,i,none⟩ u) g t (cs.setIfInBounds i u):=by
 unfold Blk at h ⊢;simp[World.setCell,Array.getElem?_modify,h]
theorem Blk.far(h:Blk w g t cs){p:Addr}(hp:g≠p.block)(u:Value):Blk (w.setCell p u) g t cs:=(Below.heap_setCell w p u g hp).trans h
theorem Blk.ne_{g':Nat}{t':TypeId}{cs':Array Value}(h:Blk w g t cs)(h':Blk w g' t' cs')(hne:t≠t'):g≠g':=by
 rintro rfl;unfold Blk at h h';rw[h]at h';injection h' with h'
 injection h' with _ ht
 exact hne ht
theorem dI{base:Nat}{e:TypeId}{size n:Nat}{v:Value}{xs:List Value}(h:w.ownsRow base e size v n xs)(hg:Blk w g t cs)(hne:e≠t):v.ownBlock≠some g:=by
 rcases h.2 with⟨rfl,_⟩|⟨g',cap,cur,rfl,_,hh,_⟩
 ·simp[Value.ownBlock]
 ·intro he;have:g'=g:=by simpa[Value.ownBlock] using he
  subst this;exact Blk.ne_ (t:=e) hh hg hne rfl
end
theorem ce2{w:World}{g:Nat}{t:TypeId}{v0 v1:Value}{r:List Value}(h:Blk w g t (v0::v1::r).toArray):w.cell? ⟨g,0,none⟩=some v0∧w.cell? ⟨g,1,none⟩=some v1 :=
 ⟨h.cell 0,h.cell 1⟩
theorem ce3{w:World}{g:Nat}{t:TypeId}{v0 v1 v2:Value}{r:List Value}(h:Blk w g t (v0::v1::v2::r).toArray):w.cell? ⟨g,0,none⟩=some v0∧w.cell? ⟨g,1,none⟩=some v1∧w.cell? ⟨g,2,none⟩=some v2 :=
 ⟨h.cell 0,h.cell 1,h.cell 2⟩
theorem ce4{w:World}{g:Nat}{t:TypeId}{v0 v1 v2 v3:Value}{r:List Value}(h:Blk w g t (v0::v1::v2::v3::r).toArray):w.cell? ⟨g,0,none⟩=some v0∧w.cell? ⟨g,1,none⟩=some v1∧w.cell? ⟨g,2,none⟩=some v2∧w.cell? ⟨g,3,none⟩=some v3 :=
 ⟨h.cell 0,h.cell 1,h.cell 2,h.cell 3⟩
theorem ce5{w:World}{g:Nat}{t:TypeId}{v0 v1 v2 v3 v4:Value}{r:List Value}(h:Blk w g t (v0::v1::v2::v3::v4::r).toArray):w.cell? ⟨g,0,none⟩=some v0∧w.cell? ⟨g,1,none⟩=some v1∧w.cell? ⟨g,2,none⟩=some v2∧w.cell? ⟨g,3,none⟩=some v3∧w.cell? ⟨g,4,none⟩=some v4 :=
 ⟨h.cell 0,h.cell 1,h.cell 2,h.cell 3,h.cell 4⟩
theorem ce13{w:World}{g:Nat}{t:TypeId}{v0 v1 v2 v3 v4 v5 v6 v7 v8 v9 v10 v11 v12:Value}{r:List Value}(h:Blk w g t (v0::v1::v2::v3::v4::v5::v6::v7::v8::v9::v10::v11::v12::r).toArray):w.cell? ⟨g,0,none⟩=some v0∧w.cell? ⟨g,1,none⟩=some v1∧w.cell? ⟨g,2,none⟩=some v2∧w.cell? ⟨g,3,none⟩=some v3∧w.cell? ⟨g,4,none⟩=some v4∧w.cell? ⟨g,5,none⟩=some v5∧w.cell? ⟨g,6,none⟩=some v6∧w.cell? ⟨g,7,none⟩=some v7∧w.cell? ⟨g,8,none⟩=some v8∧w.cell? ⟨g,9,none⟩=some v9∧w.cell? ⟨g,10,none⟩=some v10∧w.cell? ⟨g,11,none⟩=some v11∧w.cell? ⟨g,12,none⟩=some v12 :=
 ⟨h.cell 0,h.cell 1,h.cell 2,h.cell 3,h.cell 4,h.cell 5,h.cell 6,h.cell 7,h.cell 8,h.cell 9,h.cell 10,h.cell 11,h.cell 12⟩
theorem ce15{w:World}{g:Nat}{t:TypeId}{v0 v1 v2 v3 v4 v5 v6 v7 v8 v9 v10 v11 v12 v13 v14:Value}{r:List Value}(h:Blk w g t (v0::v1::v2::v3::v4::v5::v6::v7::v8::v9::v10::v11::v12::v13::v14::r).toArray):w.cell? ⟨g,0,none⟩=some v0∧w.cell? ⟨g,1,none⟩=some v1∧w.cell? ⟨g,2,none⟩=some v2∧w.cell? ⟨g,3,none⟩=some v3∧w.cell? ⟨g,4,none⟩=some v4∧w.cell? ⟨g,5,none⟩=some v5∧w.cell? ⟨g,6,none⟩=some v6∧w.cell? ⟨g,7,none⟩=some v7∧w.cell? ⟨g,8,none⟩=some v8∧w.cell? ⟨g,9,none⟩=some v9∧w.cell? ⟨g,10,none⟩=some v10∧w.cell? ⟨g,11,none⟩=some v11∧w.cell? ⟨g,12,none⟩=some v12∧w.cell? ⟨g,13,none⟩=some v13∧w.cell? ⟨g,14,none⟩=some v14 :=
 ⟨h.cell 0,h.cell 1,h.cell 2,h.cell 3,h.cell 4,h.cell 5,h.cell 6,h.cell 7,h.cell 8,h.cell 9,h.cell 10,h.cell 11,h.cell 12,h.cell 13,h.cell 14⟩
theorem uJ:type_of% @List.takeWhile_append_dropWhile:=@List.takeWhile_append_dropWhile
theorem vV:type_of% @List.eraseIdx_eq_take_drop_succ:=@List.eraseIdx_eq_take_drop_succ
theorem vW:type_of% @List.eq_nil_iff_forall_not_mem:=@List.eq_nil_iff_forall_not_mem
theorem vD:type_of% @List.eq_nil_of_length_eq_zero:=@List.eq_nil_of_length_eq_zero
theorem rX:type_of% @List.setIfInBounds_toArray:=@List.setIfInBounds_toArray
theorem uP:type_of% @List.length_eraseIdx_of_lt:=@List.length_eraseIdx_of_lt
theorem uS:type_of% @List.getElem?_append_right:=@List.getElem?_append_right
theorem vM:type_of% @List.getD_eq_getElem?_getD:=@List.getD_eq_getElem?_getD
theorem vO:type_of% @Array.getElem?_eq_some_iff:=@Array.getElem?_eq_some_iff
theorem sE:type_of% @List.getElem?_eq_some_iff:=@List.getElem?_eq_some_iff
theorem uD:type_of% @List.getElem?_append_left:=@List.getElem?_append_left
theorem uE:type_of% @List.drop_eq_getElem_cons:=@List.drop_eq_getElem_cons
theorem vE:type_of% @List.mem_of_find?_eq_some:=@List.mem_of_find?_eq_some
theorem wG:type_of% @List.findIdx?_eq_none_iff:=@List.findIdx?_eq_none_iff
theorem sC:type_of% @List.getElem?_eq_getElem:=@List.getElem?_eq_getElem
theorem uK:type_of% @List.length_eq_zero_iff:=@List.length_eq_zero_iff
theorem vK:type_of% @List.filter_cons_of_pos:=@List.filter_cons_of_pos
theorem vZ:type_of% @List.getElem?_cons_succ:=@List.getElem?_cons_succ
theorem wA:type_of% @List.filter_cons_of_neg:=@List.filter_cons_of_neg
theorem sL:type_of% @List.take_of_length_le:=@List.take_of_length_le
theorem uR:type_of% @List.drop_of_length_le:=@List.drop_of_length_le
theorem wN:type_of% @World.frozen?_setCells:=@World.frozen?_setCells
theorem wO:type_of% @List.getElem_cons_drop:=@List.getElem_cons_drop
theorem tX:type_of% @List.mem_append_right:=@List.mem_append_right
theorem uL:type_of% @List.take_append_drop:=@List.take_append_drop
theorem vA:type_of% @List.getElem?_eq_none:=@List.getElem?_eq_none
theorem wD:type_of% @List.length_filter_le:=@List.length_filter_le
theorem wE:type_of% @List.eq_nil_or_concat:=@List.eq_nil_or_concat
theorem wF:type_of% @List.concat_eq_append:=@List.concat_eq_append
theorem wS:type_of% @List.length_singleton:=@List.length_singleton
theorem wT:type_of% @List.eraseIdx_sublist:=@List.eraseIdx_sublist
theorem sJ:type_of% @List.mem_of_getElem?:=@List.mem_of_getElem?
theorem sK:type_of% @World.cell?_of_block:=@World.cell?_of_block
theorem tI:type_of% @List.mem_append_left:=@List.mem_append_left
theorem tP:type_of% @World.cell?_alloc_lt:=@World.cell?_alloc_lt
theorem uO:type_of% @List.mem_cons_of_mem:=@List.mem_cons_of_mem
theorem uY:type_of% @List.mem_of_mem_take:=@List.mem_of_mem_take
theorem wU:type_of% @List.getElem?_of_mem:=@List.getElem?_of_mem
theorem tE:type_of% @List.take_succ_cons:=@List.take_succ_cons
theorem tG:type_of% @List.drop_succ_cons:=@List.drop_succ_cons
theorem uC:type_of% @List.flatMap_append:=@List.flatMap_append
theorem vB:type_of% @Array.length_toList:=@Array.length_toList
theorem vI:type_of% @Int.toNat_of_nonneg:=@Int.toNat_of_nonneg
theorem vP:type_of% @List.reverse_append:=@List.reverse_append
theorem vQ:type_of% @List.mem_map_of_mem:=@List.mem_map_of_mem
theorem wB:type_of% @List.getElem_of_mem:=@List.getElem_of_mem
theorem wK:type_of% @ByteArray.toList_eq:=@ByteArray.toList_eq
theorem rY:type_of% @List.set_cons_succ:=@List.set_cons_succ
theorem rZ:type_of% @List.set_cons_zero:=@List.set_cons_zero
theorem sD:type_of% @Nat.lt_of_lt_of_le:=@Nat.lt_of_lt_of_le
theorem sF:type_of% @List.length_append:=@List.length_append
theorem sP:type_of% @List.mem_singleton:=@List.mem_singleton
theorem sU:type_of% @Below.heap_setCell:=@Below.heap_setCell
theorem tM:type_of% @List.mem_cons_self:=@List.mem_cons_self
theorem uH:type_of% @Option.toList_some:=@Option.toList_some
theorem uT:type_of% @Bool.false_eq_true:=@Bool.false_eq_true
theorem uZ:type_of% @List.pairwise_cons:=@List.pairwise_cons
theorem vH:type_of% @Nat.eq_zero_or_pos:=@Nat.eq_zero_or_pos
theorem wC:type_of% @List.getElem?_drop:=@List.getElem?_drop
theorem wP:type_of% @List.find?_eq_none:=@List.find?_eq_none
theorem wQ:type_of% @List.filter_append:=@List.filter_append
theorem wR:type_of% @List.append_of_mem:=@List.append_of_mem
theorem sQ:type_of% @List.take_add_one:=@List.take_add_one
theorem sX:type_of% @List.append_assoc:=@List.append_assoc
theorem tL:type_of% @decide_eq_true_eq:=@decide_eq_true_eq
theorem tQ:type_of% @List.flatMap_cons:=@List.flatMap_cons
theorem tS:type_of% @Value.slice.injEq:=@Value.slice.injEq
theorem tV:type_of% @World.drewN_drewN:=@World.drewN_drewN
theorem tW:type_of% @Option.some.injEq:=@Option.some.injEq
theorem uM:type_of% @List.nodup_append:=@List.nodup_append
theorem uQ:type_of% @List.getElem?_map:=@List.getElem?_map
theorem vY:type_of% @List.pairwise_map:=@List.pairwise_map
theorem wJ:type_of% @List.foldl_append:=@List.foldl_append
theorem sM:type_of% @Below.heap_alloc:=@Below.heap_alloc
theorem sV:type_of% @List.length_cons:=@List.length_cons
theorem tB:type_of% @World.size_alloc:=@World.size_alloc
theorem tD:type_of% @List.length_take:=@List.length_take
theorem tJ:type_of% @Bool.and_eq_true:=@Bool.and_eq_true
theorem tR:type_of% @List.all_eq_true:=@List.all_eq_true
theorem uB:type_of% @List.not_mem_nil:=@List.not_mem_nil
theorem uG:type_of% @List.length_drop:=@List.length_drop
theorem uN:type_of% @List.mem_reverse:=@List.mem_reverse
theorem vG:type_of% @List.mem_flatMap:=@List.mem_flatMap
theorem vX:type_of% @List.cons_append:=@List.cons_append
theorem wL:type_of% @List.perm_middle:=@List.perm_middle
theorem wM:type_of% @List.any_eq_true:=@List.any_eq_true
theorem sG:type_of% @List.mem_append:=@List.mem_append
theorem sI:type_of% @decide_eq_false:=@decide_eq_false
theorem tF:type_of% @List.length_map:=@List.length_map
theorem tK:type_of% @Option.some.inj:=@Option.some.inj
theorem tN:type_of% @List.map_append:=@List.map_append
theorem uI:type_of% @List.nodup_cons:=@List.nodup_cons
theorem uW:type_of% @List.append_nil:=@List.append_nil
theorem vC:type_of% @Option.map_some:=@Option.map_some
theorem vJ:type_of% @List.foldl_cons:=@List.foldl_cons
theorem vR:type_of% @List.nil_append:=@List.nil_append
theorem vT:type_of% @List.mem_filter:=@List.mem_filter
theorem vU:type_of% @List.length_nil:=@List.length_nil
theorem wH:type_of% @List.cons.injEq:=@List.cons.injEq
theorem wV:type_of% @Option.some_get:=@Option.some_get
theorem wW:type_of% @List.find?_some:=@List.find?_some
theorem wX:type_of% @Bool.or_eq_true:=@Bool.or_eq_true
theorem sH:type_of% @decide_eq_true:=@decide_eq_true
theorem tH:type_of% @IntWalk.i64_in:=@IntWalk.i64_in
theorem tO:type_of% @List.take_zero:=@List.take_zero
theorem tT:type_of% @List.drop_zero:=@List.drop_zero
theorem vF:type_of% @List.Perm.refl:=@List.Perm.refl
theorem vN:type_of% @Bool.false_and:=@Bool.false_and
theorem wZ:type_of% @List.drop_drop:=@List.drop_drop
theorem sO:type_of% @List.mem_cons:=@List.mem_cons
theorem sR:type_of% @AllReady.cons:=@AllReady.cons
theorem sZ:type_of% @AllReadyH.nil:=@AllReadyH.nil
theorem tU:type_of% @List.map_cons:=@List.map_cons
theorem tY:type_of% @Nat.add_assoc:=@Nat.add_assoc
theorem uV:type_of% @Prod.mk.injEq:=@Prod.mk.injEq
theorem vL:type_of% @Bool.true_and:=@Bool.true_and
theorem sW:type_of% @List.mem_map:=@List.mem_map
theorem sY:type_of% @Nat.le_trans:=@Nat.le_trans
theorem tC:type_of% @AllReady.nil:=@AllReady.nil
theorem uX:type_of% @Nat.zero_add:=@Nat.zero_add
theorem wI:type_of% @Nat.lt_or_ge:=@Nat.lt_or_ge
theorem wY:type_of% @List.map_nil:=@List.map_nil
theorem sB:type_of% @Nat.le_refl:=@Nat.le_refl
theorem tZ:type_of% @Below.alloc:=@Below.alloc
theorem uA:type_of% @Below.trans:=@Below.trans
theorem uU:type_of% @Nat.zero_le:=@Nat.zero_le
theorem sA:type_of% @Below.refl:=@Below.refl
theorem uF:type_of% @Below.drew:=@Below.drew
theorem sT:type_of% @if_neg:=@if_neg
theorem tA:type_of% @if_pos:=@if_pos
theorem _root_.Go.RowKit.Hid.o{p:Prop}(h:RowKit.Hid p):p:=h
theorem Hi{p:Prop}(h:p):Hid p:=h
theorem zA{α:Type}(l:List α)(i:Nat)(a:α):l.toArray.setIfInBounds i a=(l.set i a).toArray:=List.setIfInBounds_toArray ..
theorem zB{α:Type}(x:α)(l:List α)(a:α):(x::l).set 0 a=a::l:=List.set_cons_zero ..
theorem zC{α:Type}(x:α)(l:List α)(n:Nat)(a:α):(x::l).set (n+1) a=x::l.set n a:=List.set_cons_succ ..
theorem cZ{w:World}{g:Nat}{t:TypeId}{cs:List Value}(h:Blk w g t cs.toArray)(i:Nat){v:Value}(hv:cs[i]?=some v):w.cell? ⟨g,i,none⟩=some v:=(h.cell i).trans (by simpa using hv)
theorem aD{w:World}{base:Nat}{e:TypeId}{size n:Nat}{v:Value}{xs:List Value}(h:w.ownsRow base e size v n xs){g:Nat}(hg:v.ownBlock=some g):base≤g∧g<w.heap.size:=by
 rcases h.2 with⟨rfl,_⟩|⟨g',cap,cur,rfl,hb,hh,_⟩
 ·simp[Value.ownBlock]at hg
 ·have:g'=g:=by simpa[Value.ownBlock] using hg
  subst this;exact⟨hb,by
   rcases wI g' w.heap.size with h'|h'
   ·exact h'
   ·simp[Array.getElem?_eq_none h']at hh⟩
theorem aT{w w':World}{base:Nat}{e:TypeId}{size n:Nat}{v:Value}{xs:List Value}(h:w.ownsRow base e size v n xs)(hk:∀g,v.ownBlock=some g→w'.heap[g]?=w.heap[g]?):w'.ownsRow base e size v n xs:=by
 obtain⟨h1,h2⟩:=h
 refine⟨h1,?_⟩
 rcases h2 with h2|⟨g,cap,cur,hv,hg,hh,r⟩
 ·exact Or.inl h2
 ·exact Or.inr ⟨g,cap,cur,hv,hg,by rw[hk g (by rw[hv];rfl)];exact hh,r⟩
theorem bG{w:World}{base base':Nat}{e:TypeId}{size n:Nat}{v:Value}{xs:List Value}(h:w.ownsRow base e size v n xs)(hb:∀g,v.ownBlock=some g→base'≤g):w.ownsRow base' e size v n xs:=by
 obtain⟨h1,h2⟩:=h
 refine⟨h1,?_⟩
 rcases h2 with h2|⟨g,cap,cur,hv,hg,hh,r⟩
 ·exact Or.inl h2
 ·exact Or.inr ⟨g,cap,cur,hv,hb g (by rw[hv];rfl),hh,r⟩
/-! append onto a slice of the call's own, the source nil, empty or not -/
section
variable{P:Program}(w:World)
theorem mW(base:Nat)(t ty e:TypeId)(i:TypeInfo)(size:Nat)(ht:P.underlying t=some (.slice e))(hi:P.info? e=some i)
 (v:Value) (n:Nat) (xs:List Value) (hown:w.ownsRow base e size v n xs) (c:Nat):(Builtin.append_ #[t,t] ty #[v,.slice none 0 c]).run P w=.ok v w:=by
 rcases hown.2 with⟨rfl,rfl⟩|⟨g,cap,cur,rfl,_,_,hnc,_⟩
 ·simp[Builtin.append_,run_underlying ht,sizeOf,typeInfo,hi,Builtin.lenOf,Builtin.firstCells]
 ·simp[Builtin.append_,run_underlying ht,sizeOf,typeInfo,hi,Builtin.lenOf,Builtin.firstCells,hnc,storeCells]
theorem kJ(base:Nat)(t ty e:TypeId)(i:TypeInfo)(z:Value)(size bytes:Nat)(ht:P.underlying t=some (.slice e))(hi:P.info? e=some i)(hz:i.zero=some z)
 (hsize:i.size=size) (hby:i.bytes=bytes) (hzs:z.cells.size=size) (hsz:0<size)
 (v:Value) (n:Nat) (xs:List Value) (hown:w.ownsRow base e size v n xs)
 (D:Nat→Prop) (A:Option Addr) (m c:Nat) (news:List Value) (hr:aC D w size A m news) (h1:∀u∈news,u.oneCell'=true)
 (h63:n+m≤maxLen) (hbytes:(n+m)*bytes≤140737488355328) (hbase:base≤w.heap.size) :
 ∃v' w',(Builtin.append_ #[t,t] ty #[v,.slice A m c]).run P w=.ok v' w'∧w'.ownsRow base e size v' (n+m) (xs++news)∧w.grownBy w' v.ownBlock ∧
  (v'.ownBlock=v.ownBlock∨v'.ownBlock=some w.heap.size):=by
 rcases A with _|ad
 ·have hm:m=0:=by
   rcases vH m with h0|h0
   ·exact h0
   ·obtain⟨ad,h,_⟩:=hr.2 h0
    cases h
  subst hm;have hn:news=[]:=vD (by simpa using hr.1);subst hn;exact⟨v,w,mW w base t ty e i size ht hi v n xs hown c,by simpa using hown,World.grownBy.refl w _,.inl rfl⟩
 ·have hcells:∀j u,news[j]?=some u→w.cell? (ad.add j)=some u:=by
   intro j u hu;rcases vH m with h0|h0
   ·subst h0;have hn:news=[]:=vD (by simpa using hr.1);subst hn;simp at hu
   ·obtain⟨ad',h,_,hc⟩:=hr.2 h0
    injection h with h
    subst h;exact hc j u hu
  obtain⟨v',w',hrun,h2,h3,_,h5⟩:=run_append_own_at (P:=P) w base t ty e i z size bytes ht hi hz hsize hby hzs hsz v n xs hown ad m c news hr.1 hcells h1 h63 hbytes hbase
  exact⟨v',w',hrun,h2,h3,h5⟩
theorem lO{o:Oper}{a:Act}{K:Act→World→Prop}{Q:Exit→Act→World→Prop}(s x:Operand)(t:TypeId)
 (ho:o.op=.call { callee:=.builtin .append,args:=#[s,x],argTypes:=#[t,t] })
 (base:Nat) (e:TypeId) (i:TypeInfo) (z:Value) (size bytes:Nat) (ht:P.underlying t=some (.slice e)) (hi:P.info? e=some i) (hz:i.zero=some z)
 (hsize:i.size=size) (hby:i.bytes=bytes) (hzs:z.cells.size=size) (hsz:0<size)
 (v:Value) (n:Nat) (xs:List Value) (hs:a.eval s=v) (hown:w.ownsRow base e size v n xs)
 (D:Nat→Prop) (A:Option Addr) (m c:Nat) (news:List Value) (hx:a.eval x=.slice A m c) (hr:aC D w size A m news) (h1:∀u∈news,u.oneCell'=true)
 (h63:n+m≤maxLen) (hbytes:(n+m)*bytes≤140737488355328) (hbase:base≤w.heap.size)
 (h:∀v' w',w'.ownsRow base e size v' (n+m) (xs++news)→w.grownBy w' v.ownBlock→(v'.ownBlock=v.ownBlock∨v'.ownBlock=some w.heap.size)→K (a.put o.dst v') w'):o.wp P a w K Q:=by
 obtain⟨v',w',hrun,h2,h3,h4⟩:=kJ (P:=P) w base t o.type e i z size bytes ht hi hz hsize hby hzs hsz v n xs hown D A m c news hr h1 h63 hbytes hbase
 unfold Oper.wp execOp;simp only[ho,resolve,invoke,builtin,Sem.run_bind,Sem.run_pure,Result.andThen_ok,List.map_toArray,tU,wY,hs,hx,hrun];exact h v' w' h2 h3 h4
theorem aG{ops:Array Oper}{rest:List Oper}{o:Oper}{a:Act}{Q:Exit→Act→World→Prop}(hgd:o.guard=none)(s x:Operand)(t:TypeId)
 (ho:o.op=.call { callee:=.builtin .append,args:=#[s,x],argTypes:=#[t,t] })
 (base:Nat) (e:TypeId) (i:TypeInfo) (z:Value) (size bytes:Nat) (ht:P.underlying t=some (.slice e)) (hi:P.info? e=some i) (hz:i.zero=some z)
 (hsize:i.size=size) (hby:i.bytes=bytes) (hzs:z.cells.size=size) (hsz:0<size)
 (v:Value) (n:Nat) (xs:List Value) (hs:a.eval s=v) (hown:w.ownsRow base e size v n xs)
 (D:Nat→Prop) (A:Option Addr) (m c:Nat) (news:List Value) (hx:a.eval x=.slice A m c) (hr:aC D w size A m news) (h1:∀u∈news,u.oneCell'=true)
 (h63:n+m≤maxLen) (hbytes:(n+m)*bytes≤140737488355328) (hbase:base≤w.heap.size)
 (h:∀v' w',w'.ownsRow base e size v' (n+m) (xs++news)→w.grownBy w' v.ownBlock→(v'.ownBlock=v.ownBlock∨v'.ownBlock=some w.heap.size)→wpList P ops Q rest (a.put o.dst v') w'):wpList P ops Q (o::rest) a w :=
 wpList_plain hgd fun _ hK=>lO w s x t ho base e i z size bytes ht hi hz hsize hby hzs hsz v n xs hs hown D A m c news hx hr h1 h63 hbytes hbase fun v' w' h2 h3 h4=>hK _ _ (h v' w' h2 h3 h4)
theorem bA{ops:Array Oper}{o:Oper}{a:Act}{K:Act→World→Prop}{Q:Exit→Act→World→Prop}{E:Prop}(hgd:o.guard=none)(s x:Operand)(t:TypeId)
 (ho:o.op=.call { callee:=.builtin .append,args:=#[s,x],argTypes:=#[t,t] })
 (base:Nat) (e:TypeId) (i:TypeInfo) (z:Value) (size bytes:Nat) (ht:P.underlying t=some (.slice e)) (hi:P.info? e=some i) (hz:i.zero=some z)
 (hsize:i.size=size) (hby:i.bytes=bytes) (hzs:z.cells.size=size) (hsz:0<size)
 (v:Value) (n:Nat) (xs:List Value) (hs:a.eval s=v) (hown:w.ownsRow base e size v n xs)
 (D:Nat→Prop) (A:Option Addr) (m c:Nat) (news:List Value) (hx:a.eval x=.slice A m c) (hr:aC D w size A m news) (h1:∀u∈news,u.oneCell'=true)
 (h63:n+m≤maxLen) (hbytes:(n+m)*bytes≤140737488355328) (hbase:base≤w.heap.size)
 (h:∀v' w',w'.ownsRow base e size v' (n+m) (xs++news)→w.grownBy w' v.ownBlock→(v'.ownBlock=v.ownBlock∨v'.ownBlock=some w.heap.size)→K (a.put o.dst v') w') :
 if Region.wanted o (yielded ops a.tmps)=true then Oper.wp P o a w K Q else E:=by
 have hw:Region.wanted o (yielded ops a.tmps)=true:=by simp[Region.wanted,hgd]
 rw[tA hw];exact lO w s x t ho base e i z size bytes ht hi hz hsize hby hzs hsz v n xs hs hown D A m c news hx hr h1 h63 hbytes hbase h
end
theorem aX{P:Program}{w:World}(t e:TypeId)(z:Value)(size bytes:Nat)(ht:P.underlying t=some (.slice e))(info:(P.info? e).map (fun i=>(i.zero,i.size,i.bytes))=some (some z,size,bytes))
 (hzs:z.cells.size=size) (hsz:0<size) {ops:Array Oper} {rest:List Oper} {o:Oper} {a:Act} {Q:Exit→Act→World→Prop} (hgd:o.guard=none) (s x:Operand)
 (ho:o.op=.call { callee:=.builtin .append,args:=#[s,x],argTypes:=#[t,t] })
 (base:Nat) (v:Value) (n:Nat) (xs:List Value) (hs:a.eval s=v) (hown:w.ownsRow base e size v n xs)
 (g c:Nat) (news:List Value) (hx:a.eval x=.slice (some ⟨g,0,none⟩) 1 c) (hl:news.length=size) (hnews:∀j u,news[j]?=some u→w.cell? ⟨g,j,none⟩=some u) (h1:∀u∈news,u.oneCell'=true)
 (hn:(n+1)*bytes≤140737488355328) (hn2:n+1≤4611686018427387904) (hbase:base≤w.heap.size)
 (h:∀v' w',w'.ownsRow base e size v' (n+1) (xs++news)→w.grownBy w' v.ownBlock→(v'.ownBlock=v.ownBlock∨v'.ownBlock=some w.heap.size)→wpList P ops Q rest (a.put o.dst v') w'):wpList P ops Q (o::rest) a w:=by
 obtain⟨i0,hi,hz0,hz1,hz2⟩:=info_parts info
 refine aG w hgd s x t ho base e i0 z size bytes ht hi hz0 hz1 hz2 hzs hsz v n xs hs hown (fun k=>k=g) (some ⟨g,0,none⟩) 1 c news hx ⟨by omega,fun _=>⟨_,rfl,rfl,fun j u hu=>?_⟩⟩ h1 (by simp only[maxLen];omega) hn hbase h;have e:(⟨g,0,none⟩:Addr).add j=⟨g,j,none⟩:=by
  unfold Addr.add;split
  ·rename_i h0;rw[h0]
  ·simp
 rw[e];exact hnews j u hu
theorem bB(w:World)(base:Nat)(e:TypeId)(size:Nat):w.ownsRow base e size (.slice none 0 0) 0 []:=⟨by simp,.inl ⟨rfl,rfl⟩⟩
structure Evo(w:World)(o:Option Nat)(w':World)(o':Option Nat):Prop where
 os:w'.os=w.os
 tape:w'.tape=w.tape
 output:w'.output=w.output
 size:w.heap.size≤w'.heap.size
 block:∀k,k<w.heap.size→o≠some k→w'.heap[k]?=w.heap[k]?
 lies:o'=o∨∃g,o'=some g∧w.heap.size≤g
theorem Evo.refl(w:World)(o:Option Nat):Evo w o w o:=⟨rfl,rfl,rfl,sB _,fun _ _ _=>rfl,.inl rfl⟩
theorem Evo.trans{a b c:World}{o o' o'':Option Nat}(h:Evo a o b o')(k:Evo b o' c o''):Evo a o c o'':=by
 refine⟨k.os.trans h.os,k.tape.trans h.tape,k.output.trans h.output,sY h.size k.size,fun i hi hn=>?_,?_⟩
 ·refine(k.block i (sD hi h.size) ?_).trans (h.block i hi hn)
  rcases h.lies with e|⟨g,e,hg⟩
  ·rw[e];exact hn
  ·rw[e];intro e2;injection e2 with e2;omega
 ·rcases k.lies with e|⟨g,e,hg⟩
  ·rw[e];exact h.lies
  ·exact .inr ⟨g,e,sY h.size hg⟩
theorem Evo.of_below{w w':World}{o:Option Nat}(h:Below w.heap.size w w'):Evo w o w' o:=⟨h.os,h.tape,h.output,h.size,fun k hk _=>h.block k hk,.inl rfl⟩
theorem Evo.of_append{w w':World}{o o':Option Nat}(h:w.grownBy w' o)(ho:o'=o∨o'=some w.heap.size):Evo w o w' o' :=
 ⟨h.os,h.tape,h.output,h.size,fun k hk hn=>h.block k hk (fun e=>hn e.symm),ho.imp id fun e=>⟨_,e,sB _⟩⟩
theorem Evo.below{w w':World}{o o':Option Nat}(h:Evo w o w' o'){B:Nat}(hB:B≤w.heap.size)(ho:∀g,o=some g→B≤g):Below B w w' :=
 ⟨h.os,h.tape,h.output,h.size,fun k hk=>h.block k (by omega) (fun e=>by have:=ho k e;omega)⟩
theorem Evo.cell{w w':World}{o o':Option Nat}(h:Evo w o w' o'){p:Addr}(h1:p.block<w.heap.size)(h2:o≠some p.block):w'.cell? p=w.cell? p:=sK (w:=w) (h.block p.block h1 h2)
theorem aO{w w':World}{base:Nat}{e:TypeId}{size n:Nat}{v:Value}{xs:List Value}(h:w.ownsRow base e size v n xs)(hb:Below w.heap.size w w'):w'.ownsRow base e size v n xs :=
 aT h fun g hg=>hb.block g (aD h hg).2
theorem dN(w:World)(t:TypeId)(cs:List Value){j:Nat}{u:Value}(h:cs[j]?=some u):(w.alloc (.cells cs.toArray t)).cell? ⟨w.heap.size,j,none⟩=some u:=by
 rw[(Blk.new w t cs.toArray).cell j];rw[List.getElem?_toArray];exact h
theorem Blk.grown{w w':World}{g:Nat}{t:TypeId}{cs:Array Value}{row:Option Nat}(h:Blk w g t cs)(hb:w.grownBy w' row)(hg:row≠some g):Blk w' g t cs:=(hb.block g h.lt (fun e=>hg e.symm)).trans h
theorem aH{B:Nat}{a w:World}(h:Below B a w)(n:Nat):Below B a (w.drewN n):=⟨h.os,h.tape,h.output,h.size,h.block⟩
end
section
def bP(l:List UInt8):List Value:=l.map fun c=>.int .u8 (c.toNat:Int)
def iS(l:List Int):List Value:=l.map fun n=>.int .i64 n
theorem fI(l r:List UInt8):bP (l++r)=bP l++bP r:=by simp[bP]
theorem bytesC_length(l:List UInt8):(bP l).length=l.length:=by simp[bP]
theorem intsC_length(l:List Int):(iS l).length=l.length:=by simp[iS]
theorem iI(l:List UInt8):∀u∈bP l,u.oneCell'=true:=by
 intro u hu;simp only[bP,sW]at hu;obtain⟨c,_,rfl⟩:=hu;rfl
def lL:Nat→Nat→List UInt8
 |0,n=>[UInt8.ofNat n]
 |f+1,n=>if n<128 then [UInt8.ofNat n] else UInt8.ofNat (n % 128+128)::lL f (n / 128)
def fO(n:Nat):List UInt8:=lL 9 n
theorem mI{f n:Nat}(h:n<128):lL f n=[UInt8.ofNat n]:=by cases f<;>simp[lL,h]
theorem rF{f n:Nat}(h:¬n<128):lL (f+1) n=UInt8.ofNat (n % 128+128)::lL f (n / 128):=by simp[lL,h]
theorem pM:∀(f n:Nat),1≤(lL f n).length∧(lL f n).length≤f+1
 |0,n=>by simp[lL]
 |f+1,n=>by
  simp only[lL];split
  ·simp
  ·have:=pM f (n / 128)
   simp;omega
theorem gQ(n:Nat):1≤(fO n).length∧(fO n).length≤10:=pM 9 n
def mO:Nat→Nat→List UInt8→Option (Nat×Nat)
 |_,_,[]=>none
 |i,acc,c::r =>
  if i=9∧1<c.toNat∨9<i then none
  else if c.toNat<128 then (if c.toNat=0∧0<i then none else some (acc+c.toNat % 128*2 ^ (7*i),i+1))
  else mO (i+1) (acc+c.toNat % 128*2 ^ (7*i)) r
def getN(l:List UInt8):Option (Nat×Nat):=mO 0 0 l
theorem getG_at:∀(l:List UInt8) (i acc n k:Nat),mO i acc l=some (n,k)→i<k∧k≤i+l.length
 | [],i,acc,n,k,h=>by simp[mO]at h
 |c::r,i,acc,n,k,h=>by
  simp only[mO]at h;split at h
  ·cases h
  ·split at h
   ·split at h
    ·cases h
    ·simp only[tW,uV]at h;simp;omega
   ·have:=getG_at r _ _ _ _ h
    simp;omega
theorem getN_at{l:List UInt8}{n k:Nat}(h:getN l=some (n,k)):1≤k∧k≤l.length:=by
 have:=getG_at l 0 0 n k h;omega
theorem getG_lt:∀(l:List UInt8) (i acc n k:Nat),acc<2 ^ (7*i)→mO i acc l=some (n,k)→n<2 ^ 64
 | [],i,acc,n,k,_,h=>by simp[mO]at h
 |c::r,i,acc,n,k,ha,h=>by
  simp only[mO]at h;have hp:2 ^ (7*(i+1))=128*2 ^ (7*i):=by rw[Nat.mul_add,Nat.pow_add];omega
  have hm:c.toNat % 128*2 ^ (7*i)≤127*2 ^ (7*i):=Nat.mul_le_mul_right _ (by omega);split at h
  ·cases h
  ·rename_i hg;split at h
   ·rename_i h128;split at h
    ·cases h
    ·simp only[tW,uV]at h;by_cases h9:i=9
     ·subst h9;have hc:c.toNat % 128≤1:=by omega
      have:c.toNat % 128*2 ^ (7*9)≤1*2 ^ (7*9):=Nat.mul_le_mul_right _ hc
      omega
     ·have hi:7*(i+1)≤63:=by omega
      have:2 ^ (7*(i+1))≤2 ^ 63:=Nat.pow_le_pow_right (by omega) hi
      omega
   ·exact getG_lt r _ _ _ _ (by omega) h
theorem getN_lt{l:List UInt8}{n k:Nat}(h:getN l=some (n,k)):n<2 ^ 64:=getG_lt l 0 0 n k (by simp) h
theorem fS{n:Nat}(h:n<256):(UInt8.ofNat n).toNat=n:=by simp;omega
theorem getG_putF:∀(f n i acc:Nat) (more:List UInt8),f+i=9→n<2 ^ (64-7*i)→(0<i→0<n)→mO i acc (lL f n++more)=some (acc+n*2 ^ (7*i),i+(lL f n).length)
 |0,n,i,acc,more,hfi,hn,hz=>by
  have h9:i=9:=by omega
  subst h9;simp only[lL,vX,vR,mO];have hn2:n<2:=by simpa using hn
  rw[fS (by omega)];rw[sT (by omega),tA (by omega),sT (by omega),Nat.mod_eq_of_lt (by omega)];rfl
 |f+1,n,i,acc,more,hfi,hn,hz=>by
  by_cases h:n<128
  ·rw[mI h];simp only[vX,vR,mO];rw[fS (by omega),sT (by omega),tA h,sT (by omega),Nat.mod_eq_of_lt h];rfl
  ·rw[rF h];simp only[vX,mO];rw[fS (by omega),sT (by omega),sT (by omega)];have hp:2 ^ (7*(i+1))=128*2 ^ (7*i):=by rw[Nat.mul_add,Nat.pow_add];omega
   have hq:2 ^ (64-7*i)=128*2 ^ (64-7*(i+1)):=by
    rw[show 64-7*i=(64-7*(i+1))+7 by omega,Nat.pow_add];omega
   rw[getG_putF f (n / 128) (i+1) _ more (by omega) (by omega) (by omega)];have e1:(n % 128+128) % 128=n % 128:=by omega
   have e2:n % 128*2 ^ (7*i)+n / 128*2 ^ (7*(i+1))=n*2 ^ (7*i):=by
    rw[hp,←Nat.mul_assoc,←Nat.add_mul];congr 1;omega
   rw[e1,tY,e2];simp;omega
theorem getN_putN(n:Nat)(more:List UInt8)(h:n<2 ^ 64):getN (fO n++more)=some (n,(fO n).length):=by
 have:=getG_putF 9 n 0 0 more rfl (by simpa using h) (by omega)
 simpa[getN,fO] using this
theorem putF_getG:∀(l:List UInt8) (f i acc n k:Nat),f+i=9→mO i acc l=some (n,k)→∃m,n=acc+m*2 ^ (7*i)∧(0<i→0<m)∧l.take (k-i)=lL f m
 | [],f,i,acc,n,k,_,h=>by simp[mO]at h
 |c::r,f,i,acc,n,k,hfi,h=>by
  have hc256:c.toNat<256:=c.toNat_lt;simp only[mO]at h;split at h
  ·cases h
  ·rename_i hg;split at h
   ·rename_i h128;split at h
    ·cases h
    ·rename_i hz;simp only[tW,uV]at h;refine⟨c.toNat,by rw[←h.1];congr 1;rw[Nat.mod_eq_of_lt h128],by omega,?_⟩
     rw[mI h128,show k-i=1 by omega];simp
   ·rename_i h128;obtain _|f:=f
    ·omega
    ·obtain⟨m,hm,hpos,ht⟩:=putF_getG r f (i+1) _ n k (by omega) h
     have hk:=getG_at r _ _ _ _ h;have hm1:=hpos (by omega);refine⟨c.toNat % 128+128*m,?_,by omega,?_⟩
     ·have hp:2 ^ (7*(i+1))=128*2 ^ (7*i):=by rw[Nat.mul_add,Nat.pow_add];omega
      rw[hm,hp,←Nat.mul_assoc,tY,←Nat.add_mul,Nat.mul_comm m 128]
     ·rw[rF (by omega),show k-i=(k-(i+1))+1 by omega,tE,ht];congr 1
      ·rw[←UInt8.toNat_inj,fS (by omega)];omega
      ·congr 1;omega
theorem putN_getN{l:List UInt8}{n k:Nat}(h:getN l=some (n,k)):l.take k=fO n:=by
 obtain⟨m,hm,_,ht⟩:=putF_getG l 9 0 0 n k rfl h
 have:n=m:=by rw[hm];simp
 subst this;simpa[fO] using ht
def zz(n:Int):Nat:=if 0≤n then (2*n).toNat else (-2*n-1).toNat
def unzz(m:Nat):Int:=if m % 2=0 then (m / 2:Nat) else -((m / 2:Nat):Int)-1
theorem unzz_zz(n:Int):unzz (zz n)=n:=by unfold unzz zz;split<;>split<;>omega
theorem zz_unzz(m:Nat):zz (unzz m)=m:=by unfold unzz zz;split<;>split<;>omega
theorem zz_lt{n:Int}(h:-9223372036854775808≤n∧n≤9223372036854775807):zz n<2 ^ 64:=by unfold zz;split<;>omega
theorem unzz_bd{m:Nat}(h:m<2 ^ 64):-9223372036854775808≤unzz m∧unzz m≤9223372036854775807:=by unfold unzz;split<;>omega
def iN(n:Int):List UInt8:=fO (zz n)
def getS(l:List UInt8):Option (Int×Nat):=(getN l).map fun x=>(unzz x.1,x.2)
end
section
theorem mX{k:IntKind}{a b:Int}(h:a=b):Ending.returned (.int k a)=.returned (.int k b):=by rw[h]
theorem aL{a b:Bool}(h:a=b):Ending.returned (.bool a)=.returned (.bool b):=by rw[h]
theorem nM:(Tryz.prog.info? 5).map (fun i=>(i.zero,i.size,i.bytes))=some (some (.int .u8 0),1,1):=by kernel_rfl
theorem reads_new(wr:World)(t:TypeId)(c:UInt8)(x:Int)(hx:x=(c.toNat:Int))(H:Nat)(hH:wr.heap.size=H):aC (fun k=>k=H) (wr.alloc (.cells #[.int .u8 x] t)) 1 (some ⟨H,0,none⟩) 1 (bP [c]):=by
 subst hx;subst hH;refine⟨by simp[bP],fun _=>⟨_,rfl,rfl,fun j u hu=>?_⟩⟩
 match j,hu with
 |0,hu=>simp[bP]at hu;subst hu;simp[Addr.add]
 |j+1,hu=>simp[bP]at hu
theorem jY{α:Type}{l:List α}{k:Nat}(h:k<l.length):∃x,l[k]?=some x:=⟨l[k],sC h⟩
theorem jZ{l:List UInt8}{D:Nat→Prop}{A:Option Addr}{c:Nat}{w:World}(hr:aC D w 1 A l.length (bP l)):
 (convert 147 9 (.slice A l.length c)).run Tryz.prog w=.ok (.string ⟨l.toArray⟩) w:=by
 rcases vH l.length with h0|h0
 ·have:l=[]:=uK.1 h0
  subst this;rw[run_convert_bytes_string w 147 9 5 A _ c Tryz.underlying147 Tryz.underlying5 Tryz.underlying9];cases A with
  |none=>simp[Conv.bytesToString];rfl
  |some a =>
   have:=run_convert_bytes_back (P:=Tryz.prog) w 147 9 5 a c [] Tryz.underlying147 Tryz.underlying5 Tryz.underlying9 (fun j hj=>by simp at hj)
   rw[run_convert_bytes_string w 147 9 5 (some a) _ c Tryz.underlying147 Tryz.underlying5 Tryz.underlying9]at this;exact this
 ·obtain⟨ad,rfl,_,hc⟩:=hr.2 h0
  refine run_convert_bytes_back w 147 9 5 ad c l Tryz.underlying147 Tryz.underlying5 Tryz.underlying9 (fun j hj=>?_);exact hc j _ (by simp[bP,sC hj])
end
section
theorem aQ{P:Program}{ops:Array Oper}{w:World}{Q:Act→Prop}{a:Act}{o:Oper}{rest:List Oper}(hw:Region.wanted o (yielded ops a.tmps)=true)
 (h:∀K:Act→Prop,(∀a,wpStill P ops w Q rest a→K a)→o.still P a w K):wpStill P ops w Q (o::rest) a :=
 wpStill_step fun K hK=>by rw[tA hw];exact h K hK
end
section
abbrev Rf:=Int×Int
def dB(r:Rf):Value:=.agg #[.int .i64 r.1,.int .i64 r.2]
def aF(l:List Rf):List Value:=l.flatMap fun r=>[.int .i64 r.1,.int .i64 r.2]
theorem cG:∀(l:List Rf),(aF l).length=l.length*2
 | []=>rfl
 |r::l=>by have:=cG l;simp only[aF,tQ,sF,sV,vU]at this ⊢;omega
theorem bH(a b:List Rf):aF (a++b)=aF a++aF b:=by simp[aF]
theorem aN:∀ {l:List Rf} {k:Nat} {r:Rf},l[k]?=some r→(aF l)[k*2]?=some (.int .i64 r.1)∧(aF l)[k*2+1]?=some (.int .i64 r.2)
 | [],k,r,h=>by simp at h
 |x::l,0,r,h=>by simp at h;subst h;simp[aF]
 |x::l,k+1,r,h=>by
  have:=aN (l:=l) (k:=k) (by simpa using h)
  have e:aF (x::l)=.int .i64 x.1::.int .i64 x.2::aF l:=by simp[aF]
  rw[e,show(k+1)*2=k*2+1+1 from by omega,vZ,vZ,show k*2+1+1+1=(k*2+1)+1+1 from rfl,vZ,vZ];exact this
def dT(r:Rf):Bool:=decide (1≤r.1∧r.1≤99)&&decide (1≤r.2∧r.2≤1000000)
def cF:Int→List Rf→Nat
 |_,[]=>0
 |p,r::l=>if dT r=false then 1 else if r.1≤p then 5 else cF r.1 l
def jN(k:Nat):Value:=if k=0 then .nilIface else .iface 97 (.int .i64 k)
theorem cactor_any(x:Int)(w:World):Calls Tryz.prog 95 #[.int .i64 x] w fun e w'=>e=.returned (.bool (decide (1≤x∧x≤99)))∧w'=w:=by
 by_cases h1:1≤x
 ·have h1':decide (1≤x)=true:=sH h1;have h2:decide (1≤x∧x≤99)=decide (x≤99):=by simp[h1]
  rw[h2];go_enter Tryz.func95,Tryz.ntmps95;go_wp2_with fail
  go_ret;exact⟨rfl,rfl⟩
 ·have h1':decide (1≤x)=false:=sI h1;have h2:decide (1≤x∧x≤99)=false:=by simp[h1]
  rw[h2];go_enter Tryz.func95,Tryz.ntmps95;go_wp2_with fail
  go_ret;exact⟨rfl,rfl⟩
theorem cnum_any(x:Int)(w:World):Calls Tryz.prog 96 #[.int .i64 x] w fun e w'=>e=.returned (.bool (decide (1≤x∧x≤1000000)))∧w'=w:=by
 by_cases h1:1≤x
 ·have h1':decide (1≤x)=true:=sH h1;have h2:decide (1≤x∧x≤1000000)=decide (x≤1000000):=by simp[h1]
  rw[h2];go_enter Tryz.func96,Tryz.ntmps96;go_wp2_with fail
  go_ret;exact⟨rfl,rfl⟩
 ·have h1':decide (1≤x)=false:=sI h1;have h2:decide (1≤x∧x≤1000000)=false:=by simp[h1]
  rw[h2];go_enter Tryz.func96,Tryz.ntmps96;go_wp2_with fail
  go_ret;exact⟨rfl,rfl⟩
theorem cref_any(r:Rf)(w:World):Calls Tryz.prog 57 #[dB r] w fun e w'=>e=.returned (.bool (dT r))∧Below w.heap.size w w':=by
 obtain⟨a,s⟩:=r
 simp only[dB,dT];have ha:=cactor_any a;have hs:=cnum_any s;generalize decide (1≤a∧a≤99)=x at *;generalize decide (1≤s∧s≤1000000)=y at *;cases x with
 |false =>
  go_enter Tryz.func57,Tryz.ntmps57;go_wp2_with fail
  go_at_call 95;refine(ha _).mono ?_
  rintro e w1 ⟨rfl,rfl⟩;go_wp2_with fail
  go_ret;exact⟨rfl,(sA _ w).alloc (sB _) _⟩
 |true =>
  go_enter Tryz.func57,Tryz.ntmps57;go_wp2_with fail
  go_at_call 95;refine(ha _).mono ?_
  rintro e w1 ⟨rfl,rfl⟩;go_wp2_with fail
  go_at_call 96;refine(hs _).mono ?_
  rintro e w1 ⟨rfl,rfl⟩;go_wp2_with fail
  go_ret;exact⟨rfl,(sA _ w).alloc (sB _) _⟩
theorem refs_any(l:List Rf)(D:Nat→Prop)(A:Option Addr)(c:Nat)(w:World)(hr:aC D w 2 A l.length (aF l))(hD:∀k,D k→k<w.heap.size)(hl:l.length≤9223372036854775807):
 Calls Tryz.prog 81 #[.slice A l.length c] w fun e w'=>e=.returned (jN (cF 0 l))∧Below w.heap.size w w':=by
 have HR:=Hi hr;have HD:=Hi hD;clear hr hD;obtain⟨n,hn⟩:∃n,l.length=n:=⟨_,rfl⟩
 have HN:=Hi hn;rw[hn]at hl ⊢;clear hn;go_enter Tryz.func81,Tryz.ntmps81;go_wp2_with fail
 go_loopw [7] (fun s7 wr=>∃k:Nat,k≤n∧s7=.int .i64 k∧Hid (Below w.heap.size w wr∧∃p:Int,cF 0 l=cF p (l.drop k)∧(k=0→p=0)∧(∀j r,k=j+1→l[j]?=some r→p=r.1)) ) (fun s7 _=>n-(intOf s7).toNat)
 case atStart=>exact⟨0,by omega,rfl,⟨sA _ _,0,by simp,fun _=>rfl,fun j r h=>by omega⟩⟩
 case round =>
  obtain⟨k,hk,rfl,HI⟩:=hrel
  by_cases hlt:k<n
  ·obtain⟨b,off,rfl,hb,hcell⟩:=HR.o.at_ (by rw[HN.o];omega) (by omega)
   obtain⟨r,hr⟩:∃r,l[k]?=some r:=⟨_,sC (by rw[HN.o];exact hlt)⟩
   have hbl:=HD.o b hb;have hblk:∀o,wr.cell? ⟨b,o,none⟩=w.cell? ⟨b,o,none⟩:=fun o=>sK (w:=w) (HI.o.1.block b hbl)
   obtain⟨h1,h2⟩:=aN hr
   have x1:wr.cell? ⟨b,off+k*2,none⟩=some (.int .i64 r.1):=by rw[hblk];exact hcell _ _ h1
   have x2:wr.cell? ⟨b,off+k*2+1,none⟩=some (.int .i64 r.2):=by rw[hblk];exact hcell _ _ h2
   clear hblk hcell h1 h2;have HX:=Hi hr;clear hr;go_wp2_with fail
   go_at_call 57;refine(cref_any r _).mono ?_
   rintro e w2 ⟨rfl,hb2⟩;have hs1:wr.heap.size<w2.heap.size:=by have:=hb2.size;simp at this;omega
   have hc4:w2.cell? ⟨wr.heap.size,0,none⟩=some (.int .i64 r.1):=by
    rw[sK (w:=wr.alloc (.cells #[.int .i64 r.1,.int .i64 r.2] 45)) (hb2.block wr.heap.size (by simp))];exact(Blk.new wr _ _).cell 0
   have HB2:Hid (Below w.heap.size w w2):=(HI.o.1.alloc HI.o.1.size _).trans (hb2.mono (by have:=HI.o.1.size;simp;omega));clear hb2 x1 x2;obtain⟨p,hp1,hp2,hp3⟩:=HI.o.2
   have hdr:l.drop k=r::l.drop (k+1):=by
    have hl:k<l.length:=by rw[HN.o];exact hlt
    have:=HX.o
    rw[sC hl]at this;rw[uE hl,tK this]
   have hre:cF p (r::l.drop (k+1))=if dT r=false then 1 else if r.1≤p then 5 else cF r.1 (l.drop (k+1)):=rfl
   rw[hdr,hre]at hp1;clear hdr hre;cases hir:dT r with
   |false =>
    rw[hir,tA rfl]at hp1;have HP:=Hi hp1;clear hp1 hp2 hp3 hir;go_wp2_with fail
    go_ret;exact⟨by rw[HP.o];rfl,HB2.o⟩
   |true =>
    rw[hir,sT (by simp)]at hp1;have hr1:1≤r.1:=by
     simp only[dT,tJ,tL]at hir;exact hir.1.1
    have HP:=Hi (And.intro hp1 (And.intro hp2 hp3));clear hp1 hp2 hp3 hir;by_cases hk0:k=0
    ·have hpz:=HP.o.2.1 hk0;have HE:Hid (cF 0 l=cF r.1 (l.drop (k+1))):=by
      have:=HP.o.1
      rw[hpz,sT (by omega)]at this;exact this
     have d1:decide (0<(k:Int))=false:=sI (by omega);have d1':decide (0<k)=false:=sI (by omega);clear hk0 hpz;go_wp2_with fail
     go_quiet (fail)
     change Exit.then _ _ _ _ (w2.drewN nq);have HB3:Hid (Below w.heap.size w (w2.drewN nq)):=aH HB2.o nq;generalize w2.drewN nq=w3 at HB3 ⊢;clear hc4 hs1;go_wp2_with fail
     go_roundw
     case rel =>
      refine⟨k+1,hlt,by go_num,⟨HB3.o,r.1,HE.o,fun e=>by omega,fun j r' e h=>?_⟩⟩
      obtain rfl:j=k:=by omega
      rw[HX.o]at h;cases h;rfl
     case measure=>simp[intOf];omega
    ·have d1:decide (0<(k:Int))=true:=sH (by omega);have d1':decide (0<k)=true:=sH (by omega);obtain⟨r0,hr0⟩:∃r,l[k-1]?=some r:=⟨_,sC (by rw[HN.o];omega)⟩
     have hp0:=HP.o.2.2 (k-1) r0 (by omega) hr0;have hblk:∀o,w2.cell? ⟨b,o,none⟩=w.cell? ⟨b,o,none⟩:=fun o=>sK (w:=w) (HB2.o.block b hbl)
     obtain⟨b2,off2,e2,-,hcell2⟩:=HR.o.at_ (by rw[HN.o];omega) (by omega)
     simp only[tW,Addr.mk.injEq,and_true]at e2;obtain⟨rfl,rfl⟩:=e2
     have x3:w2.cell? ⟨b,off+(k-1)*2,none⟩=some (.int .i64 r0.1):=by rw[hblk];exact hcell2 _ _ (aN hr0).1
     have HP1:=Hi HP.o.1;rw[hp0]at HP1;have hw:IntKind.i64.wrap ((k:Int)-1)=(k:Int)-1:=tH _ (by omega);have hi0:0≤(k:Int)-1:=by omega
     have hi1:(k:Int)-1<(n:Int):=by omega
     have hi2:((k:Int)-1).toNat=k-1:=by omega
     clear hblk hcell2 hr0 hp0 HP;go_wp2_with fail
     by_cases hle:r.1≤r0.1
     ·have d2:decide (r.1≤r0.1)=true:=sH hle;go_quiet (fail)
      change Exit.then _ _ _ _ (w2.drewN nq);have HB3:Hid (Below w.heap.size w (w2.drewN nq)):=aH HB2.o nq;generalize w2.drewN nq=w3 at HB3 ⊢;clear hc4 hs1 x3 hw hi2;go_wp2_with fail
      go_ret;exact⟨by rw[HP1.o,tA hle];rfl,HB3.o⟩
     ·have d2:decide (r.1≤r0.1)=false:=sI hle;go_quiet (fail)
      change Exit.then _ _ _ _ (w2.drewN nq);have HB3:Hid (Below w.heap.size w (w2.drewN nq)):=aH HB2.o nq;generalize w2.drewN nq=w3 at HB3 ⊢;clear hc4 hs1 x3 hw hi2;go_wp2_with fail
      go_roundw
      case rel =>
       refine⟨k+1,hlt,by go_num,⟨HB3.o,r.1,by rw[HP1.o,sT hle],fun e=>by omega,fun j r' e h=>?_⟩⟩
       obtain rfl:j=k:=by omega
       rw[HX.o]at h;cases h;rfl
      case measure=>simp[intOf];omega
  ·have hkn:k=n:=by omega
   obtain⟨p,hp1,-,-⟩:=HI.o.2
   rw[uR (by rw[HN.o];omega)]at hp1;have HP:Hid (cF 0 l=0):=hp1;have HBw:=Hi HI.o.1;clear hp1;go_wp2_with fail
   go_ret;exact⟨by rw[HP.o];rfl,HBw.o⟩
theorem rC(r:Rf)(w:World):Calls Tryz.prog 107 #[dB r] w fun e w'=>e=.returned (.bool (dT r))∧Below w.heap.size w w':=by
 obtain⟨a,s⟩:=r
 simp only[dB,dT];by_cases h1:1≤a
 case neg =>
  have d1:decide (1≤a)=false:=sI h1;have e0:decide (1≤a∧a≤99)=false:=sI fun h=>h1 h.1
  rw[e0];go_enter Tryz.func107,Tryz.ntmps107;go_wp2_with fail
  go_ret;exact⟨rfl,(sA _ w).alloc (sB _) _⟩
 have d1:decide (1≤a)=true:=sH h1;by_cases h2:a≤99
 case neg =>
  have d2:decide (a≤99)=false:=sI h2;have e0:decide (1≤a∧a≤99)=false:=sI fun h=>h2 h.2
  rw[e0];go_enter Tryz.func107,Tryz.ntmps107;go_wp2_with fail
  go_ret;exact⟨rfl,(sA _ w).alloc (sB _) _⟩
 have d2:decide (a≤99)=true:=sH h2;have e0:decide (1≤a∧a≤99)=true:=sH ⟨h1,h2⟩;rw[e0];by_cases h3:1≤s
 case neg =>
  have d3:decide (1≤s)=false:=sI h3;have e1:decide (1≤s∧s≤1000000)=false:=sI fun h=>h3 h.1
  rw[e1];go_enter Tryz.func107,Tryz.ntmps107;go_wp2_with fail
  go_ret;exact⟨rfl,(sA _ w).alloc (sB _) _⟩
 have d3:decide (1≤s)=true:=sH h3;have e1:decide (1≤s∧s≤1000000)=decide (s≤1000000):=by simp[h3]
 rw[e1];go_enter Tryz.func107,Tryz.ntmps107;go_wp2_with fail
 go_ret;exact⟨rfl,(sA _ w).alloc (sB _) _⟩
theorem refClock_any(l:List Rf)(D:Nat→Prop)(A:Option Addr)(c:Nat)(w:World)(hr:aC D w 2 A l.length (aF l))(hD:∀k,D k→k<w.heap.size)(hl:l.length≤9223372036854775807):
 Calls Tryz.prog 108 #[.slice A l.length c] w fun e w'=>e=.returned (.int .i64 (cF 0 l))∧Below w.heap.size w w':=by
 have HR:=Hi hr;have HD:=Hi hD;clear hr hD;obtain⟨n,hn⟩:∃n,l.length=n:=⟨_,rfl⟩
 have HN:=Hi hn;rw[hn]at hl ⊢;clear hn;go_enter Tryz.func108,Tryz.ntmps108;go_wp2_with fail
 go_loopw [3] (fun s7 wr=>∃k:Nat,k≤n∧s7=.int .i64 k∧Hid (Below w.heap.size w wr∧∃p:Int,cF 0 l=cF p (l.drop k)∧(k=0→p=0)∧(∀j r,k=j+1→l[j]?=some r→p=r.1)) ) (fun s7 _=>n-(intOf s7).toNat)
 case atStart=>exact⟨0,by omega,rfl,⟨sA _ _,0,by simp,fun _=>rfl,fun j r h=>by omega⟩⟩
 case round =>
  obtain⟨k,hk,rfl,HI⟩:=hrel
  by_cases hlt:k<n
  ·obtain⟨b,off,rfl,hb,hcell⟩:=HR.o.at_ (by rw[HN.o];omega) (by omega)
   obtain⟨r,hr⟩:∃r,l[k]?=some r:=⟨_,sC (by rw[HN.o];exact hlt)⟩
   have hbl:=HD.o b hb;have hblk:∀o,wr.cell? ⟨b,o,none⟩=w.cell? ⟨b,o,none⟩:=fun o=>sK (w:=w) (HI.o.1.block b hbl)
   obtain⟨h1,h2⟩:=aN hr
   have x1:wr.cell? ⟨b,off+k*2,none⟩=some (.int .i64 r.1):=by rw[hblk];exact hcell _ _ h1
   have x2:wr.cell? ⟨b,off+k*2+1,none⟩=some (.int .i64 r.2):=by rw[hblk];exact hcell _ _ h2
   clear hblk hcell h1 h2;have HX:=Hi hr;clear hr;go_wp2_with fail
   go_at_call 107;refine(rC r _).mono ?_
   rintro e w2 ⟨rfl,hb2⟩;have HB2:Hid (Below w.heap.size w w2):=HI.o.1.trans (hb2.mono HI.o.1.size);have y1:w2.cell? ⟨b,off+k*2,none⟩=some (.int .i64 r.1):=by
    rw[sK (w:=wr) (hb2.block b (sD hbl HI.o.1.size))];exact x1
   clear hb2 x1 x2;obtain⟨p,hp1,hp2,hp3⟩:=HI.o.2
   have hdr:l.drop k=r::l.drop (k+1):=by
    have hl:k<l.length:=by rw[HN.o];exact hlt
    have:=HX.o
    rw[sC hl]at this;rw[uE hl,tK this]
   have hre:cF p (r::l.drop (k+1))=if dT r=false then 1 else if r.1≤p then 5 else cF r.1 (l.drop (k+1)):=rfl
   rw[hdr,hre]at hp1;clear hdr hre;cases hir:dT r with
   |false =>
    rw[hir,tA rfl]at hp1;have HP:=Hi hp1;clear hp1 hp2 hp3 hir;go_wp2_with fail
    go_ret;exact⟨by rw[HP.o];rfl,HB2.o⟩
   |true =>
    rw[hir,sT (by simp)]at hp1;have hr1:1≤r.1:=by
     simp only[dT,tJ,tL]at hir;exact hir.1.1
    have HP:=Hi (And.intro hp1 (And.intro hp2 hp3));clear hp1 hp2 hp3 hir;by_cases hk0:k=0
    ·have hpz:=HP.o.2.1 hk0;have HE:Hid (cF 0 l=cF r.1 (l.drop (k+1))):=by
      have:=HP.o.1
      rw[hpz,sT (by omega)]at this;exact this
     have d1:decide (0<(k:Int))=false:=sI (by omega);have d1':decide (0<k)=false:=sI (by omega);clear hk0 hpz;go_wp2_with fail
     go_quiet (fail)
     change Exit.then _ _ _ _ (w2.drewN nq);have HB3:Hid (Below w.heap.size w (w2.drewN nq)):=aH HB2.o nq;generalize w2.drewN nq=w3 at HB3 ⊢;clear y1;go_wp2_with fail
     go_roundw
     case rel =>
      refine⟨k+1,hlt,by go_num,⟨HB3.o,r.1,HE.o,fun e=>by omega,fun j r' e h=>?_⟩⟩
      obtain rfl:j=k:=by omega
      rw[HX.o]at h;cases h;rfl
     case measure=>simp[intOf];omega
    ·have d1:decide (0<(k:Int))=true:=sH (by omega);have d1':decide (0<k)=true:=sH (by omega);obtain⟨r0,hr0⟩:∃r,l[k-1]?=some r:=⟨_,sC (by rw[HN.o];omega)⟩
     have hp0:=HP.o.2.2 (k-1) r0 (by omega) hr0;have hblk:∀o,w2.cell? ⟨b,o,none⟩=w.cell? ⟨b,o,none⟩:=fun o=>sK (w:=w) (HB2.o.block b hbl)
     obtain⟨b2,off2,e2,-,hcell2⟩:=HR.o.at_ (by rw[HN.o];omega) (by omega)
     simp only[tW,Addr.mk.injEq,and_true]at e2;obtain⟨rfl,rfl⟩:=e2
     have x3:w2.cell? ⟨b,off+(k-1)*2,none⟩=some (.int .i64 r0.1):=by rw[hblk];exact hcell2 _ _ (aN hr0).1
     have HP1:=Hi HP.o.1;rw[hp0]at HP1;have hw:IntKind.i64.wrap ((k:Int)-1)=(k:Int)-1:=tH _ (by omega);have hi0:0≤(k:Int)-1:=by omega
     have hi1:(k:Int)-1<(n:Int):=by omega
     have hi2:((k:Int)-1).toNat=k-1:=by omega
     clear hblk hcell2 hr0 hp0 HP;go_wp2_with fail
     by_cases hle:r.1≤r0.1
     ·have d2:decide (r.1≤r0.1)=true:=sH hle;go_quiet (fail)
      change Exit.then _ _ _ _ (w2.drewN nq);have HB3:Hid (Below w.heap.size w (w2.drewN nq)):=aH HB2.o nq;generalize w2.drewN nq=w3 at HB3 ⊢;clear y1 x3 hw hi2;go_wp2_with fail
      go_ret;exact⟨by rw[HP1.o,tA hle];rfl,HB3.o⟩
     ·have d2:decide (r.1≤r0.1)=false:=sI hle;go_quiet (fail)
      change Exit.then _ _ _ _ (w2.drewN nq);have HB3:Hid (Below w.heap.size w (w2.drewN nq)):=aH HB2.o nq;generalize w2.drewN nq=w3 at HB3 ⊢;clear y1 x3 hw hi2;go_wp2_with fail
      go_roundw
      case rel =>
       refine⟨k+1,hlt,by go_num,⟨HB3.o,r.1,by rw[HP1.o,sT hle],fun e=>by omega,fun j r' e h=>?_⟩⟩
       obtain rfl:j=k:=by omega
       rw[HX.o]at h;cases h;rfl
      case measure=>simp[intOf];omega
  ·have hkn:k=n:=by omega
   obtain⟨p,hp1,-,-⟩:=HI.o.2
   rw[uR (by rw[HN.o];omega)]at hp1;have HP:Hid (cF 0 l=0):=hp1;have HBw:=Hi HI.o.1;clear hp1;go_wp2_with fail
   go_ret;exact⟨by rw[HP.o];rfl,HBw.o⟩
end
section
def qE(a b:Int):Int:=if a<b then -1 else if b<a then 1 else 0
theorem cmpI_lt{a b:Int}(h:a<b):-1=qE a b:=by simp[qE,h]
theorem cmpI_gt{a b:Int}(h:b<a):1=qE a b:=by rw[qE,sT (by omega),tA h]
theorem cmpI_eq{a b:Int}(h1:¬a<b)(h:¬b<a):0=qE a b:=by rw[qE,sT h1,sT h]
theorem cmpInt_any(a b:Int)(w:World):
 Calls Tryz.prog 121 #[.int .i64 a,.int .i64 b] w fun e w'=>e=.returned (.int .i64 (qE a b))∧w=w':=by
 by_cases h1:a<b
 ·go_enter Tryz.func121,Tryz.ntmps121;go_wp2
  go_ret;exact⟨mX (cmpI_lt h1),rfl⟩
 ·by_cases h2:b<a
  ·go_enter Tryz.func121,Tryz.ntmps121;go_wp2
   go_ret;exact⟨mX (cmpI_gt h2),rfl⟩
  ·go_enter Tryz.func121,Tryz.ntmps121;go_wp2
   go_ret;exact⟨mX (cmpI_eq (by omega) (by omega)),rfl⟩
def fM:List Int→Int
 | []=>0
 |x::l=>if x=0 then fM l else x
theorem firstNZ_at:∀(l:List Int) (k:Nat) (x:Int),(∀j,j<k→l.getD j 0=0)→l[k]?=some x→x≠0→fM l=x
 | [],_,_,_,h,_=>by simp at h
 |y::l,0,x,_,h,hx=>by
  simp at h;subst h;simp[fM,hx]
 |y::l,k+1,x,h0,h,hx=>by
  have hy:y=0:=h0 0 (by omega);subst hy;simp only[fM,if_true];exact firstNZ_at l k x (fun j hj=>by simpa using h0 (j+1) (by omega)) (by simpa using h) hx
theorem nU:∀(l:List Int),(∀j,j<l.length→l.getD j 0=0)→fM l=0
 | [],_=>rfl
 |y::l,h0=>by
  have hy:y=0:=h0 0 (by simp);subst hy;simp only[fM,if_true];exact nU l (fun j hj=>by simpa using h0 (j+1) (by simpa using hj))
theorem or_any(xs:List Int)(n:Nat)(hn:n=xs.length)(b:Nat)(w:World)(hlen:n≤1000000)
 (hc:∀(k:Nat) (x:Int),xs[k]?=some x→w.cell? ⟨b,k,none⟩=some (.int .i64 x)) :
 Calls Tryz.prog 120 #[.slice (some ⟨b,0,none⟩) n n] w fun e w'=>e=.returned (.int .i64 (fM xs))∧w=w':=by
 have HN:=Hi hn;have HC:=Hi hc;clear hn hc;go_enter Tryz.func120,Tryz.ntmps120;go_wp2
 go_loop [5,8] (fun _ i=>∃k:Nat,k≤n∧i=.int .i64 k∧∀j,j<k→xs.getD j 0=0) (fun _ i=>n-(intOf i).toNat)
 case atStart=>exact⟨0,by omega,rfl,fun j hj=>absurd hj (by omega)⟩
 case round =>
  obtain⟨k,hk,rfl,hz⟩:=hrel
  have HZ:=Hi hz;clear hz;by_cases hlt:k<n
  ·obtain⟨x,hx⟩:∃x,xs[k]?=some x:=by have:=HN.o;exact⟨xs[k],sC (by omega)⟩
   have HX:=Hi hx;have hcell:=HC.o k x hx;clear hx;by_cases h0:x=0
   ·subst h0;go_wp2
    go_round
    case rel=>exact⟨k+1,by omega,by go_num,fun j hj=>by
     by_cases e:j=k
     ·subst e;rw[vM,HX.o];rfl
     ·exact HZ.o j (by omega)⟩
    case measure=>simp[intOf];omega
   ·have hb:(x != 0)=true:=by simpa using h0
    have H0:=Hi h0;clear h0;go_wp2
    go_ret;exact⟨mX (firstNZ_at xs k x HZ.o HX.o H0.o).symm,rfl⟩
  ·go_wp2
   go_ret;exact⟨mX (nU xs (fun j hj=>HZ.o j (by have:=HN.o;omega))).symm,rfl⟩
def cmp2(a b c d:Int):Int:=fM [qE a c,qE b d]
theorem or2_any(x y:Int)(b:Nat)(w:World)(h0:w.cell? ⟨b,0,none⟩=some (.int .i64 x))(h1:w.cell? ⟨b,1,none⟩=some (.int .i64 y)):
 Calls Tryz.prog 120 #[.slice (some ⟨b,0,none⟩) 2 2] w fun e w'=>e=.returned (.int .i64 (fM [x,y]))∧w=w' :=
 or_any [x,y] 2 rfl b w (by omega) fun k u hk=>by
  match k,hk with
  |0,hk=>simp at hk;subst hk;exact h0
  |1,hk=>simp at hk;subst hk;exact h1
  |k+2,hk=>simp at hk
theorem idCompare_any(a b c d:Int)(w:World):
 Calls Tryz.prog 128 #[.agg #[.int .i64 a,.int .i64 b],.agg #[.int .i64 c,.int .i64 d]] w fun e w'=>e=.returned (.int .i64 (cmp2 a b c d))∧Below w.heap.size w w':=by
 go_enter Tryz.func128,Tryz.ntmps128;go_wp2
 go_region_held3 (fun w'=>w'.cell? ⟨w.heap.size,0,none⟩=some (.int .i64 a)∧w'.cell? ⟨w.heap.size,1,none⟩=some (.int .i64 b)∧w'.cell? ⟨w.heap.size+1,0,none⟩=some (.int .i64 c)∧w'.cell? ⟨w.heap.size+1,1,none⟩=some (.int .i64 d)) (go_keep)
  (first|(go_at_call 121;refine(cmpInt_any _ _ _).mono ?_;rintro e w' ⟨rfl,rfl⟩)|(go_at_call 120;refine(or2_any (qE a c) (qE b d) _ _ ?_ ?_).mono ?_;(go_simp);(go_simp);rintro e w' ⟨rfl,rfl⟩))
 go_wp2
 go_ret;exact⟨rfl,((((sA _ _).alloc (sB _) _).alloc (by simp) _).alloc (by simp;omega) _).drew⟩
end
section
theorem firstNZ_cons(x:Int)(l:List Int):fM (x::l)=if x=0 then fM l else x:=rfl
end
section
def loB(n:Nat):UInt8:=UInt8.ofNat (n % 128+128)
theorem loB_toNat(n:Nat):(loB n).toNat=n % 128+128:=fS (by omega)
def jP(n f cur:Nat)(pre:List UInt8):Prop:=cur<128 ^ (f+1)∧cur<2 ^ 64∧fO n=pre++lL f cur∧pre.length+f≤9
theorem jP.start{n:Nat}(h:n<2 ^ 64):jP n 9 n []:=⟨by omega,h,rfl,by simp⟩
theorem jP.last{n f cur:Nat}{pre:List UInt8}(h:jP n f cur pre)(hc:cur<128):fO n=pre++[UInt8.ofNat cur]:=by rw[h.2.2.1,mI hc]
theorem jP.step{n f cur:Nat}{pre:List UInt8}(h:jP n f cur pre)(hc:¬cur<128):∃f',jP n f' (cur / 128) (pre++[loB cur]):=by
 obtain⟨h1,h2,h3,h4⟩:=h
 obtain _|f:=f
 ·simp at h1;omega
 ·refine⟨f,?_,by omega,by rw[h3,rF hc,sX];rfl,by simp;omega⟩
  rw[Nat.pow_succ]at h1;exact Nat.div_lt_of_lt_mul (by rw[Nat.mul_comm];exact h1)
theorem jP.len{n f cur:Nat}{pre:List UInt8}(h:jP n f cur pre):pre.length≤9:=by have:=h.2.2.2;omega
theorem jP.lt{n f cur:Nat}{pre:List UInt8}(h:jP n f cur pre):cur<2 ^ 64:=h.2.1
theorem u64_keep{m:Nat}(h:m<18446744073709551616):IntKind.u64.wrap (m:Int)=(m:Int):=by
 simp[IntKind.wrap,IntKind.bits,IntKind.signed];omega
section
variable{l:List UInt8}{k acc cc m p q:Nat}
end
end
section
theorem jB(n:Int):IntKind.u64.wrap n=n % 18446744073709551616:=by simp[IntKind.wrap,IntKind.bits,IntKind.signed]
theorem wrap_i64(n:Int):wrap64 n=(n+9223372036854775808) % 18446744073709551616-9223372036854775808:=by
 unfold wrap64;omega
end
section
theorem rE(n:Nat)(hn:Hid (n<2 ^ 64))(w:World):
 Calls Tryz.prog 144 #[.int .u64 n] w fun e w'=>∃v,e=.returned v∧w'.ownsRow w.heap.size 5 1 v (fO n).length (bP (fO n))∧Below w.heap.size w w':=by
 obtain⟨i0,hi,hz0,hz1,hz2⟩:=info_parts nM
 go_enter Tryz.func144,Tryz.ntmps144;go_wp2
 go_loopw [0,3] (fun s0 v wr=>∃(f cur:Nat) (pre:List UInt8),s0=.int .u64 cur∧Hid (jP n f cur pre) ∧
  wr.ownsRow w.heap.size 5 1 v pre.length (bP pre)∧Below w.heap.size w wr) (fun s0 _ _=>(intOf s0).toNat)
 case atStart=>exact⟨9,n,[],rfl,jP.start hn.out,bB _ _ _ _,sA _ _⟩
 obtain⟨f,cur,pre,rfl,hpa,hown,hb⟩:=hrel
 have hlen:=hpa.out.len;by_cases hlt:cur<128
 ·have hd:decide ((127:Int)<(cur:Int))=false:=by simp;omega
  have hc8:(cur:Int) % 256=(cur:Int):=by omega
  have HL:=Hi (hpa.out.last hlt);go_wp2_with (at_builtin;refine aG _ rfl (.tmp 15) (.tmp 18) _ rfl (w.heap.size) 5 i0 _ 1 1 Tryz.underlying147 hi hz0 hz1 hz2 rfl (by omega) (u3) (pre.length) (bP pre) rfl (hown.alloc _) _ (some ⟨wr.heap.size,0,none⟩) (1) (1) (bP [UInt8.ofNat cur]) rfl (reads_new _ _ _ _ (by rw[fS (by omega)]) _ rfl) (iI _) ?c1 ?c2 ?c3 ?_)
  try case c1=>simp only[maxLen];omega
  try case c2=>omega
  try case c3=>have:=hb.size;simp;omega
  intro v1 w1 hown1 hg1 hat1;have hb1:Below w.heap.size w w1:=(hb.alloc hb.size _).grown hg1 (by have:=hb.size;simp;omega) (fun g hg=>(aD hown hg).1);go_wp2
  go_ret;exact⟨_,rfl,by rw[HL.o,sF,fI];exact hown1,hb1⟩
 ·have hd:decide ((127:Int)<(cur:Int))=true:=by simp;omega
  obtain⟨m,hm⟩:∃m,m=cur % 128:=⟨_,rfl⟩
  obtain⟨q,hq⟩:∃q,q=cur / 128:=⟨_,rfl⟩
  have hm1:(cur:Int).tmod 128=(m:Int):=by rw[Int.tmod_eq_emod_of_nonneg (by omega)];omega
  have hm2:(cur:Int) % 128=(m:Int):=by omega
  have hq1:(cur:Int).tdiv 128=(q:Int):=by rw[Int.tdiv_eq_ediv_of_nonneg (by omega)];omega
  have hq2:(cur:Int) / 128=(q:Int):=by omega
  have hm8:m<128:=by omega
  have HX:Hid ((m:Int)+128=((loB cur).toNat:Int)):=by show _=_;rw[loB_toNat];omega
  obtain⟨f',hp'⟩:=hpa.out.step hlt
  rw[←hq]at hp';have HP:=Hi hp';have hqc:q<cur:=by omega
  have hq3:IntKind.u64.wrap (q:Int)=(q:Int):=u64_keep (by have:=hpa.out.lt;omega);clear hm hq hp';go_wp2_with (at_builtin;refine aG _ rfl (.tmp 6) (.tmp 11) _ rfl (w.heap.size) 5 i0 _ 1 1 Tryz.underlying147 hi hz0 hz1 hz2 rfl (by omega) (u3) (pre.length) (bP pre) rfl (hown.alloc _) _ (some ⟨wr.heap.size,0,none⟩) (1) (1) (bP [loB cur]) rfl (reads_new _ _ _ _ HX.o _ rfl) (iI _) ?c1 ?c2 ?c3 ?_)
  try case c1=>simp only[maxLen];omega
  try case c2=>omega
  try case c3=>have:=hb.size;simp;omega
  intro v1 w1 hown1 hg1 hat1;have hb1:Below w.heap.size w w1:=(hb.alloc hb.size _).grown hg1 (by have:=hb.size;simp;omega) (fun g hg=>(aD hown hg).1);go_wp2
  exact⟨⟨f',q,pre++[loB cur],rfl,HP,by rw[sF,fI];exact hown1,hb1⟩,by simp[intOf];omega⟩
theorem putSR_any(n:Int)(hn:(Lit.int .i64 n).wf=true)(w:World):
 Calls Tryz.prog 123 #[.int .i64 n] w fun e w'=>∃v,e=.returned v∧w'.ownsRow w.heap.size 5 1 v (iN n).length (bP (iN n))∧Below w.heap.size w w':=by
 have hb:=bounds_i64 hn;have HL:Hid (zz n<2 ^ 64):=zz_lt hb;by_cases h0:n<0
 ·have HZ:Hid (IntKind.u64.wrap (IntKind.u64.wrap (IntKind.u64.wrap (wrap64 (-wrap64 (n+1)))*2)+1)=((zz n:Nat):Int)):=by
   show _=_;rw[jB,jB,jB,wrap_i64,wrap_i64];unfold zz;split<;>omega
  have hd:decide (n<0)=true:=by simpa using h0
  clear hn hb h0;go_enter Tryz.func123,Tryz.ntmps123;go_wp2_with fail
  rw[HZ.o];refine(rE (zz n) HL w).mono ?_
  rintro e w1 ⟨v,rfl,ho,hb⟩;go_wp2
  go_ret;exact⟨v,rfl,ho,hb⟩
 ·have HZ:Hid (IntKind.u64.wrap (IntKind.u64.wrap n*2)=((zz n:Nat):Int)):=by
   show _=_;rw[jB,jB];unfold zz;split<;>omega
  have hd:decide (n<0)=false:=by simpa using h0
  clear hn hb;go_enter Tryz.func123,Tryz.ntmps123;go_wp2_with fail
  rw[HZ.o];refine(rE (zz n) HL w).mono ?_
  rintro e w1 ⟨v,rfl,ho,hb⟩;go_wp2
  go_ret;exact⟨v,rfl,ho,hb⟩
end
section
theorem intsC_at_{l:List Int}{k:Nat}{x:Int}(h:l[k]?=some x):(iS l)[k]?=some (.int .i64 x):=by simp[iS,h]
def aZ(l:List Int):List UInt8:=l.flatMap fun x=>fO x.toNat
theorem oT:∀(l:List Int),(aZ l).length≤10*l.length
 | []=>by simp[aZ]
 |x::l=>by
  have:=oT l
  have h:=(gQ x.toNat).2;simp only[aZ,tQ,sF,sV]at this ⊢;omega
theorem numsL_append(a b:List Int):aZ (a++b)=aZ a++aZ b:=by simp[aZ]
theorem numsL_take{l:List Int}{k:Nat}{x:Int}(h:l[k]?=some x):aZ (l.take (k+1))=aZ (l.take k)++fO x.toNat:=by
 rw[sQ,h,numsL_append];simp[aZ]
theorem u64_nat{x:Int}(h0:0≤x)(h1:x≤9223372036854775807):IntKind.u64.wrap x=((x.toNat:Nat):Int):=by
 rw[jB];omega
theorem Evo.of_append'{w w':World}{o o':Option Nat}(h:w.grownBy w' o)(ho:o'=o∨o'=some w.heap.size):Evo w o w' o':=Evo.of_append h ho
theorem refNums_any(xs:List Int)(pre:List UInt8)(v:Value)(base:Nat)(D:Nat→Prop)(A:Option Addr)(n c:Nat)(w:World)
 (hown:w.ownsRow base 5 1 v pre.length (bP pre)) (hbase:base≤w.heap.size) (hr:aC D w 1 A n (iS xs)) (hD:∀k,D k→k<w.heap.size∧v.ownBlock≠some k)
 (hn:xs.length=n) (hn1:n≤100) (hp:pre.length≤1000000) (hx:∀x∈xs,0≤x∧x≤9223372036854775807) :
 Calls Tryz.prog 122 #[v,.slice A n c] w fun e w'=>∃v',e=.returned v'∧w'.ownsRow base 5 1 v' (pre++aZ xs).length (bP (pre++aZ xs))∧Evo w v.ownBlock w' v'.ownBlock:=by
 obtain⟨i0,hi,hz0,hz1,hz2⟩:=info_parts nM
 have HR:=Hi hr;have HD:=Hi hD;have HN:=Hi hn;have HX:=Hi hx;have HP:=Hi hp;clear hr hD hn hx hp;go_enter Tryz.func122,Tryz.ntmps122;go_wp2_with fail
 go_loopw [0,5] (fun s0 s5 wr=>∃k:Nat,k≤n∧s5=.int .i64 k∧wr.ownsRow base 5 1 s0 (pre++aZ (xs.take k)).length (bP (pre++aZ (xs.take k)))∧Hid (Evo w v.ownBlock wr s0.ownBlock)) (fun _ s5 _=>n-(intOf s5).toNat)
 case atStart=>exact⟨0,by omega,rfl,by simpa[aZ] using hown,Evo.refl _ _⟩
 case round =>
  clear hown;obtain⟨k,hk,rfl,hown,HE⟩:=hrel
  by_cases hlt:k<n
  ·obtain⟨x,hx⟩:∃x,xs[k]?=some x:=jY (by rw[HN.o];exact hlt)
   obtain⟨b,off,hA,hb,hcell⟩:=HR.o.at_ (by omega) (by omega)
   subst hA;have hxb:=HX.o x (sJ hx);have hcx:wr.cell? ⟨b,off+k,none⟩=some (.int .i64 x):=by
    rw[HE.o.cell (p:=⟨b,off+k,none⟩) (HD.o b hb).1 (HD.o b hb).2];exact hcell k _ (intsC_at_ hx)
   have hu:=u64_nat hxb.1 hxb.2;have hlen:=oT (xs.take k);have hst:Hid (pre++aZ (xs.take (k+1))=(pre++aZ (xs.take k))++fO x.toNat):=by show _=_;rw[numsL_take hx,sX]
   have hpl:(pre++aZ (xs.take k)).length≤1001000:=by
    have:=HP.o
    simp only[sF,tD]at hlen ⊢;omega
   have HQ:Hid (x.toNat<2 ^ 64):=by show _<_;omega
   generalize pre++aZ (xs.take k)=acc at hown hst hpl;generalize x.toNat=q at hu hst HQ;clear hx hxb hlen;go_wp2_with fail
   refine(rE q HQ wr).mono ?_
   rintro e w3 ⟨v3,rfl,ho3,hb3⟩;obtain⟨A3,c3,hv3,_,_,hr3⟩:=aC.of_own ho3
   subst hv3;have HE3:Hid (Evo w v.ownBlock w3 u0.ownBlock):=HE.o.trans (Evo.of_below hb3);have hown3:=aT hown fun g hg=>hb3.block g (aD hown hg).2
   have hpn:=(gQ q).2;have HR3:=Hi hr3;have hs3:base≤w3.heap.size:=sY hbase HE3.o.size;clear ho3 hb3 hr3 hcx;go_wp2_with (at_builtin;refine aG _ rfl (.tmp 12) (.tmp 18) _ rfl (base) 5 i0 _ 1 1 Tryz.underlying147 hi hz0 hz1 hz2 rfl (by omega) (u0) (acc.length) (bP acc) rfl (hown3) _ (A3) ((fO q).length) (c3) (bP (fO q)) rfl (HR3.o) (iI _) ?c1 ?c2 ?c3 ?_)
   try case c1=>simp only[maxLen];omega
   try case c2=>omega
   try case c3=>exact hs3
   intro v4 w4 ho4 hg4 hat4;have HE4:Hid (Evo w v.ownBlock w4 v4.ownBlock):=HE3.o.trans (Evo.of_append' hg4 hat4);rw[←fI]at ho4;clear hown3 hg4 hat4 HR3 hs3;go_wp2_with fail
   first
    |exact⟨⟨k+1,by omega,by go_num,by rw[hst.out];simpa using ho4,HE4⟩,by simp[intOf];omega⟩
    |(go_roundw
      case rel=>exact⟨k+1,by omega,by go_num,by rw[hst.out];simpa using ho4,HE4⟩
      case measure=>simp[intOf];omega)
  ·have hkn:k=n:=by omega
   have HF:Hid (xs.take k=xs):=by show _=_;exact sL (by rw[HN.o];omega)
   rw[HF.o]at hown;clear hkn;go_wp2_with fail
   go_ret;exact⟨_,rfl,hown,HE.o⟩
end
section
section
variable{P:Program}(w:World)
theorem mD(S:ByteArray):(Builtin.firstCells 1 S.size (.string S)).run P w=.ok (bP S.data.toList).toArray w:=by
 have hx:(Array.map (fun b:UInt8=>Value.int IntKind.u8 (b.toNat:Int)) S.data).extract 0 S.size=Array.map (fun b:UInt8=>Value.int IntKind.u8 (b.toNat:Int)) S.data:=by
  have hs:S.size=(Array.map (fun b:UInt8=>Value.int IntKind.u8 (b.toNat:Int)) S.data).size:=by rw[Array.size_map];rfl
  rw[hs,Array.extract_size]
 have e:(bP S.data.toList).toArray=Array.map (fun b:UInt8=>Value.int IntKind.u8 (b.toNat:Int)) S.data:=by
  apply Array.ext';simp[bP]
 rw[e];simp[Builtin.firstCells,hx]
theorem str_len(S:ByteArray):(bP S.data.toList).length=S.size:=by
 rw[bytesC_length,ByteArray.size,vB]
theorem rA(base:Nat)(t u ty e:TypeId)(i:TypeInfo)(z:Value)(bytes:Nat)(ht:P.underlying t=some (.slice e))(hu:P.underlying u=some .string)(hi:P.info? e=some i)(hz:i.zero=some z)
 (hsize:i.size=1) (hby:i.bytes=bytes) (hzs:z.cells.size=1)
 (v:Value) (n:Nat) (xs:List Value) (hown:w.ownsRow base e 1 v n xs) (S:ByteArray)
 (h63:n+S.size≤maxLen) (hbytes:(n+S.size)*bytes≤140737488355328) (hbase:base≤w.heap.size) :
 ∃v' w',(Builtin.append_ #[t,u] ty #[v,.string S]).run P w=.ok v' w'∧w'.ownsRow base e 1 v' (n+S.size) (xs++bP S.data.toList)∧w.grownBy w' v.ownBlock ∧
  (v'.ownBlock=v.ownBlock∨v'.ownBlock=some w.heap.size):=by
 subst hby
 have hnl:=str_len S;have hf:=fun w=>mD (P:=P) w S
 have h1:=iI S.data.toList;generalize bP S.data.toList=news at hnl hf h1 ⊢;have hsmall:n+S.size≤9223372036854775807:=by simp only[maxLen]at h63;omega
 have hlen:(xs++news).length=(n+S.size)*1:=by rw[sF,hown.1,hnl];omega
 have grown:∀(old:Nat),old<n+S.size→∀(row:Option Nat),
  (w.drew.alloc (.cells (xs.toArray++news.toArray++Builtin.zeroCells z.cells (grownCap w (n+S.size) old e-(n+S.size))) e)).ownsRow base e 1
    (.slice (some ⟨w.heap.size,0,none⟩) (n+S.size) (grownCap w (n+S.size) old e)) (n+S.size) (xs++news) ∧
  w.grownBy (w.drew.alloc (.cells (xs.toArray++news.toArray++Builtin.zeroCells z.cells (grownCap w (n+S.size) old e-(n+S.size))) e)) row:=by
  intro old ho row;have hge:=grownCap_ge w (n+S.size) old e;have hcm:grownCap w (n+S.size) old e≤maxLen:=grownCap_le_maxLen w (n+S.size) old e h63;refine⟨⟨hlen,.inr ⟨w.heap.size,_,_,rfl,hbase,heap_alloc_new w.drew _,hge,hcm,?_,?_⟩⟩,⟨rfl,rfl,rfl,by simp,fun k hk _=>sM w.drew _ k hk⟩⟩
  ·simp only[Array.size_append,List.size_toArray,size_zeroCells,hzs,hown.1,hnl];omega
  ·simp only[Array.toList_append,sX];rw[←sX,←hlen];exact List.take_left
 rcases hown.2 with⟨rfl,rfl⟩|⟨g,cap,cur,rfl,hbg,hg,hnc,hcm,hcs,htake⟩
 ·have hx:xs=[]:=vD (by simpa using hown.1);subst hx;by_cases hm:S.size=0
  ·have hn:news=[]:=vD (by rw[hnl,hm]);subst hn;refine⟨.slice none 0 0,w,?_,by rw[hm];exact World.ownsRow_nil w base e 1,⟨rfl,rfl,rfl,sB _,fun _ _ _=>rfl⟩,Or.inl rfl⟩
   rw[hm]at hf;simp[Builtin.append_,run_underlying ht,run_underlying hu,sizeOf,typeInfo,hi,hsize,Builtin.lenOf,hf,hm]
  ·have hgr:=grown 0 (by omega) (Value.ownBlock (.slice none 0 0));have h63':¬(9223372036854775807<(S.size:Int)):=by omega
   have h48':¬(281474976710656<Builtin.nextslicecap S.size 0*i.bytes):=by rw[nextslicecap_zero (by omega)];simp only[uX]at hbytes;omega
   simp only[uX,vR,Array.empty_append]at hgr ⊢;refine⟨_,_,?_,hgr.1,hgr.2,Or.inr rfl⟩
   simp[Builtin.append_,run_underlying ht,run_underlying hu,sizeOf,typeInfo,zeroValue,hi,hz,hsize,Builtin.lenOf,hm,h63',h48',Question.forced,run_firstCells_none,hf,newRow,grownCap]
 ·by_cases hroom:n+S.size≤cap
  ·have hfit:n*1+news.length≤cur.size:=by rw[hnl,hcs];omega
   have hst:=run_storeCells_at P g (n*1) e news 0 cur w hg (by simpa using hfit) h1;simp only[Nat.add_zero]at hst;have hr:(Builtin.append_ #[t,u] ty #[.slice (some ⟨g,0,none⟩) n cap,.string S]).run P w =
    .ok (.slice (some ⟨g,0,none⟩) (n+S.size) cap) (w.setRow g (cur.toList.take (n*1)++news++cur.toList.drop (n*1+news.length)).toArray):=by
    simp only[Nat.mul_one]at hst ⊢;simp[Builtin.append_,run_underlying ht,run_underlying hu,sizeOf,typeInfo,hi,hsize,Builtin.lenOf,hroom,hf,Addr.add_lit,hst]
   refine⟨_,_,hr,⟨hlen,.inr ⟨g,cap,_,rfl,hbg,setRow_heap w g cur _ e _ hg,hroom,hcm,?_,?_⟩⟩,⟨rfl,rfl,rfl,by simp,fun k _ hk=>setRow_other w g k _ (fun e=>hk (by simp[Value.ownBlock,e]))⟩,Or.inl rfl⟩
   ·simp only[List.size_toArray,sF,tD,uG,vB];omega
   ·rw[htake,←hlen];exact List.take_left
  ·have holds:∀j u,xs[j]?=some u→w.cell? ((⟨g,0,none⟩:Addr).add j)=some u:=hown.cells (g:=g) rfl;have hfo:=run_firstCells_some (P:=P) w.drew 1 n ⟨g,0,none⟩ n cap xs hown.1 (by simpa using holds);have h63':¬(9223372036854775807<((n:Int)+(S.size:Int))):=by omega
   have h48':¬(281474976710656<Builtin.nextslicecap (n+S.size) cap*i.bytes):=by have:=growslice_fits (old:=cap) (need:=n+S.size) (bytes:=i.bytes) (by omega) hbytes;omega
   have hgr:=grown cap (by omega) (Value.ownBlock (.slice (some ⟨g,0,none⟩) n cap));refine⟨_,_,?_,hgr.1,hgr.2,Or.inr rfl⟩
   simp[Builtin.append_,run_underlying ht,run_underlying hu,sizeOf,typeInfo,zeroValue,hi,hz,hsize,Builtin.lenOf,hroom,h63',h48',Question.forced,hf,hfo,newRow,grownCap];congr 2;apply Array.ext';simp[sX]
end
theorem fN{P:Program}{w:World}{ops:Array Oper}{rest:List Oper}{o:Oper}{a:Act}{Q:Exit→Act→World→Prop}(hgd:o.guard=none)(s x:Operand)(t t2:TypeId)
 (ho:o.op=.call { callee:=.builtin .append,args:=#[s,x],argTypes:=#[t,t2] }) (v y:Value) (hs:a.eval s=v) (hx:a.eval x=y) (R:Value→World→Prop)
 (hr:∃v' w',(Builtin.append_ #[t,t2] o.type #[v,y]).run P w=.ok v' w'∧R v' w') (h:∀v' w',R v' w'→wpList P ops Q rest (a.put o.dst v') w'):wpList P ops Q (o::rest) a w :=
 wpList_plain hgd fun _ hK=>by
  obtain⟨v',w',hrun,hR⟩:=hr
  unfold Oper.wp execOp;simp only[ho,resolve,invoke,builtin,Sem.run_bind,Sem.run_pure,Result.andThen_ok,List.map_toArray,tU,wY,hs,hx,hrun];exact hK _ _ (h v' w' hR)
end
section
end
section
theorem reads_newC(wr:World)(t:TypeId)(l:List Value)(n:Nat)(hn:l.length=n)(cs:Array Value)(hcs:cs.toList=l)(H:Nat)(hH:wr.heap.size=H):aC (fun k=>k=H) (wr.alloc (.cells cs t)) 1 (some ⟨H,0,none⟩) n l:=by
 subst hH hn;refine⟨by simp,fun _=>⟨_,rfl,rfl,fun j u hu=>?_⟩⟩
 have e:((⟨wr.heap.size,0,none⟩:Addr).add j)=⟨wr.heap.size,j,none⟩:=by unfold Addr.add;split<;>simp_all
 have hb:(wr.alloc (.cells cs t)).heap[wr.heap.size]?=some (.cells cs t):=heap_alloc_new wr _;rw[e,cell_of_row _ _ j _ _ _ hb,←hu,←hcs];simp
end
section
def cQ(l:List UInt8)(most:Nat)(at_:Nat)(bad:Bool):Nat×Nat×Bool :=
 if bad then (0,at_,true) else
 match getN (l.drop at_) with
 |none=>(0,at_,true)
 |some (n,k)=>if n≤most then (n,at_+k,false) else (0,at_,true)
end
section
def lU(l:List UInt8)(at_:Nat)(bad:Bool):Int×Nat×Bool :=
 if bad then (0,at_,true) else
 match getS (l.drop at_) with
 |none=>(0,at_,true)
 |some (n,k)=>(n,at_+k,false)
theorem rdInt_bd{l:List UInt8}{at_:Nat}{bad:Bool}: -9223372036854775808≤(lU l at_ bad).1∧(lU l at_ bad).1≤9223372036854775807:=by
 unfold lU;split
 ·simp
 ·cases h:getS (l.drop at_) with
  |none=>simp
  |some x =>
   obtain⟨n,k⟩:=x
   unfold getS at h;cases hg:getN (l.drop at_) with
   |none=>rw[hg]at h;cases h
   |some y =>
    obtain⟨m,k'⟩:=y
    rw[hg]at h;simp only[vC,tW,uV]at h;obtain⟨rfl,_⟩:=h
    exact unzz_bd (getN_lt hg)
end
section
open Go
section
variable{P:Program}{ops:Array Oper}{md:Region.Mode}{w:World}
def mV(md:Region.Mode)(ops:Array Oper)(m n:Nat):Bool :=
 (List.range n).all fun i=>decide (i<m)||(List.range (n+1)).any fun j=>decide (i<j)&&Region.waitsFor md ops j i
theorem pF{m n:Nat}{listed:Array Bool}(hs:mV md ops m n=true)(hc:Region.chainB md ops n=true)(hn:n<ops.size)(inv:HeadInv md ops n listed):
 ∀(d i:Nat),n-i=d→m≤i→i<n→listed.getD i true=false→∀t,n≤t→t∉Region.ready md ops listed:=by
 intro d;induction d using Nat.strongRecOn with
 |_ d ih =>
  intro i hd hmi hi hun t ht hr;obtain⟨_,ot,hot,hall⟩:=mem_ready.1 hr
  have htlt:t<ops.size:=(vO.1 hot).1;by_cases htn:t=n
  ·subst htn;have h1:=tR.1 hs i (List.mem_range.2 hi);simp only[wX,tL]at h1;have h1:=h1.resolve_left (by omega);obtain⟨j,hj,hj2⟩:=wM.1 h1
   simp only[tJ,tL]at hj2;obtain⟨oj,hoj,e,he,hb,hon⟩:=Region.waitsFor_spec hj2.2
   have hjle:j≤t:=by have:=List.mem_range.1 hj;omega
   by_cases hjt:j=t
   ·subst hjt;have:oj=ot:=tK (hoj.symm.trans hot)
    subst this;have h2:=hall e he hb;rw[hon,getD_both hun]at h2;cases h2
   ·cases hl:listed.getD j false with
    |true =>
     have h2:=inv.closed j oj hoj hl e he hb;rw[hon,getD_both hun]at h2;cases h2
    |false =>
     have hjs:j<listed.size:=by rw[inv.size];omega
     exact ih (t-j) (by omega) j rfl (by omega) (by omega) (getD_in hjs hl) t (sB _) hr
  ·have h1:=tR.1 hc t (List.mem_range.2 htlt);simp only[wX,tL]at h1;rcases h1 with h1|h1
   ·omega
   ·obtain⟨o',ho',e,he,hb,hon⟩:=Region.waitsFor_spec h1
    have:o'=ot:=tK (ho'.symm.trans hot)
    subst this;have h2:=hall e he hb;rw[hon,getD_both (inv.tail (t-1) (by omega) (by omega))]at h2;cases h2
theorem wpAnyL_firstF{m n i:Nat}{oi:Oper}{v:Value}{L:Array Bool→Act→Prop}(hi:ops[i]?=some oi)(hsel:∀(j:Nat) (o:Oper) cs b,ops[j]?=some o→o.op≠.select cs b)
 (hs:mV md ops m n=true) (hc:Region.chainB md ops n=true) (hn:n<ops.size) (hin:i<n) (hmi:m≤i)
 (hdone:∀listed a,L listed a→∀j∈Region.ready md ops listed,n≤j) :
 ∀(f:Nat) (listed:Array Bool) (a:Act),HeadInv md ops n listed →
  (∀j oj,ops[j]?=some oj→j≠i→listed.getD j true=false→(∀e∈oj.after,Region.binds md e=true→e.on≠i)→oi.apart ops oj=true) →
  i∈Region.ready md ops listed→YieldsAt P ops w oi v a →
  wpAnyL P md ops w n L f (listed.setIfInBounds i true) (a.put oi.dst v)→wpAnyL P md ops w n L (f+1) listed a:=by
 intro f;induction f with
 |zero =>
  intro listed a inv _ hr hy H;have hun:=(mem_ready.1 hr).1;refine⟨fun h=>(by rw[h]at hr;cases hr),fun j hj=>?_⟩
  have hjn:j<n:=by
   rcases wI j n with h|h
   ·exact h
   ·exact absurd hj (pF hs hc hn inv _ i rfl hmi hin hun j h)
  refine⟨hjn,?_⟩
  by_cases hji:j=i
  ·subst hji;exact hy.stOp hi H
  ·have:=hdone _ _ H j (ready_mono hj hji)
   omega
 |succ f ih =>
  intro listed a inv hfree hr hy H;have hun:=(mem_ready.1 hr).1;refine⟨fun h=>(by rw[h]at hr;cases hr),fun j hj=>?_⟩
  have hjn:j<n:=by
   rcases wI j n with h|h
   ·exact h
   ·exact absurd hj (pF hs hc hn inv _ i rfl hmi hin hun j h)
  refine⟨hjn,?_⟩
  by_cases hji:j=i
  ·subst hji;exact hy.stOp hi H
  ·have h1:=(H.2 j (ready_mono hj hji)).2;obtain⟨hjun,oj,hoj,hall⟩:=mem_ready.1 hj
   have hnot:∀e∈oj.after,Region.binds md e=true→e.on≠i:=fun e he hb heq=>by
    have h1:=hall e he hb;rw[heq,getD_both hun]at h1;cases h1
   have h2:=stOp_put hoj (hfree j oj hoj hji hjun hnot) (fun cs b=>hsel i oi cs b hi) (fun cs b=>hsel j oj cs b hoj) hy h1;have hfree':∀k ok,ops[k]?=some ok→k≠i→(listed.setIfInBounds j true).getD k true=false →
    (∀e∈ok.after,Region.binds md e=true→e.on≠i)→oi.apart ops ok=true:=fun k ok hk hki hun hno=>by
    refine hfree k ok hk hki ?_ hno;by_cases hjk:j=k
    ·subst hjk;exact hjun
    ·rw[getD_set_ne true hjk]at hun;exact hun
   refine stOp_mono (fun a' h3=>ih (listed.setIfInBounds j true) a' (inv.set hj hjn) hfree' (ready_mono hr (Ne.symm hji)) h3.1 ?_) h2;rw[Array.setIfInBounds_comm _ _ hji];exact h3.2
theorem pE{m n g:Nat}{Lq:Act→Prop}(hsel:Region.noSelect ops=true)(hs:mV md ops m n=true)(hc:Region.chainB md ops n=true)(hn:n<ops.size):
 ∀(l:List Oper) (k:Nat) (listed:Array Bool) (a:Act),(∀j,j<l.length→l[j]?=ops[k+j]?)→k+l.length=n→m≤k→HeadInv md ops n listed →
 Region.lexHead md ops g l.length k listed=true→wpStill P ops w Lq l a →
 wpAnyL P md ops w n (fun listed' a'=>Region.seqB md ops g n listed'=true∧Lq a') l.length listed a
 | [],k,listed,a,_,hk,_,_,hB,h=>by
   have:k=n:=by simpa using hk
   subst this;exact⟨by simpa[Region.lexHead] using hB,h⟩
 |o::l,k,listed,a,hl,hk,hmk,inv,hB,h=>by
  have h0:ops[k]?=some o:=by simpa using (hl 0 (by simp)).symm
  simp only[sV,Region.lexHead,tJ]at hB;obtain⟨⟨hr,hf⟩,hB'⟩:=hB
  have hkn:k<n:=by simp only[sV]at hk;omega
  have hr':k∈Region.ready md ops listed:=by simpa using hr
  have hst:stOp P ops w k (wpStill P ops w Lq l) a:=by unfold stOp;simp only[h0];exact h
  obtain⟨v,hy,hK⟩:=yieldsAt_of_stOp h0 hst
  exact wpAnyL_firstF h0 (Region.noSelect_spec hsel) hs hc hn hkn hmk (fun listed' a' hL=>seqB_ready hL.1) l.length listed a inv (Region.free_spec h0 hf) hr' hy
   (pE hsel hs hc hn l (k+1) _ _ (fun j hj=>by have:=hl (j+1) (by simp;omega);simpa[tY,Nat.add_comm 1 j] using this) (by simp only[sV]at hk;omega) (by omega) (inv.set hr' hkn) hB' hK)
end
def moveTailB(md:Region.Mode)(ops:Array Oper)(n:Nat):Bool :=
 Region.noSelect ops&&decide (n<ops.size)&&decide (1≤n)&&mV md ops 1 n&&Region.chainB md ops n&&Region.free md ops (Array.replicate ops.size false) 0&&(Region.ready md ops (Array.replicate ops.size false)).contains 0 &&
  Region.lexHead md ops (ops.size-n) (n-1) 1 ((Array.replicate ops.size false).setIfInBounds 0 true)
theorem eB{P:Program}{id:Nat}{Q:Exit→Act→World→Prop}{a:Act}{w:World}{o:Oper}{l:List Oper}(n:Nat)(v:Value)(hm:P.follows .mixedOrders=true)(hB:moveTailB .any (o::l).toArray n=true)
 (hQ:∀c a w,Q (.panic c) (a.put o.dst v) w→Q (.panic c) a w) (hy:Yields P (o::l).toArray o v a)
 (h:wpStill P (o::l).toArray w.drew (fun a'=>wpList P (o::l).toArray Q (l.drop (n-1)) a' w.drew) (l.take (n-1)) (a.put o.dst v)):(Code.region id (o::l).toArray true).wp P Q a w:=by
 simp only[moveTailB,tJ,tL]at hB;obtain⟨⟨⟨⟨⟨⟨⟨hsel,hn⟩,hn1⟩,hs⟩,hc⟩,hf⟩,hr⟩,hlex⟩:=hB
 have hn':n<l.length+1:=by simpa using hn
 have hsz:(o::l).toArray.size=l.length+1:=by simp
 have inv0:HeadInv .any (o::l).toArray n (Array.replicate (o::l).toArray.size false) :=
  ⟨by simp,fun j oj _ hl=>(by rw[getD_replicate_false]at hl;cases hl),fun t _ ht=>getD_in (by simpa using ht) (getD_replicate_false _ _)⟩
 have hr':0∈Region.ready .any (o::l).toArray (Array.replicate (o::l).toArray.size false):=by simpa using hr
 have inv1:=inv0.set hr' (by omega);have htl:(l.take (n-1)).length=n-1:=by simp;omega
 have hdl:(l.drop (n-1)).length=(o::l).toArray.size-n:=by simp;omega
 have H:=pE (md:=.any) (w:=w.drew) (m:=1) (g:=(o::l).toArray.size-n) hsel hs hc hn (l.take (n-1)) 1 _ _ (fun j hj=>by
  have hj':j<n-1:=by rw[htl]at hj;exact hj
  rw[List.getElem?_take_of_lt hj',show 1+j=j+1 from by omega];simp) (by rw[htl];omega) (sB _) inv1 (by rw[htl];exact hlex) h
 refine wp_region_any hm ?_;have:=wpAny_of_head (Q':=Q) (g:=(o::l).toArray.size-n) (fun listed a' hL=>by
  have:=wpAny_of_seq (md:=.any) (Q':=Q) (l.drop (n-1)) n listed a' w.drew (fun j=>by
   rw[wC,show n+j=(n-1+j)+1 from by omega];simp) (by rw[hdl];exact hL.1) hL.2
  rwa [hdl]at this) _ _ _ H
 rw[htl,show n-1+((o::l).toArray.size-n)=l.length from by rw[hsz];omega]at this;show wpAny P .any (o::l).toArray Q (o::l).toArray.size _ a w.drew;rw[hsz];rw[hsz]at this hf hr;exact wpAny_take (i:=0) (oi:=o) (by simp) hsel hf hr hQ hy this
end
end Go.Proofs.YtjhkcbideddlgaaGreat
