import Derived.Test.YtmpkejflgpodkaaGreatDoorRows
import Derived.WalkKit
import Derived.ProofKit
import Derived.OpenShut
import Derived.Below
import Derived.Carry
import Derived.ChangeSame
import Derived.Deep.Slices
import Derived.Laws.OwnMore
import Derived.Deep.AppendLies
import Derived.Deep.Draws
import Derived.Laws.Rows
import Derived.Maps.AppendAt
import Derived.RegionTactic
import Derived.OwnWalk
import Derived.Laws.BitsAllLaws
import Derived.Laws.BitsLemmas
import Derived.Laws.Bits64
import Derived.Laws.IdiomStrings
import Derived.Laws.BytesArg
import Derived.WalkLawsBesides
import Derived.WalkSpells
import Derived.BigQuiet
import Derived.Deep.QuietTactic
import Derived.Deep.RegionHeld3
import Derived.Lib.Hide
import Derived.LoopTactic
import Derived.StillTailTactics
import Derived.Deep.DeepFit
import Derived.Deep.RegionWith
set_option maxHeartbeats 4000000
set_option maxRecDepth 20000
set_option linter.unusedVariables false
set_option linter.unusedSimpArgs false
namespace Go.Proofs.YtmpkejflgpodkaaGreatDoor
open Go.ChangeShapes Go.WideShapes Go.ChangeAt Go.RowKit Go.Proofs.Tryz
variable{B cur f fuel:Nat}{M:Nat→Prop}{Q:Exit→Act→World→Prop}{W W' a b:World}{e:TypeId}{listed:Array Bool}{o':Option Nat}{oi:Oper}{pre:List UInt8}{r:List Value}{v1 v2 v3 v4 v5 v6:Value}{x:Int}
theorem QQ{p:Prop}(h:p:=by kernel_rfl):p:=h
theorem QZ{p:Prop}(h:p:=by omega):p:=h
theorem QM{p:Prop}(h:p:=by simp):p:=h
theorem QX{α:Type}(e:α):∃x,e=x:=⟨_,rfl⟩
instance:Coe Int Value:=⟨.int .i64⟩
instance:Coe ByteArray Value:=⟨.string⟩
instance:Coe Bool Value:=⟨.bool⟩
instance:Coe Nat Value:=⟨fun n=>.int .i64 n⟩
instance:Coe World Nat:=⟨fun w=>w.heap.size⟩
section
open Go.ChangeShapes Go.WideShapes Go.ChangeAt Go.RowKit Go.Deep
section
variable{H:Type}{enc:TypeId×Value→H}{P:Program}
theorem pV(hl:laidOutB P=true)(hb:Below W W W')(sp:Nat→Bool):
 ∀(ts:List TypeId) (vs:List Value) (ds:List (DataW H)) (ps:List MemPlace),(∀t∈ts,P.readableRec t=true∧t<P.types.size) →
  DataW.TrodAll enc P W 0 (fun _=>true) true ts vs ds ps→(∀x∈ps,x.block<W.heap.size)→(∀x∈ps,sp x.block=true)→DataW.TrodAll enc P W' 0 sp true ts vs ds ps
 | [],vs,ds,ps,_,h,_,_=>by
   obtain⟨rfl,rfl,rfl⟩:=trodAll_nil h
   exact trodAll_mk0
 |t::ts,vs,ds,ps,hr,h,hlt,hs=>by
  obtain⟨v,vs',d,ds',p,q,rfl,rfl,rfl,h1,h2⟩:=trodAll_cons h
  have ht:=hr t QM;refine trodAll_cons_mk (WideElems.Trod_stays hl ht.1 ht.2 h1 (fun x hx=>hb.same (hlt x (by simp[hx]))) (fun x hx=>hs x (by simp[hx]))) ?_;exact pV hl hb sp ts vs' ds' q (fun t' h'=>hr t' (by simp[h'])) h2 (fun x hx=>hlt x (by simp[hx])) (fun x hx=>hs x (by simp[hx]))
theorem post_of_below{f:Func}{s:ChangeSpec}{apart fresh handsOn again:Bool}{args:Array Value}{v:Value}{ds gs:List (DataW H)}{before pa pv:List MemPlace} (hW:DataW.Whole enc P f.params.toList s.vars apart W args.toList ds gs before) (hres:∀(b:Nat) (sp:Nat→Bool) (hd:Bool),DataW.TrodAll enc P W' b sp hd f.resultTypes.toList (v.resultList f.resultTypes.size) (s.fn H (ds++gs)).results []) (hargs:∀sp:Nat→Bool,(∀p∈before,sp p.block=true)→DataW.TrodAll enc P W' 0 sp true f.params.toList args.toList (s.fn H (ds++gs)).args pa) (hvars:∀sp:Nat→Bool,(∀p∈before,sp p.block=true)→DataW.TrodVars enc P W' sp s.vars (s.fn H (ds++gs)).vars pv) (hps:before=pa++pv) (hb:Below W W W') (hok:∀(j:Nat) (t:TypeId) (r:Value),f.resultTypes[j]?=some t→(v.resultList f.resultTypes.size)[j]?=some r→Value.okWide P W' .any 0 t r) : s.post enc P f apart fresh handsOn again W args v W':=by have hlt:∀p∈before,p.block<W.heap.size:=fun p hp=>hW.lt p hp;have hold:∀p∈before,(fun b=>decide (b<W.heap.size)) p.block=true:=fun p hp=>(by simpa using hlt p hp);refine⟨ds,gs,before,[],pa,pv,hW,hres _ _ _,hargs _ hold,hvars _ hold,World.keptBut_mono (fun p hp=>⟨hp,?_⟩) (hb.frame (·∈before)),fun _=>?_⟩;(·rw[hps,List.mem_append]at hp;exact Or.inr hp);(·obtain⟨_,_,_,_,_,hz,hn⟩:=hW;refine⟨hok,_,_,([]++pa)++pv,⟨[]++pa,pv,trodAll_append (hargs _ (fun _ _=>rfl)) (hres _ _ _),hvars _ (fun _ _=>rfl),rfl,?_,?_⟩,?_⟩;(·intro b off hp;have hin:MemPlace.cell b off∈before:=(by rw[hps];simpa using hp);rw[hb.frozen (hlt _ hin)];exact hz b off hin);(·intro ha;have:=hn ha;rw[hps]at this;simpa using this);(·intro p hp _;rw[hps];simpa using hp))
theorem law_post{f:Func}{s:ChangeSpec}{apart fresh handsOn again:Bool}{args:Array Value}{ds gs:List (DataW H)}{before:List MemPlace}{tb:TypeId} (hl:laidOutB P=true) (hread:(f.params.toList.all fun t=>P.readableRec t&&decide (t<P.types.size))=true) (hres:f.resultTypes=#[tb]) (htb:P.underlying tb=some .bool) (hvars:s.vars=[]) (hs:(s.fn H ds).results=[.lit (.bool true)]∧(s.fn H ds).args=ds∧(s.fn H ds).vars=[]) (hW:DataW.Whole enc P f.params.toList s.vars apart W args.toList ds gs before) (hb:Below W W W') : ∃v,Ending.returned (.bool true)=.returned v∧s.post enc P f apart fresh handsOn again W args v W':=by have hW':=hW;obtain⟨p,q,hA,hV,rfl,hz,hn⟩:=hW;rw[hvars]at hV;obtain⟨rfl,rfl⟩:=trodVars_none hV;refine⟨_,rfl,post_of_below (pa:=p) (pv:=[]) hW' ?_ ?_ ?_ rfl hb ?_⟩;(·intro b sp hd;rw[List.append_nil,hs.1,hres];exact trodAll_cons_mk (shut_bool htb true) trodAll_mk0);(·intro sp hsp;rw[List.append_nil,hs.2.1];refine pV hl hb sp _ _ _ _ (fun t ht=>?_) hA (fun x hx=>hW'.lt x (by simp[hx])) (fun x hx=>hsp x (by simp[hx]));have:=List.all_eq_true.1 hread t ht;simpa using this);(·intro sp _;rw[List.append_nil,hs.2.2,hvars];rfl);(·exact ok_one hres rfl (okWide_bool_mk htb true))
end
theorem own:ownKnob prog.godebug=none:=by kernel_rfl
theorem laidOut:laidOutB prog=true:=by kernel_rfl
end
section
open Go.RowKit
/-! what stays -/
def lE(D:Nat→Prop)(w w':World):Prop:=∀k,D k→w'.heap[k]?=w.heap[k]?
theorem lE.cell{D:Nat→Prop}{w w':World}(h:lE D w w'){p:Addr}(hp:D p.block):w'.cell? p=w.cell? p:=World.cell?_of_block (w:=w) (h p.block hp)
structure Chg(M:Nat→Prop)(w w':World):Prop where
 os:w'.os=w.os
 tape:w'.tape=w.tape
 output:w'.output=w.output
 size:w.heap.size≤w'.heap.size
 block:∀k,k<w.heap.size→¬M k→w'.heap[k]?=w.heap[k]?
theorem Chg.refl(w:World):Chg M w w:=⟨rfl,rfl,rfl,Nat.le_refl _,fun _ _ _=>rfl⟩
theorem Chg.trans{M':Nat→Prop}{c:World}(h:Chg M a b)(k:Chg M' b c)(hm:∀i,i<a.heap.size→M' i→M i):Chg M a c :=
 ⟨k.os.trans h.os,k.tape.trans h.tape,k.output.trans h.output,Nat.le_trans h.size k.size,fun i hi hn=>(k.block i (Nat.lt_of_lt_of_le hi h.size) (fun e=>hn (hm i hi e))).trans (h.block i hi hn)⟩
theorem Chg.mono{M':Nat→Prop}(h:Chg M a b)(hm:∀i,i<a.heap.size→M i→M' i):Chg M' a b :=
 ⟨h.os,h.tape,h.output,h.size,fun i hi hn=>h.block i hi (fun e=>hn (hm i hi e))⟩
theorem Chg.drew{w:World}(h:Chg M a w):Chg M a w.drew:=⟨h.os,h.tape,h.output,h.size,h.block⟩
theorem Chg.drewN_{w:World}(h:Chg M a w)(n:Nat):Chg M a (w.drewN n):=⟨h.os,h.tape,h.output,h.size,h.block⟩
theorem Chg.alloc{w:World}(h:Chg M a w)(o:Obj):Chg M a (w.alloc o) :=
 ⟨h.os,h.tape,h.output,Nat.le_trans h.size QM,fun i hi hn=>(Below.heap_alloc w o i (Nat.lt_of_lt_of_le hi h.size)).trans (h.block i hi hn)⟩
theorem Chg.setCell{w:World}(h:Chg M a w){p:Addr}(hp:M p.block∨a.heap.size≤p.block)(u:Value):Chg M a (w.setCell p u) :=
 ⟨h.os,h.tape,h.output,by simpa[World.setCell] using h.size,fun i hi hn=>(Below.heap_setCell w p u i (by
  rintro rfl;rcases hp with hp|hp
  ·exact hn hp
  ·omega)).trans (h.block i hi hn)⟩
theorem Chg.grown{w w':World}{row:Option Nat}(h:Chg M a w)(hg:w.grownBy w' row)(hr:∀g,row=some g→M g∨a.heap.size≤g):Chg M a w' :=
 ⟨hg.os.trans h.os,hg.tape.trans h.tape,hg.output.trans h.output,Nat.le_trans h.size hg.size,fun i hi hn=>(hg.block i (Nat.lt_of_lt_of_le hi h.size) (fun e=>by
  rcases hr i e.symm with h1|h1
  ·exact hn h1
  ·omega)).trans (h.block i hi hn)⟩
theorem Chg.of_below{w w':World}(h:Below w w w'): Chg M w w':=⟨h.os,h.tape,h.output,h.size,fun k hk _=>h.block k hk⟩
theorem Chg.below{w w':World}(h:Chg M w w')(hB:B≤w.heap.size)(hM:∀k,M k→B≤k):Below B w w' :=
 ⟨h.os,h.tape,h.output,h.size,fun k hk=>h.block k QZ (fun e=>by have:=hM k e;omega)⟩
theorem Chg.keeps{D:Nat→Prop}{w w':World}(h:Chg M w w')(hd:∀k,D k→k<w.heap.size∧¬M k):lE D w w':=fun k hk=>h.block k (hd k hk).1 (hd k hk).2
theorem Below.keeps{w w':World}(h:Below B w w'):lE (· < B) w w':=fun k hk=>h.block k hk
theorem gN(a:Addr)(n:Nat):(a.add n).block=a.block:=by unfold Addr.add;split<;>rfl
theorem rC(a:Addr)(i j:Nat):(a.add i).add j=a.add (i+j):=by unfold Addr.add;by_cases hi:i=0<;>by_cases hj:j=0<;>simp[hi,hj,Nat.add_assoc]
/-! a slice '.slice A n c' that reads as the cells xs ('size' cells an element), in blocks of D -/
def aA(D:Nat→Prop)(w:World)(size:Nat)(A:Option Addr)(n:Nat)(xs:List Value):Prop :=
 xs.length=n*size∧(0<n→∃ad,A=some ad∧D ad.block∧∀j u,xs[j]?=some u→w.cell? (ad.add j)=some u)
section
variable{D D':Nat→Prop}{w w':World}{size n:Nat}{A:Option Addr}{xs:List Value}
theorem aA.none_{A:Option Addr}: aA D w size A 0 []:=⟨by simp,fun h=>absurd h QZ⟩
theorem aA.keep(h:aA D w size A n xs)(hk:lE D w w'):aA D w' size A n xs :=
 ⟨h.1,fun hn=>by
  obtain⟨ad,e,hb,hc⟩:=h.2 hn
  exact⟨ad,e,hb,fun j u hu=>(hk.cell (by rw[gN];exact hb)).trans (hc j u hu)⟩⟩
theorem aA.more(h:aA D w size A n xs)(hD:∀k,D k→D' k):aA D' w size A n xs :=
 ⟨h.1,fun hn=>by
  obtain⟨ad,e,hb,hc⟩:=h.2 hn
  exact⟨ad,e,hD _ hb,hc⟩⟩
theorem aA.cut(h:aA D w size A n xs){k cap:Nat}(hk:k≤n)(hc:n≤cap): aA D w size (if cap=k then A else A.map (·.add (k*size))) (n-k) (xs.drop (k*size)):=by refine⟨by rw[List.length_drop,h.1,Nat.sub_mul],fun hn=>?_⟩;obtain⟨ad,rfl,hb,hcell⟩:=h.2 QZ;rw[if_neg QZ];refine⟨ad.add (k*size),rfl,by rw[gN];exact hb,fun j u hu=>?_⟩;rw[rC];exact hcell _ u (by rw[←hu,List.getElem?_drop])
theorem aA.take(h:aA D w size A n xs){k:Nat}(hk:k≤n):aA D w size A k (xs.take (k*size)):=by refine⟨by rw[List.length_take,h.1];exact Nat.min_eq_left (Nat.mul_le_mul_right _ hk),fun hn=>?_⟩;obtain⟨ad,rfl,hb,hcell⟩:=h.2 QZ;refine⟨ad,rfl,hb,fun j u hu=>hcell j u ?_⟩;rw[List.getElem?_take]at hu;split at hu;(·exact hu);(·cases hu)
theorem aA.at_(h:aA D w size A n xs)(hn:0<n)(hs:0<size):∃b off,A=some ⟨b,off,none⟩∧D b∧∀j u,xs[j]?=some u→w.cell? ⟨b,off+j,none⟩=some u:=by obtain⟨ad,rfl,hb,hc⟩:=h.2 hn;have hx:0<xs.length:=(by rw[h.1];exact Nat.mul_pos hn hs);have h0:=hc 0 _ (List.getElem?_eq_getElem hx);have hsp:ad.spot=none:=(by simpa[Addr.add] using World.cell?_spot h0);obtain⟨b,off,sp⟩:=ad;simp only at hsp;subst hsp;refine⟨b,off,rfl,hb,fun j u hu=>?_⟩;have:=hc j u hu;unfold Addr.add at this;split at this;(·rename_i e;rw[e];exact this);(·exact this)
theorem aA.of_own{base:Nat}{v:Value}(h:w.ownsRow base e size v n xs):∃A c,v=.slice A n c∧n≤c∧c≤maxLen∧aA (fun k=>v.ownBlock=some k) w size A n xs:=by rcases h.2 with⟨rfl,h0⟩|⟨g,cap,cur,rfl,hbg,hg,hnc,hcm,hcs,ht⟩;(·subst h0;exact⟨none,0,rfl,Nat.le_refl _,by simp[maxLen],h.1,fun hn=>absurd hn QZ⟩);(·exact⟨_,cap,rfl,hnc,hcm,h.1,fun _=>⟨_,rfl,by simp[Value.ownBlock],h.cells (g:=g) rfl⟩⟩)
end
/-! a block that is known whole -/
def Blk(w:World)(g:Nat)(t:TypeId)(cs:Array Value):Prop:=w.heap[g]?=some (.cells cs t (0,0))
section
variable{w w':World}{g:Nat}{t:TypeId}{cs:Array Value}
theorem Blk.lt(h:Blk w g t cs):g<w.heap.size:=by rcases Nat.lt_or_ge g w.heap.size with hlt|hge;(·exact hlt);(·unfold Blk at h;rw[Array.getElem?_eq_none hge]at h;cases h)
theorem Blk.cell(h:Blk w g t cs)(i:Nat):w.cell? ⟨g,i,none⟩=cs[i]?:=cell_of_row w g i cs t (0,0) h
theorem Blk.frozen(h:Blk w g t cs)(i:Nat):w.frozen? ⟨g,i,none⟩=false:=by unfold Blk at h;simp[World.frozen?,h]
theorem Blk.new(w:World)(t:TypeId)(cs:Array Value):Blk (w.alloc (.cells cs t)) w.heap.size t cs:=heap_alloc_new w _
theorem Blk.keep(h:Blk w g t cs)(hk:w'.heap[g]?=w.heap[g]?):Blk w' g t cs:=hk.trans h
theorem Blk.drew(h:Blk w g t cs):Blk w.drew g t cs:=h
theorem Blk.alloc(h:Blk w g t cs)(o:Obj):Blk (w.alloc o) g t cs:=(Below.heap_alloc w o g h.lt).trans h
theorem Blk.set_(h:Blk w g t cs)(i:Nat)(u:Value):Blk (w.setCell ⟨g,i,none⟩ u) g t (cs.setIfInBounds i u):=by unfold Blk at h ⊢;simp[World.setCell,Array.getElem?_modify,h]
theorem Blk.far(h:Blk w g t cs){p:Addr}(hp:g≠p.block)(u:Value):Blk (w.setCell p u) g t cs:=(Below.heap_setCell w p u g hp).trans h
theorem Blk.ne_{g':Nat}{t':TypeId}{cs':Array Value}(h:Blk w g t cs)(h':Blk w g' t' cs')(hne:t≠t'):g≠g':=by rintro rfl;unfold Blk at h h';rw[h]at h';injection h' with h';injection h' with _ ht;exact hne ht
theorem fS{base:Nat}{size n:Nat}{v:Value}{xs:List Value}(h:w.ownsRow base e size v n xs)(hg:Blk w g t cs)(hne:e≠t):v.ownBlock≠some g:=by rcases h.2 with⟨rfl,_⟩|⟨g',cap,cur,rfl,_,hh,_⟩;(·simp[Value.ownBlock]);(·intro he;have:g'=g:=(by simpa[Value.ownBlock] using he);subst this;exact Blk.ne_ (t:=e) hh hg hne rfl)
end
theorem ce2{w:World}{g:Nat}{t:TypeId}{v0:Value}(h:Blk w g t (v0::v1::r).toArray):w.cell? ⟨g,0,none⟩=some v0∧w.cell? ⟨g,1,none⟩=some v1 :=
 ⟨h.cell 0,h.cell 1⟩
theorem ce3{w:World}{g:Nat}{t:TypeId}{v0:Value}(h:Blk w g t (v0::v1::v2::r).toArray):w.cell? ⟨g,0,none⟩=some v0∧w.cell? ⟨g,1,none⟩=some v1∧w.cell? ⟨g,2,none⟩=some v2 :=
 ⟨h.cell 0,h.cell 1,h.cell 2⟩
theorem ce4{w:World}{g:Nat}{t:TypeId}{v0:Value}(h:Blk w g t (v0::v1::v2::v3::r).toArray):w.cell? ⟨g,0,none⟩=some v0∧w.cell? ⟨g,1,none⟩=some v1∧w.cell? ⟨g,2,none⟩=some v2∧w.cell? ⟨g,3,none⟩=some v3 :=
 ⟨h.cell 0,h.cell 1,h.cell 2,h.cell 3⟩
theorem ce5{w:World}{g:Nat}{t:TypeId}{v0:Value}(h:Blk w g t (v0::v1::v2::v3::v4::r).toArray):w.cell? ⟨g,0,none⟩=some v0∧w.cell? ⟨g,1,none⟩=some v1∧w.cell? ⟨g,2,none⟩=some v2∧w.cell? ⟨g,3,none⟩=some v3∧w.cell? ⟨g,4,none⟩=some v4 :=
 ⟨h.cell 0,h.cell 1,h.cell 2,h.cell 3,h.cell 4⟩
theorem ce7{w:World}{g:Nat}{t:TypeId}{v0:Value}(h:Blk w g t (v0::v1::v2::v3::v4::v5::v6::r).toArray):w.cell? ⟨g,0,none⟩=some v0∧w.cell? ⟨g,1,none⟩=some v1∧w.cell? ⟨g,2,none⟩=some v2∧w.cell? ⟨g,3,none⟩=some v3∧w.cell? ⟨g,4,none⟩=some v4∧w.cell? ⟨g,5,none⟩=some v5∧w.cell? ⟨g,6,none⟩=some v6 :=
 ⟨h.cell 0,h.cell 1,h.cell 2,h.cell 3,h.cell 4,h.cell 5,h.cell 6⟩
theorem ce13{w:World}{g:Nat}{t:TypeId}{v0 v7 v8 v9 v10 v11 v12:Value}(h:Blk w g t (v0::v1::v2::v3::v4::v5::v6::v7::v8::v9::v10::v11::v12::r).toArray):w.cell? ⟨g,0,none⟩=some v0∧w.cell? ⟨g,1,none⟩=some v1∧w.cell? ⟨g,2,none⟩=some v2∧w.cell? ⟨g,3,none⟩=some v3∧w.cell? ⟨g,4,none⟩=some v4∧w.cell? ⟨g,5,none⟩=some v5∧w.cell? ⟨g,6,none⟩=some v6∧w.cell? ⟨g,7,none⟩=some v7∧w.cell? ⟨g,8,none⟩=some v8∧w.cell? ⟨g,9,none⟩=some v9∧w.cell? ⟨g,10,none⟩=some v10∧w.cell? ⟨g,11,none⟩=some v11∧w.cell? ⟨g,12,none⟩=some v12 :=
 ⟨h.cell 0,h.cell 1,h.cell 2,h.cell 3,h.cell 4,h.cell 5,h.cell 6,h.cell 7,h.cell 8,h.cell 9,h.cell 10,h.cell 11,h.cell 12⟩
theorem ce15{w:World}{g:Nat}{t:TypeId}{v0 v7 v8 v9 v10 v11 v12 v13 v14:Value}(h:Blk w g t (v0::v1::v2::v3::v4::v5::v6::v7::v8::v9::v10::v11::v12::v13::v14::r).toArray):w.cell? ⟨g,0,none⟩=some v0∧w.cell? ⟨g,1,none⟩=some v1∧w.cell? ⟨g,2,none⟩=some v2∧w.cell? ⟨g,3,none⟩=some v3∧w.cell? ⟨g,4,none⟩=some v4∧w.cell? ⟨g,5,none⟩=some v5∧w.cell? ⟨g,6,none⟩=some v6∧w.cell? ⟨g,7,none⟩=some v7∧w.cell? ⟨g,8,none⟩=some v8∧w.cell? ⟨g,9,none⟩=some v9∧w.cell? ⟨g,10,none⟩=some v10∧w.cell? ⟨g,11,none⟩=some v11∧w.cell? ⟨g,12,none⟩=some v12∧w.cell? ⟨g,13,none⟩=some v13∧w.cell? ⟨g,14,none⟩=some v14 :=
 ⟨h.cell 0,h.cell 1,h.cell 2,h.cell 3,h.cell 4,h.cell 5,h.cell 6,h.cell 7,h.cell 8,h.cell 9,h.cell 10,h.cell 11,h.cell 12,h.cell 13,h.cell 14⟩
theorem uR:type_of% @List.takeWhile_append_dropWhile:=@List.takeWhile_append_dropWhile
theorem vT:type_of% @List.eq_nil_of_length_eq_zero:=@List.eq_nil_of_length_eq_zero
theorem xL:type_of% @List.count_eq_zero_of_not_mem:=@List.count_eq_zero_of_not_mem
theorem wI:type_of% @Array.getD_eq_getD_getElem?:=@Array.getD_eq_getD_getElem?
theorem sA:type_of% @List.setIfInBounds_toArray:=@List.setIfInBounds_toArray
theorem tQ:type_of% @List.getElem?_append_right:=@List.getElem?_append_right
theorem vR:type_of% @List.length_eraseIdx_of_lt:=@List.length_eraseIdx_of_lt
theorem wA:type_of% @Array.getElem?_eq_some_iff:=@Array.getElem?_eq_some_iff
theorem sI:type_of% @List.getElem?_eq_some_iff:=@List.getElem?_eq_some_iff
theorem tR:type_of% @List.getElem?_append_left:=@List.getElem?_append_left
theorem uC:type_of% @List.drop_eq_getElem_cons:=@List.drop_eq_getElem_cons
theorem uQ:type_of% @List.mem_of_find?_eq_some:=@List.mem_of_find?_eq_some
theorem wZ:type_of% @List.findIdx?_eq_none_iff:=@List.findIdx?_eq_none_iff
theorem sG:type_of% @List.getElem?_eq_getElem:=@List.getElem?_eq_getElem
theorem xH:type_of% @World.cell?_setCells_out:=@World.cell?_setCells_out
theorem sK:type_of% @World.block_lt_of_cell?:=@World.block_lt_of_cell?
theorem uO:type_of% @List.length_eq_zero_iff:=@List.length_eq_zero_iff
theorem uY:type_of% @List.filter_cons_of_neg:=@List.filter_cons_of_neg
theorem vB:type_of% @List.filter_cons_of_pos:=@List.filter_cons_of_pos
theorem wT:type_of% @List.getElem?_cons_succ:=@List.getElem?_cons_succ
theorem xZ:type_of% @World.frozen?_alloc_old:=@World.frozen?_alloc_old
theorem sS:type_of% @List.take_of_length_le:=@List.take_of_length_le
theorem vL:type_of% @List.drop_of_length_le:=@List.drop_of_length_le
theorem wK:type_of% @World.frozen?_setCells:=@World.frozen?_setCells
theorem wV:type_of% @Array.getElem!_eq_getD:=@Array.getElem!_eq_getD
theorem xP:type_of% @World.ownsRow.frozenAt:=@World.ownsRow.frozenAt
theorem yD:type_of% @List.getElem_cons_drop:=@List.getElem_cons_drop
theorem yE:type_of% @Array.getElem?_eq_none:=@Array.getElem?_eq_none
theorem tW:type_of% @List.getElem?_eq_none:=@List.getElem?_eq_none
theorem uM:type_of% @List.mem_append_right:=@List.mem_append_right
theorem uV:type_of% @List.take_append_drop:=@List.take_append_drop
theorem vE:type_of% @List.length_filter_le:=@List.length_filter_le
theorem wP:type_of% @List.length_singleton:=@List.length_singleton
theorem wQ:type_of% @Array.getElem?_toList:=@Array.getElem?_toList
theorem xB:type_of% @List.eq_nil_or_concat:=@List.eq_nil_or_concat
theorem xD:type_of% @List.concat_eq_append:=@List.concat_eq_append
theorem xS:type_of% @Bool.and_eq_false_iff:=@Bool.and_eq_false_iff
theorem yF:type_of% @List.eraseIdx_sublist:=@List.eraseIdx_sublist
theorem sM:type_of% @List.mem_of_getElem?:=@List.mem_of_getElem?
theorem sU:type_of% @World.cell?_of_block:=@World.cell?_of_block
theorem tP:type_of% @List.mem_append_left:=@List.mem_append_left
theorem tX:type_of% @World.cell?_alloc_lt:=@World.cell?_alloc_lt
theorem tZ:type_of% @List.mem_cons_of_mem:=@List.mem_cons_of_mem
theorem wS:type_of% @World.ownsRow.cellAt:=@World.ownsRow.cellAt
theorem xJ:type_of% @List.mem_of_mem_take:=@List.mem_of_mem_take
theorem xV:type_of% @List.getElem?_of_mem:=@List.getElem?_of_mem
theorem yK:type_of% @Nat.mul_le_mul_right:=@Nat.mul_le_mul_right
theorem yM:type_of% @Nat.div_lt_of_lt_mul:=@Nat.div_lt_of_lt_mul
theorem yN:type_of% @List.pairwise_append:=@List.pairwise_append
theorem tI:type_of% @List.take_succ_cons:=@List.take_succ_cons
theorem tM:type_of% @List.drop_succ_cons:=@List.drop_succ_cons
theorem uG:type_of% @List.mem_map_of_mem:=@List.mem_map_of_mem
theorem uH:type_of% @List.flatMap_append:=@List.flatMap_append
theorem uU:type_of% @Array.length_toList:=@Array.length_toList
theorem uZ:type_of% @List.map_congr_left:=@List.map_congr_left
theorem vY:type_of% @ByteArray.toList_eq:=@ByteArray.toList_eq
theorem wH:type_of% @List.getElem_of_mem:=@List.getElem_of_mem
theorem wM:type_of% @List.reverse_append:=@List.reverse_append
theorem wN:type_of% @List.map_eq_nil_iff:=@List.map_eq_nil_iff
theorem wO:type_of% @List.filter_eq_self:=@List.filter_eq_self
theorem wW:type_of% @List.filter_sublist:=@List.filter_sublist
theorem wX:type_of% @Int.toNat_of_nonneg:=@Int.toNat_of_nonneg
theorem xX:type_of% @List.takeWhile_cons:=@List.takeWhile_cons
theorem xY:type_of% @List.getElem?_range:=@List.getElem?_range
theorem sB:type_of% @List.set_cons_succ:=@List.set_cons_succ
theorem sC:type_of% @List.set_cons_zero:=@List.set_cons_zero
theorem sF:type_of% @List.length_append:=@List.length_append
theorem sH:type_of% @Nat.lt_of_lt_of_le:=@Nat.lt_of_lt_of_le
theorem sV:type_of% @List.mem_singleton:=@List.mem_singleton
theorem tE:type_of% @List.mem_cons_self:=@List.mem_cons_self
theorem tF:type_of% @Below.heap_setCell:=@Below.heap_setCell
theorem uN:type_of% @Option.toList_some:=@Option.toList_some
theorem vA:type_of% @List.filter_append:=@List.filter_append
theorem vH:type_of% @Nat.eq_zero_or_pos:=@Nat.eq_zero_or_pos
theorem vI:type_of% @List.find?_eq_none:=@List.find?_eq_none
theorem vO:type_of% @List.pairwise_cons:=@List.pairwise_cons
theorem vP:type_of% @Bool.false_eq_true:=@Bool.false_eq_true
theorem vW:type_of% @List.append_of_mem:=@List.append_of_mem
theorem xE:type_of% @List.getElem?_drop:=@List.getElem?_drop
theorem xG:type_of% @Array.extract_size:=@Array.extract_size
theorem sY:type_of% @List.take_add_one:=@List.take_add_one
theorem tA:type_of% @List.append_assoc:=@List.append_assoc
theorem tK:type_of% @decide_eq_true_eq:=@decide_eq_true_eq
theorem tY:type_of% @World.drewN_drewN:=@World.drewN_drewN
theorem uA:type_of% @List.flatMap_cons:=@List.flatMap_cons
theorem uE:type_of% @List.nodup_append:=@List.nodup_append
theorem uK:type_of% @Option.some.injEq:=@Option.some.injEq
theorem uL:type_of% @List.getElem?_map:=@List.getElem?_map
theorem uW:type_of% @Value.slice.injEq:=@Value.slice.injEq
theorem vC:type_of% @List.pairwise_map:=@List.pairwise_map
theorem xM:type_of% @List.foldl_append:=@List.foldl_append
theorem xN:type_of% @List.filter_congr:=@List.filter_congr
theorem xW:type_of% @List.find?_append:=@List.find?_append
theorem yG:type_of% @World.ownsRow_lit:=@World.ownsRow_lit
theorem yH:type_of% @Result.andThen_ok:=@Result.andThen_ok
theorem yI:type_of% @Option.mem_toList:=@Option.mem_toList
theorem yJ:type_of% @List.size_toArray:=@List.size_toArray
theorem sN:type_of% @List.length_cons:=@List.length_cons
theorem sW:type_of% @World.size_alloc:=@World.size_alloc
theorem sX:type_of% @Below.heap_alloc:=@Below.heap_alloc
theorem tH:type_of% @List.length_take:=@List.length_take
theorem tL:type_of% @Bool.and_eq_true:=@Bool.and_eq_true
theorem uF:type_of% @List.all_eq_true:=@List.all_eq_true
theorem uJ:type_of% @List.not_mem_nil:=@List.not_mem_nil
theorem vD:type_of% @List.mem_reverse:=@List.mem_reverse
theorem vJ:type_of% @List.length_drop:=@List.length_drop
theorem vZ:type_of% @List.cons_append:=@List.cons_append
theorem wF:type_of% @List.perm_middle:=@List.perm_middle
theorem wG:type_of% @List.mem_flatMap:=@List.mem_flatMap
theorem xF:type_of% @List.any_eq_true:=@List.any_eq_true
theorem sL:type_of% @List.mem_append:=@List.mem_append
theorem sO:type_of% @decide_eq_false:=@decide_eq_false
theorem sP:type_of% @List.length_map:=@List.length_map
theorem sZ:type_of% @List.map_append:=@List.map_append
theorem tJ:type_of% @Option.some.inj:=@Option.some.inj
theorem tT:type_of% @List.length_nil:=@List.length_nil
theorem tV:type_of% @List.mem_filter:=@List.mem_filter
theorem uB:type_of% @List.nodup_cons:=@List.nodup_cons
theorem uD:type_of% @List.append_nil:=@List.append_nil
theorem vK:type_of% @List.foldl_cons:=@List.foldl_cons
theorem wC:type_of% @Option.map_some:=@Option.map_some
theorem wD:type_of% @List.nil_append:=@List.nil_append
theorem wE:type_of% @List.find?_some:=@List.find?_some
theorem wY:type_of% @List.cons.injEq:=@List.cons.injEq
theorem xO:type_of% @Option.some_get:=@Option.some_get
theorem xT:type_of% @Bool.or_eq_true:=@Bool.or_eq_true
theorem yO:type_of% @Bool.eq_iff_iff:=@Bool.eq_iff_iff
theorem sQ:type_of% @decide_eq_true:=@decide_eq_true
theorem tS:type_of% @List.take_zero:=@List.take_zero
theorem tU:type_of% @List.drop_zero:=@List.drop_zero
theorem uP:type_of% @IntWalk.i64_in:=@IntWalk.i64_in
theorem vV:type_of% @List.Perm.refl:=@List.Perm.refl
theorem wU:type_of% @Bool.false_and:=@Bool.false_and
theorem yB:type_of% @List.drop_drop:=@List.drop_drop
theorem sR:type_of% @List.mem_cons:=@List.mem_cons
theorem tB:type_of% @List.map_cons:=@List.map_cons
theorem tG:type_of% @AllReady.cons:=@AllReady.cons
theorem uI:type_of% @Nat.add_assoc:=@Nat.add_assoc
theorem uT:type_of% @AllReadyH.nil:=@AllReadyH.nil
theorem vN:type_of% @Prod.mk.injEq:=@Prod.mk.injEq
theorem wJ:type_of% @List.sum_cons:=@List.sum_cons
theorem wR:type_of% @Bool.true_and:=@Bool.true_and
theorem sJ:type_of% @List.mem_map:=@List.mem_map
theorem tD:type_of% @Nat.le_trans:=@Nat.le_trans
theorem tN:type_of% @AllReady.nil:=@AllReady.nil
theorem vG:type_of% @List.map_map:=@List.map_map
theorem vM:type_of% @Nat.lt_or_ge:=@Nat.lt_or_ge
theorem vQ:type_of% @Nat.zero_add:=@Nat.zero_add
theorem vX:type_of% @Nat.le_of_lt:=@Nat.le_of_lt
theorem wL:type_of% @List.map_nil:=@List.map_nil
theorem xI:type_of% @Nat.add_zero:=@Nat.add_zero
theorem xQ:type_of% @Nat.zero_mul:=@Nat.zero_mul
theorem xR:type_of% @Nat.mul_comm:=@Nat.mul_comm
theorem xU:type_of% @Sem.run_bind:=@Sem.run_bind
theorem sE:type_of% @Nat.le_refl:=@Nat.le_refl
theorem uS:type_of% @Below.alloc:=@Below.alloc
theorem uX:type_of% @Below.trans:=@Below.trans
theorem vU:type_of% @Nat.zero_le:=@Nat.zero_le
theorem xK:type_of% @List.map_id:=@List.map_id
theorem yL:type_of% @Nat.le_succ:=@Nat.le_succ
theorem sD:type_of% @Below.refl:=@Below.refl
theorem vF:type_of% @Below.drew:=@Below.drew
theorem sT:type_of% @if_neg:=@if_neg
theorem tC:type_of% @if_pos:=@if_pos
theorem _root_.Go.RowKit.Hid.o{p:Prop}(h:RowKit.Hid p):p:=h
theorem Hi{p:Prop}(h:p):Hid p:=h
theorem zA{α:Type}(l:List α)(i:Nat)(a:α):l.toArray.setIfInBounds i a=(l.set i a).toArray:=List.setIfInBounds_toArray ..
theorem zB{α:Type}(x:α)(l:List α)(a:α):(x::l).set 0 a=a::l:=List.set_cons_zero ..
theorem zC{α:Type}(x:α)(l:List α)(n:Nat)(a:α):(x::l).set (n+1) a=x::l.set n a:=List.set_cons_succ ..
theorem cZ{w:World}{g:Nat}{t:TypeId}{cs:List Value}(h:Blk w g t cs.toArray)(i:Nat){v:Value}(hv:cs[i]?=some v):w.cell? ⟨g,i,none⟩=some v:=(h.cell i).trans (by simpa using hv)
theorem aC{w:World}{base:Nat}{size n:Nat}{v:Value}{xs:List Value}(h:w.ownsRow base e size v n xs){g:Nat}(hg:v.ownBlock=some g):base≤g∧g<w.heap.size:=by rcases h.2 with⟨rfl,_⟩|⟨g',cap,cur,rfl,hb,hh,_⟩;(·simp[Value.ownBlock]at hg);(·have:g'=g:=(by simpa[Value.ownBlock] using hg);subst this;exact⟨hb,by rcases vM g' w.heap.size with h'|h';(·exact h');·simp[yE h']at hh⟩)
theorem aR{w w':World}{base:Nat}{size n:Nat}{v:Value}{xs:List Value}(h:w.ownsRow base e size v n xs)(hk:∀g,v.ownBlock=some g→w'.heap[g]?=w.heap[g]?):w'.ownsRow base e size v n xs:=by obtain⟨h1,h2⟩:=h;refine⟨h1,?_⟩;rcases h2 with h2|⟨g,cap,cur,hv,hg,hh,r⟩;(·exact Or.inl h2);(·exact Or.inr ⟨g,cap,cur,hv,hg,by rw[hk g (by rw[hv];rfl)];exact hh,r⟩)
theorem bO{w:World}{base base':Nat}{size n:Nat}{v:Value}{xs:List Value}(h:w.ownsRow base e size v n xs)(hb:∀g,v.ownBlock=some g→base'≤g):w.ownsRow base' e size v n xs:=by obtain⟨h1,h2⟩:=h;refine⟨h1,?_⟩;rcases h2 with h2|⟨g,cap,cur,hv,hg,hh,r⟩;(·exact Or.inl h2);(·exact Or.inr ⟨g,cap,cur,hv,hb g (by rw[hv];rfl),hh,r⟩)
/-! append onto a slice of the call's own, the source nil, empty or not -/
section
variable{P:Program}(w:World)
theorem rO(base:Nat)(t ty e:TypeId)(i:TypeInfo)(size:Nat)(ht:P.underlying t=some (.slice e))(hi:P.info? e=some i) (v:Value) (n:Nat) (xs:List Value) (hown:w.ownsRow base e size v n xs) (c:Nat):(Builtin.append_ #[t,t] ty #[v,.slice none 0 c]).run P w=.ok v w:=by rcases hown.2 with⟨rfl,rfl⟩|⟨g,cap,cur,rfl,_,_,hnc,_⟩;(·simp[Builtin.append_,run_underlying ht,sizeOf,typeInfo,hi,Builtin.lenOf,Builtin.firstCells]);(·simp[Builtin.append_,run_underlying ht,sizeOf,typeInfo,hi,Builtin.lenOf,Builtin.firstCells,hnc,storeCells])
theorem oE(base:Nat)(t ty e:TypeId)(i:TypeInfo)(z:Value)(size bytes:Nat)(ht:P.underlying t=some (.slice e))(hi:P.info? e=some i)(hz:i.zero=some z) (hsize:i.size=size) (hby:i.bytes=bytes) (hzs:z.cells.size=size) (hsz:0<size) (v:Value) (n:Nat) (xs:List Value) (hown:w.ownsRow base e size v n xs) (D:Nat→Prop) (A:Option Addr) (m c:Nat) (news:List Value) (hr:aA D w size A m news) (h1:∀u∈news,u.oneCell'=true) (h63:n+m≤maxLen) (hbytes:(n+m)*bytes≤140737488355328) (hbase:base≤w.heap.size) : ∃v' w',(Builtin.append_ #[t,t] ty #[v,.slice A m c]).run P w=.ok v' w'∧w'.ownsRow base e size v' (n+m) (xs++news)∧w.grownBy w' v.ownBlock ∧ (v'.ownBlock=v.ownBlock∨v'.ownBlock=some w.heap.size):=by rcases A with _|ad;(·have hm:m=0:=(by rcases vH m with h0|h0;(·exact h0);(·obtain⟨ad,h,_⟩:=hr.2 h0;cases h));subst hm;have hn:news=[]:=vT (by simpa using hr.1);subst hn;exact⟨v,w,rO w base t ty e i size ht hi v n xs hown c,by simpa using hown,World.grownBy.refl w _,.inl rfl⟩);(·have hcells:∀j u,news[j]?=some u→w.cell? (ad.add j)=some u:=(by intro j u hu;rcases vH m with h0|h0;(·subst h0;have hn:news=[]:=vT (by simpa using hr.1);subst hn;simp at hu);(·obtain⟨ad',h,_,hc⟩:=hr.2 h0;injection h with h;subst h;exact hc j u hu));obtain⟨v',w',hrun,h2,h3,_,h5⟩:=run_append_own_at (P:=P) w base t ty e i z size bytes ht hi hz hsize hby hzs hsz v n xs hown ad m c news hr.1 hcells h1 h63 hbytes hbase;exact⟨v',w',hrun,h2,h3,h5⟩)
theorem pU{o:Oper}{a:Act}{K:Act→World→Prop}(s x:Operand)(t:TypeId) (ho:o.op=.call { callee:=.builtin .append,args:=#[s,x],argTypes:=#[t,t] }) (base:Nat) (e:TypeId) (i:TypeInfo) (z:Value) (size bytes:Nat) (ht:P.underlying t=some (.slice e)) (hi:P.info? e=some i) (hz:i.zero=some z) (hsize:i.size=size) (hby:i.bytes=bytes) (hzs:z.cells.size=size) (hsz:0<size) (v:Value) (n:Nat) (xs:List Value) (hs:a.eval s=v) (hown:w.ownsRow base e size v n xs) (D:Nat→Prop) (A:Option Addr) (m c:Nat) (news:List Value) (hx:a.eval x=.slice A m c) (hr:aA D w size A m news) (h1:∀u∈news,u.oneCell'=true) (h63:n+m≤maxLen) (hbytes:(n+m)*bytes≤140737488355328) (hbase:base≤w.heap.size) (h:∀v' w',w'.ownsRow base e size v' (n+m) (xs++news)→w.grownBy w' v.ownBlock→(v'.ownBlock=v.ownBlock∨v'.ownBlock=some w.heap.size)→K (a.put o.dst v') w'):o.wp P a w K Q:=by obtain⟨v',w',hrun,h2,h3,h4⟩:=oE (P:=P) w base t o.type e i z size bytes ht hi hz hsize hby hzs hsz v n xs hown D A m c news hr h1 h63 hbytes hbase;unfold Oper.wp execOp;simp only[ho,resolve,invoke,builtin,xU,Sem.run_pure,yH,List.map_toArray,tB,wL,hs,hx,hrun];exact h v' w' h2 h3 h4
theorem aB{ops:Array Oper}{rest:List Oper}{o:Oper}{a:Act}(hgd:o.guard=none)(s x:Operand)(t:TypeId)
 (ho:o.op=.call { callee:=.builtin .append,args:=#[s,x],argTypes:=#[t,t] })
 (base:Nat) (e:TypeId) (i:TypeInfo) (z:Value) (size bytes:Nat) (ht:P.underlying t=some (.slice e)) (hi:P.info? e=some i) (hz:i.zero=some z)
 (hsize:i.size=size) (hby:i.bytes=bytes) (hzs:z.cells.size=size) (hsz:0<size)
 (v:Value) (n:Nat) (xs:List Value) (hs:a.eval s=v) (hown:w.ownsRow base e size v n xs)
 (D:Nat→Prop) (A:Option Addr) (m c:Nat) (news:List Value) (hx:a.eval x=.slice A m c) (hr:aA D w size A m news) (h1:∀u∈news,u.oneCell'=true)
 (h63:n+m≤maxLen) (hbytes:(n+m)*bytes≤140737488355328) (hbase:base≤w.heap.size)
 (h:∀v' w',w'.ownsRow base e size v' (n+m) (xs++news)→w.grownBy w' v.ownBlock→(v'.ownBlock=v.ownBlock∨v'.ownBlock=some w.heap.size)→wpList P ops Q rest (a.put o.dst v') w'):wpList P ops Q (o::rest) a w :=
 wpList_plain hgd fun _ hK=>pU w s x t ho base e i z size bytes ht hi hz hsize hby hzs hsz v n xs hs hown D A m c news hx hr h1 h63 hbytes hbase fun v' w' h2 h3 h4=>hK _ _ (h v' w' h2 h3 h4)
theorem bQ{ops:Array Oper}{o:Oper}{a:Act}{K:Act→World→Prop}{E:Prop}(hgd:o.guard=none)(s x:Operand)(t:TypeId) (ho:o.op=.call { callee:=.builtin .append,args:=#[s,x],argTypes:=#[t,t] }) (base:Nat) (e:TypeId) (i:TypeInfo) (z:Value) (size bytes:Nat) (ht:P.underlying t=some (.slice e)) (hi:P.info? e=some i) (hz:i.zero=some z) (hsize:i.size=size) (hby:i.bytes=bytes) (hzs:z.cells.size=size) (hsz:0<size) (v:Value) (n:Nat) (xs:List Value) (hs:a.eval s=v) (hown:w.ownsRow base e size v n xs) (D:Nat→Prop) (A:Option Addr) (m c:Nat) (news:List Value) (hx:a.eval x=.slice A m c) (hr:aA D w size A m news) (h1:∀u∈news,u.oneCell'=true) (h63:n+m≤maxLen) (hbytes:(n+m)*bytes≤140737488355328) (hbase:base≤w.heap.size) (h:∀v' w',w'.ownsRow base e size v' (n+m) (xs++news)→w.grownBy w' v.ownBlock→(v'.ownBlock=v.ownBlock∨v'.ownBlock=some w.heap.size)→K (a.put o.dst v') w') : if Region.wanted o (yielded ops a.tmps)=true then Oper.wp P o a w K Q else E:=by have hw:Region.wanted o (yielded ops a.tmps)=true:=(by simp[Region.wanted,hgd]);rw[tC hw];exact pU w s x t ho base e i z size bytes ht hi hz hsize hby hzs hsz v n xs hs hown D A m c news hx hr h1 h63 hbytes hbase h
end
theorem bK{P:Program}{w:World}(t e:TypeId)(z:Value)(size bytes:Nat)(ht:P.underlying t=some (.slice e))(info:(P.info? e).map (fun i=>(i.zero,i.size,i.bytes))=some (some z,size,bytes)) (hzs:z.cells.size=size) (hsz:0<size) {ops:Array Oper} {rest:List Oper} {o:Oper} {a:Act}  (hgd:o.guard=none) (s x:Operand) (ho:o.op=.call { callee:=.builtin .append,args:=#[s,x],argTypes:=#[t,t] }) (base:Nat) (v:Value) (n:Nat) (xs:List Value) (hs:a.eval s=v) (hown:w.ownsRow base e size v n xs) (g c:Nat) (news:List Value) (hx:a.eval x=.slice (some ⟨g,0,none⟩) 1 c) (hl:news.length=size) (hnews:∀j u,news[j]?=some u→w.cell? ⟨g,j,none⟩=some u) (h1:∀u∈news,u.oneCell'=true) (hn:(n+1)*bytes≤140737488355328) (hn2:n+1≤4611686018427387904) (hbase:base≤w.heap.size) (h:∀v' w',w'.ownsRow base e size v' (n+1) (xs++news)→w.grownBy w' v.ownBlock→(v'.ownBlock=v.ownBlock∨v'.ownBlock=some w.heap.size)→wpList P ops Q rest (a.put o.dst v') w'):wpList P ops Q (o::rest) a w:=by obtain⟨i0,hi,hz0,hz1,hz2⟩:=info_parts info;refine aB w hgd s x t ho base e i0 z size bytes ht hi hz0 hz1 hz2 hzs hsz v n xs hs hown (fun k=>k=g) (some ⟨g,0,none⟩) 1 c news hx ⟨by omega,fun _=>⟨_,rfl,rfl,fun j u hu=>?_⟩⟩ h1 (by simp only[maxLen];omega) hn hbase h;have e:(⟨g,0,none⟩:Addr).add j=⟨g,j,none⟩:=(by unfold Addr.add;split;(·rename_i h0;rw[h0]);(·simp));rw[e];exact hnews j u hu
theorem bB(w:World)(base:Nat)(e:TypeId)(size:Nat):w.ownsRow base e size (.slice none 0 0) 0 []:=⟨by simp,.inl ⟨rfl,rfl⟩⟩
structure Evo(w:World)(o:Option Nat)(w':World)(o':Option Nat):Prop where
 os:w'.os=w.os
 tape:w'.tape=w.tape
 output:w'.output=w.output
 size:w.heap.size≤w'.heap.size
 block:∀k,k<w.heap.size→o≠some k→w'.heap[k]?=w.heap[k]?
 lies:o'=o∨∃g,o'=some g∧w.heap.size≤g
theorem Evo.refl(w:World)(o:Option Nat):Evo w o w o:=⟨rfl,rfl,rfl,sE _,fun _ _ _=>rfl,.inl rfl⟩
theorem Evo.trans{c:World}{o o'':Option Nat}(h:Evo a o b o')(k:Evo b o' c o''):Evo a o c o'':=by refine⟨k.os.trans h.os,k.tape.trans h.tape,k.output.trans h.output,tD h.size k.size,fun i hi hn=>?_,?_⟩;(·refine(k.block i (sH hi h.size) ?_).trans (h.block i hi hn);rcases h.lies with e|⟨g,e,hg⟩;(·rw[e];exact hn);(·rw[e];intro e2;injection e2 with e2;omega));(·rcases k.lies with e|⟨g,e,hg⟩;(·rw[e];exact h.lies);(·exact .inr ⟨g,e,tD h.size hg⟩))
theorem Evo.of_below{w w':World}{o:Option Nat}(h:Below w w w'):Evo w o w' o:=⟨h.os,h.tape,h.output,h.size,fun k hk _=>h.block k hk,.inl rfl⟩
theorem Evo.of_append{w w':World}{o:Option Nat}(h:w.grownBy w' o)(ho:o'=o∨o'=some w.heap.size):Evo w o w' o' :=
 ⟨h.os,h.tape,h.output,h.size,fun k hk hn=>h.block k hk (fun e=>hn e.symm),ho.imp id fun e=>⟨_,e,sE _⟩⟩
theorem Evo.below{w w':World}{o:Option Nat}(h:Evo w o w' o')(hB:B≤w.heap.size)(ho:∀g,o=some g→B≤g):Below B w w' :=
 ⟨h.os,h.tape,h.output,h.size,fun k hk=>h.block k QZ (fun e=>by have:=ho k e;omega)⟩
theorem Evo.cell{w w':World}{o:Option Nat}(h:Evo w o w' o'){p:Addr}(h1:p.block<w.heap.size)(h2:o≠some p.block):w'.cell? p=w.cell? p:=sU (w:=w) (h.block p.block h1 h2)
theorem aO{w w':World}{base:Nat}{size n:Nat}{v:Value}{xs:List Value}(h:w.ownsRow base e size v n xs)(hb:Below w w w'):w'.ownsRow base e size v n xs :=
 aR h fun g hg=>hb.block g (aC h hg).2
theorem eX(w:World)(t:TypeId)(cs:List Value){j:Nat}{u:Value}(h:cs[j]?=some u):(w.alloc (.cells cs.toArray t)).cell? ⟨w.heap.size,j,none⟩=some u:=by rw[(Blk.new w t cs.toArray).cell j];rw[List.getElem?_toArray];exact h
theorem Blk.grown{w w':World}{g:Nat}{t:TypeId}{cs:Array Value}{row:Option Nat}(h:Blk w g t cs)(hb:w.grownBy w' row)(hg:row≠some g):Blk w' g t cs:=(hb.block g h.lt (fun e=>hg e.symm)).trans h
theorem aI{w:World}(h:Below B a w)(n:Nat):Below B a (w.drewN n):=⟨h.os,h.tape,h.output,h.size,h.block⟩
end
def aM(l:List UInt8):List Value:=l.map fun c=>.int .u8 (c.toNat:Int)
def intsC(l:List Int):List Value:=l.map fun n=>.int .i64 n
theorem bN(l r:List UInt8):aM (l++r)=aM l++aM r:=by simp[aM]
theorem bytesC_length(l:List UInt8):(aM l).length=l.length:=by simp[aM]
theorem intsC_length(l:List Int):(intsC l).length=l.length:=by simp[intsC]
theorem cU(l:List UInt8):∀u∈aM l,u.oneCell'=true:=by intro u hu;simp only[aM,sJ]at hu;obtain⟨c,_,rfl⟩:=hu;rfl
def pS:Nat→Nat→List UInt8
 |0,n=>[UInt8.ofNat n]
 |f+1,n=>if n<128 then [UInt8.ofNat n] else UInt8.ofNat (n % 128+128)::pS f (n / 128)
def iB(n:Nat):List UInt8:=pS 9 n
theorem qR{n:Nat}(h:n<128):pS f n=[UInt8.ofNat n]:=by cases f<;>simp[pS,h]
theorem putF_big{n:Nat}(h:¬n<128):pS (f+1) n=UInt8.ofNat (n % 128+128)::pS f (n / 128):=by simp[pS,h]
theorem putF_length:∀(f n:Nat),1≤(pS f n).length∧(pS f n).length≤f+1
 |0,n=>by simp[pS]
 |f+1,n=>by
  simp only[pS];split
  ·simp
  ·have:=putF_length f (n / 128)
   simp;omega
theorem jU(n:Nat):1≤(iB n).length∧(iB n).length≤10:=putF_length 9 n
def qY:Nat→Nat→List UInt8→Option (Nat×Nat)
 |_,_,[]=>none
 |i,acc,c::r =>
  if i=9∧1<c.toNat∨9<i then none
  else if c.toNat<128 then (if c.toNat=0∧0<i then none else some (acc+c.toNat % 128*2 ^ (7*i),i+1))
  else qY (i+1) (acc+c.toNat % 128*2 ^ (7*i)) r
def getN(l:List UInt8):Option (Nat×Nat):=qY 0 0 l
theorem getG_at:∀(l:List UInt8) (i acc n k:Nat),qY i acc l=some (n,k)→i<k∧k≤i+l.length
 | [],i,acc,n,k,h=>by simp[qY]at h
 |c::r,i,acc,n,k,h=>by
  simp only[qY]at h;split at h
  ·cases h
  ·split at h
   ·split at h
    ·cases h
    ·simp only[uK,vN]at h;simp;omega
   ·have:=getG_at r _ _ _ _ h
    simp;omega
theorem getN_at{l:List UInt8}{n k:Nat}(h:getN l=some (n,k)):1≤k∧k≤l.length:=by have:=getG_at l 0 0 n k h;omega
theorem getG_lt:∀(l:List UInt8) (i acc n k:Nat),acc<2 ^ (7*i)→qY i acc l=some (n,k)→n<2 ^ 64
 | [],i,acc,n,k,_,h=>by simp[qY]at h
 |c::r,i,acc,n,k,ha,h=>by
  simp only[qY]at h;have hp:2 ^ (7*(i+1))=128*2 ^ (7*i):=by rw[Nat.mul_add,Nat.pow_add];omega
  have hm:c.toNat % 128*2 ^ (7*i)≤127*2 ^ (7*i):=yK _ QZ;split at h
  ·cases h
  ·rename_i hg;split at h
   ·rename_i h128;split at h
    ·cases h
    ·simp only[uK,vN]at h;by_cases h9:i=9
     ·subst h9;have hc:c.toNat % 128≤1:=by omega
      have:c.toNat % 128*2 ^ (7*9)≤1*2 ^ (7*9):=yK _ hc
      omega
     ·have hi:7*(i+1)≤63:=by omega
      have:2 ^ (7*(i+1))≤2 ^ 63:=Nat.pow_le_pow_right QZ hi
      omega
   ·exact getG_lt r _ _ _ _ QZ h
theorem getN_lt{l:List UInt8}{n k:Nat}(h:getN l=some (n,k)):n<2 ^ 64:=getG_lt l 0 0 n k QM h
theorem iH{n:Nat}(h:n<256):(UInt8.ofNat n).toNat=n:=by simp;omega
theorem getG_putF:∀(f n i acc:Nat) (more:List UInt8),f+i=9→n<2 ^ (64-7*i)→(0<i→0<n)→qY i acc (pS f n++more)=some (acc+n*2 ^ (7*i),i+(pS f n).length)
 |0,n,i,acc,more,hfi,hn,hz=>by
  have h9:i=9:=by omega
  subst h9;simp only[pS,vZ,wD,qY];have hn2:n<2:=by simpa using hn
  rw[iH QZ];rw[sT QZ,tC QZ,sT QZ,Nat.mod_eq_of_lt QZ];rfl
 |f+1,n,i,acc,more,hfi,hn,hz=>by
  by_cases h:n<128
  ·rw[qR h];simp only[vZ,wD,qY];rw[iH QZ,sT QZ,tC h,sT QZ,Nat.mod_eq_of_lt h];rfl
  ·rw[putF_big h];simp only[vZ,qY];rw[iH QZ,sT QZ,sT QZ];have hp:2 ^ (7*(i+1))=128*2 ^ (7*i):=by rw[Nat.mul_add,Nat.pow_add];omega
   have hq:2 ^ (64-7*i)=128*2 ^ (64-7*(i+1)):=by
    rw[show 64-7*i=(64-7*(i+1))+7 by omega,Nat.pow_add];omega
   rw[getG_putF f (n / 128) (i+1) _ more QZ QZ QZ];have e1:(n % 128+128) % 128=n % 128:=by omega
   have e2:n % 128*2 ^ (7*i)+n / 128*2 ^ (7*(i+1))=n*2 ^ (7*i):=by
    rw[hp,←Nat.mul_assoc,←Nat.add_mul];congr 1;omega
   rw[e1,uI,e2];simp;omega
theorem getN_putN(n:Nat)(more:List UInt8)(h:n<2 ^ 64):getN (iB n++more)=some (n,(iB n).length):=by have:=getG_putF 9 n 0 0 more rfl (by simpa using h) QZ;simpa[getN,iB] using this
theorem putF_getG:∀(l:List UInt8) (f i acc n k:Nat),f+i=9→qY i acc l=some (n,k)→∃m,n=acc+m*2 ^ (7*i)∧(0<i→0<m)∧l.take (k-i)=pS f m
 | [],f,i,acc,n,k,_,h=>by simp[qY]at h
 |c::r,f,i,acc,n,k,hfi,h=>by
  have hc256:c.toNat<256:=c.toNat_lt;simp only[qY]at h;split at h
  ·cases h
  ·rename_i hg;split at h
   ·rename_i h128;split at h
    ·cases h
    ·rename_i hz;simp only[uK,vN]at h;refine⟨c.toNat,by rw[←h.1];congr 1;rw[Nat.mod_eq_of_lt h128],by omega,?_⟩
     rw[qR h128,show k-i=1 by omega];simp
   ·rename_i h128;obtain _|f:=f
    ·omega
    ·obtain⟨m,hm,hpos,ht⟩:=putF_getG r f (i+1) _ n k QZ h
     have hk:=getG_at r _ _ _ _ h;have hm1:=hpos QZ;refine⟨c.toNat % 128+128*m,?_,by omega,?_⟩
     ·have hp:2 ^ (7*(i+1))=128*2 ^ (7*i):=by rw[Nat.mul_add,Nat.pow_add];omega
      rw[hm,hp,←Nat.mul_assoc,uI,←Nat.add_mul,xR m 128]
     ·rw[putF_big QZ,show k-i=(k-(i+1))+1 by omega,tI,ht];congr 1
      ·rw[←UInt8.toNat_inj,iH QZ];omega
      ·congr 1;omega
theorem putN_getN{l:List UInt8}{n k:Nat}(h:getN l=some (n,k)):l.take k=iB n:=by obtain⟨m,hm,_,ht⟩:=putF_getG l 9 0 0 n k rfl h;have:n=m:=(by rw[hm];simp);subst this;simpa[iB] using ht
def zz(n:Int):Nat:=if 0≤n then (2*n).toNat else (-2*n-1).toNat
def unzz(m:Nat):Int:=if m % 2=0 then (m / 2:Nat) else -((m / 2:Nat):Int)-1
theorem unzz_zz(n:Int):unzz (zz n)=n:=by unfold unzz zz;split<;>split<;>omega
theorem zz_unzz(m:Nat):zz (unzz m)=m:=by unfold unzz zz;split<;>split<;>omega
theorem zz_lt{n:Int}(h:-9223372036854775808≤n∧n≤9223372036854775807):zz n<2 ^ 64:=by unfold zz;split<;>omega
theorem unzz_bd{m:Nat}(h:m<2 ^ 64):-9223372036854775808≤unzz m∧unzz m≤9223372036854775807:=by unfold unzz;split<;>omega
def lF(n:Int):List UInt8:=iB (zz n)
def getS(l:List UInt8):Option (Int×Nat):=(getN l).map fun x=>(unzz x.1,x.2)
theorem rQ{k:IntKind}{a b:Int}(h:a=b):Ending.returned (.int k a)=.returned (.int k b):=by rw[h]
theorem aP{a b:Bool}(h:a=b):Ending.returned (.bool a)=.returned (.bool b):=by rw[h]
theorem iU:(prog.info? 5).map (fun i=>(i.zero,i.size,i.bytes))=some (some (.int .u8 0),1,1):=by kernel_rfl
theorem reads_new(wr:World)(t:TypeId)(c:UInt8)(x:Int)(hx:x=(c.toNat:Int))(H:Nat)(hH:wr.heap.size=H):aA (fun k=>k=H) (wr.alloc (.cells #[.int .u8 x] t)) 1 (some ⟨H,0,none⟩) 1 (aM [c]):=by subst hx;subst hH;refine⟨by simp[aM],fun _=>⟨_,rfl,rfl,fun j u hu=>?_⟩⟩;(match j,hu with|0,hu=>simp[aM]at hu;subst hu;simp[Addr.add]|j+1,hu=>simp[aM]at hu)
theorem fM{α:Type}{l:List α}{k:Nat}(h:k<l.length):∃x,l[k]?=some x:=⟨l[k],sG h⟩
theorem lB{l:List UInt8}{D:Nat→Prop}{A:Option Addr}{c:Nat}{w:World}(hr:aA D w 1 A l.length (aM l)): (convert 141 9 (.slice A l.length c)).run prog w=.ok (.string ⟨l.toArray⟩) w:=by rcases vH l.length with h0|h0;(·have:l=[]:=uO.1 h0;subst this;rw[run_convert_bytes_string w 141 9 5 A _ c underlying141 underlying5 underlying9];(cases A with|none=>simp[Conv.bytesToString];rfl|some a =>have:=run_convert_bytes_back (P:=prog) w 141 9 5 a c [] underlying141 underlying5 underlying9 (fun j hj=>by simp at hj);rw[run_convert_bytes_string w 141 9 5 (some a) _ c underlying141 underlying5 underlying9]at this;exact this));(·obtain⟨ad,rfl,_,hc⟩:=hr.2 h0;refine run_convert_bytes_back w 141 9 5 ad c l underlying141 underlying5 underlying9 (fun j hj=>?_);exact hc j _ (by simp[aM,sG hj]))
theorem aK{P:Program}{ops:Array Oper}{w:World}{Q:Act→Prop}{a:Act}{o:Oper}{rest:List Oper}(hw:Region.wanted o (yielded ops a.tmps)=true)
 (h:∀K:Act→Prop,(∀a,wpStill P ops w Q rest a→K a)→o.still P a w K):wpStill P ops w Q (o::rest) a :=
 wpStill_step fun K hK=>by rw[tC hw];exact h K hK
abbrev Rf:=Int×Int
def bD(r:Rf):Value:=.agg #[r.1,r.2]
def aF(l:List Rf):List Value:=l.flatMap fun r=>[.int .i64 r.1,.int .i64 r.2]
theorem bC:∀(l:List Rf),(aF l).length=l.length*2
 | []=>rfl
 |r::l=>by have:=bC l;simp only[aF,uA,sF,sN,tT]at this ⊢;omega
theorem bA(a b:List Rf):aF (a++b)=aF a++aF b:=by simp[aF]
theorem aL:∀ {l:List Rf} {k:Nat} {r:Rf},l[k]?=some r→(aF l)[k*2]?=some (.int .i64 r.1)∧(aF l)[k*2+1]?=some (.int .i64 r.2)
 | [],k,r,h=>by simp at h
 |x::l,0,r,h=>by simp at h;subst h;simp[aF]
 |x::l,k+1,r,h=>by
  have:=aL (l:=l) (k:=k) (by simpa using h)
  have e:aF (x::l)=.int .i64 x.1::.int .i64 x.2::aF l:=by simp[aF]
  rw[e,show(k+1)*2=k*2+1+1 from by omega,wT,wT,show k*2+1+1+1=(k*2+1)+1+1 from rfl,wT,wT];exact this
def eR(r:Rf):Bool:=decide (1≤r.1∧r.1≤99)&&decide (1≤r.2∧r.2≤1000000)
def cR:Int→List Rf→Nat
 |_,[]=>0
 |p,r::l=>if eR r=false then 1 else if r.1≤p then 5 else cR r.1 l
def iV(k:Nat):Value:=if k=0 then .nilIface else .iface 101 (.int .i64 k)
theorem cactor_any(x:Int)(w:World):Calls prog 182 #[x] w fun e w'=>e=.returned (.bool (decide (1≤x∧x≤99)))∧w'=w:=by by_cases h1:1≤x;(·have h1':decide (1≤x)=true:=sQ h1;have h2:decide (1≤x∧x≤99)=decide (x≤99):=(by simp[h1]);rw[h2];go_enter func182,ntmps182;go_wp2_with fail;go_ret;exact⟨rfl,rfl⟩);(·have h1':decide (1≤x)=false:=sO h1;have h2:decide (1≤x∧x≤99)=false:=(by simp[h1]);rw[h2];go_enter func182,ntmps182;go_wp2_with fail;go_ret;exact⟨rfl,rfl⟩)
theorem cnum_any(x:Int)(w:World):Calls prog 183 #[x] w fun e w'=>e=.returned (.bool (decide (1≤x∧x≤1000000)))∧w'=w:=by by_cases h1:1≤x;(·have h1':decide (1≤x)=true:=sQ h1;have h2:decide (1≤x∧x≤1000000)=decide (x≤1000000):=(by simp[h1]);rw[h2];go_enter func183,ntmps183;go_wp2_with fail;go_ret;exact⟨rfl,rfl⟩);(·have h1':decide (1≤x)=false:=sO h1;have h2:decide (1≤x∧x≤1000000)=false:=(by simp[h1]);rw[h2];go_enter func183,ntmps183;go_wp2_with fail;go_ret;exact⟨rfl,rfl⟩)
theorem cref_any(r:Rf)(w:World):Calls prog 160 #[bD r] w fun e w'=>e=.returned (.bool (eR r))∧Below w w w':=by obtain⟨a,s⟩:=r;simp only[bD,eR];have ha:=cactor_any a;have hs:=cnum_any s;generalize decide (1≤a∧a≤99)=x at *;generalize decide (1≤s∧s≤1000000)=y at *;(cases x with|false =>go_enter func160,ntmps160;go_wp2_with fail;go_at_call 182;refine(ha _).mono ?_;rintro e w1 ⟨rfl,rfl⟩;go_wp2_with fail;go_ret;exact⟨rfl,(sD _ w).alloc (sE _) _⟩|true =>go_enter func160,ntmps160;go_wp2_with fail;go_at_call 182;refine(ha _).mono ?_;rintro e w1 ⟨rfl,rfl⟩;go_wp2_with fail;go_at_call 183;refine(hs _).mono ?_;rintro e w1 ⟨rfl,rfl⟩;go_wp2_with fail;go_ret;exact⟨rfl,(sD _ w).alloc (sE _) _⟩)
theorem refs_any(l:List Rf)(D:Nat→Prop)(A:Option Addr)(c:Nat)(w:World)(hr:aA D w 2 A l.length (aF l))(hD:∀k,D k→k<w.heap.size)(hl:l.length≤9223372036854775807): Calls prog 161 #[.slice A l.length c] w fun e w'=>e=.returned (iV (cR 0 l))∧Below w w w':=by have HR:=Hi hr;have HD:=Hi hD;clear hr hD;obtain⟨n,hn⟩:=QX l.length;have HN:=Hi hn;rw[hn]at hl ⊢;clear hn;go_enter func161,ntmps161;go_wp2_with fail;go_loopw [7] (fun s7 wr=>∃k:Nat,k≤n∧s7=.int .i64 k∧Hid (Below w w wr∧∃p:Int,cR 0 l=cR p (l.drop k)∧(k=0→p=0)∧(∀j r,k=j+1→l[j]?=some r→p=r.1)) ) (fun s7 _=>n-(intOf s7).toNat);(case atStart=>exact⟨0,by omega,rfl,⟨sD _ _,0,by simp,fun _=>rfl,fun j r h=>by omega⟩⟩);(case round =>obtain⟨k,hk,rfl,HI⟩:=hrel;by_cases hlt:k<n;(·obtain⟨b,off,rfl,hb,hcell⟩:=HR.o.at_ (by rw[HN.o];omega) QZ;obtain⟨r,hr⟩:∃r,l[k]?=some r:=⟨_,sG (by rw[HN.o];exact hlt)⟩;have hbl:=HD.o b hb;have hblk:∀o,wr.cell? ⟨b,o,none⟩=w.cell? ⟨b,o,none⟩:=fun o=>sU (w:=w) (HI.o.1.block b hbl);obtain⟨h1,h2⟩:=aL hr;have x1:wr.cell? ⟨b,off+k*2,none⟩=some (.int .i64 r.1):=(by rw[hblk];exact hcell _ _ h1);have x2:wr.cell? ⟨b,off+k*2+1,none⟩=some (.int .i64 r.2):=(by rw[hblk];exact hcell _ _ h2);clear hblk hcell h1 h2;have HX:=Hi hr;clear hr;go_wp2_with fail;go_at_call 160;refine(cref_any r _).mono ?_;rintro e w2 ⟨rfl,hb2⟩;have hs1:wr.heap.size<w2.heap.size:=(by have:=hb2.size;simp at this;omega);have hc4:w2.cell? ⟨wr.heap.size,0,none⟩=some (.int .i64 r.1):=(by rw[sU (w:=wr.alloc (.cells #[r.1,r.2] 77)) (hb2.block wr.heap.size QM)];exact(Blk.new wr _ _).cell 0);have HB2:Hid (Below w w w2):=(HI.o.1.alloc HI.o.1.size _).trans (hb2.mono (by have:=HI.o.1.size;simp;omega));clear hb2 x1 x2;obtain⟨p,hp1,hp2,hp3⟩:=HI.o.2;have hdr:l.drop k=r::l.drop (k+1):=(by have hl:k<l.length:=(by rw[HN.o];exact hlt);have:=HX.o;rw[sG hl]at this;rw[uC hl,tJ this]);have hre:cR p (r::l.drop (k+1))=if eR r=false then 1 else if r.1≤p then 5 else cR r.1 (l.drop (k+1)):=rfl;rw[hdr,hre]at hp1;clear hdr hre;(cases hir:eR r with|false =>rw[hir,tC rfl]at hp1;have HP:=Hi hp1;clear hp1 hp2 hp3 hir;go_wp2_with fail;go_ret;exact⟨by rw[HP.o];rfl,HB2.o⟩|true =>rw[hir,sT QM]at hp1;have hr1:1≤r.1:=(by simp only[eR,tL,tK]at hir;exact hir.1.1);have HP:=Hi (And.intro hp1 (And.intro hp2 hp3));clear hp1 hp2 hp3 hir;by_cases hk0:k=0;(·have hpz:=HP.o.2.1 hk0;have HE:Hid (cR 0 l=cR r.1 (l.drop (k+1))):=(by have:=HP.o.1;rw[hpz,sT QZ]at this;exact this);have d1:decide (0<(k:Int))=false:=sO QZ;have d1':decide (0<k)=false:=sO QZ;clear hk0 hpz;go_wp2_with fail;go_quiet (fail);change Exit.then _ _ _ _ (w2.drewN nq);have HB3:Hid (Below w w (w2.drewN nq)):=aI HB2.o nq;generalize w2.drewN nq=w3 at HB3 ⊢;clear hc4 hs1;go_wp2_with fail;go_roundw;(case rel =>refine⟨k+1,hlt,by go_num,⟨HB3.o,r.1,HE.o,fun e=>by omega,fun j r' e h=>?_⟩⟩;obtain rfl:j=k:=QZ;rw[HX.o]at h;cases h;rfl);(case measure=>simp[intOf];omega));(·have d1:decide (0<(k:Int))=true:=sQ QZ;have d1':decide (0<k)=true:=sQ QZ;obtain⟨r0,hr0⟩:∃r,l[k-1]?=some r:=⟨_,sG (by rw[HN.o];omega)⟩;have hp0:=HP.o.2.2 (k-1) r0 QZ hr0;have hblk:∀o,w2.cell? ⟨b,o,none⟩=w.cell? ⟨b,o,none⟩:=fun o=>sU (w:=w) (HB2.o.block b hbl);obtain⟨b2,off2,e2,-,hcell2⟩:=HR.o.at_ (by rw[HN.o];omega) QZ;simp only[uK,Addr.mk.injEq,and_true]at e2;obtain⟨rfl,rfl⟩:=e2;have x3:w2.cell? ⟨b,off+(k-1)*2,none⟩=some (.int .i64 r0.1):=(by rw[hblk];exact hcell2 _ _ (aL hr0).1);have HP1:=Hi HP.o.1;rw[hp0]at HP1;have hw:IntKind.i64.wrap ((k:Int)-1)=(k:Int)-1:=uP _ QZ;have hi0:0≤(k:Int)-1:=QZ;have hi1:(k:Int)-1<(n:Int):=QZ;have hi2:((k:Int)-1).toNat=k-1:=QZ;clear hblk hcell2 hr0 hp0 HP;go_wp2_with fail;by_cases hle:r.1≤r0.1;(·have d2:decide (r.1≤r0.1)=true:=sQ hle;go_quiet (fail);change Exit.then _ _ _ _ (w2.drewN nq);have HB3:Hid (Below w w (w2.drewN nq)):=aI HB2.o nq;generalize w2.drewN nq=w3 at HB3 ⊢;clear hc4 hs1 x3 hw hi2;go_wp2_with fail;go_ret;exact⟨by rw[HP1.o,tC hle];rfl,HB3.o⟩);(·have d2:decide (r.1≤r0.1)=false:=sO hle;go_quiet (fail);change Exit.then _ _ _ _ (w2.drewN nq);have HB3:Hid (Below w w (w2.drewN nq)):=aI HB2.o nq;generalize w2.drewN nq=w3 at HB3 ⊢;clear hc4 hs1 x3 hw hi2;go_wp2_with fail;go_roundw;(case rel =>refine⟨k+1,hlt,by go_num,⟨HB3.o,r.1,by rw[HP1.o,sT hle],fun e=>by omega,fun j r' e h=>?_⟩⟩;obtain rfl:j=k:=QZ;rw[HX.o]at h;cases h;rfl);(case measure=>simp[intOf];omega)))));(·have hkn:k=n:=QZ;obtain⟨p,hp1,-,-⟩:=HI.o.2;rw[vL (by rw[HN.o];omega)]at hp1;have HP:Hid (cR 0 l=0):=hp1;have HBw:=Hi HI.o.1;clear hp1;go_wp2_with fail;go_ret;exact⟨by rw[HP.o];rfl,HBw.o⟩))
theorem refRef_any(r:Rf)(w:World):Calls prog 77 #[bD r] w fun e w'=>e=.returned (.bool (eR r))∧Below w w w':=by obtain⟨a,s⟩:=r;simp only[bD,eR];by_cases h1:1≤a;(case neg =>have d1:decide (1≤a)=false:=sO h1;have e0:decide (1≤a∧a≤99)=false:=sO fun h=>h1 h.1;rw[e0];go_enter func77,ntmps77;go_wp2_with fail;go_ret;exact⟨rfl,(sD _ w).alloc (sE _) _⟩);have d1:decide (1≤a)=true:=sQ h1;by_cases h2:a≤99;(case neg =>have d2:decide (a≤99)=false:=sO h2;have e0:decide (1≤a∧a≤99)=false:=sO fun h=>h2 h.2;rw[e0];go_enter func77,ntmps77;go_wp2_with fail;go_ret;exact⟨rfl,(sD _ w).alloc (sE _) _⟩);have d2:decide (a≤99)=true:=sQ h2;have e0:decide (1≤a∧a≤99)=true:=sQ ⟨h1,h2⟩;rw[e0];by_cases h3:1≤s;(case neg =>have d3:decide (1≤s)=false:=sO h3;have e1:decide (1≤s∧s≤1000000)=false:=sO fun h=>h3 h.1;rw[e1];go_enter func77,ntmps77;go_wp2_with fail;go_ret;exact⟨rfl,(sD _ w).alloc (sE _) _⟩);have d3:decide (1≤s)=true:=sQ h3;have e1:decide (1≤s∧s≤1000000)=decide (s≤1000000):=(by simp[h3]);rw[e1];go_enter func77,ntmps77;go_wp2_with fail;go_ret;exact⟨rfl,(sD _ w).alloc (sE _) _⟩
theorem refClock_any(l:List Rf)(D:Nat→Prop)(A:Option Addr)(c:Nat)(w:World)(hr:aA D w 2 A l.length (aF l))(hD:∀k,D k→k<w.heap.size)(hl:l.length≤9223372036854775807): Calls prog 78 #[.slice A l.length c] w fun e w'=>e=.returned (.int .i64 (cR 0 l))∧Below w w w':=by have HR:=Hi hr;have HD:=Hi hD;clear hr hD;obtain⟨n,hn⟩:=QX l.length;have HN:=Hi hn;rw[hn]at hl ⊢;clear hn;go_enter func78,ntmps78;go_wp2_with fail;go_loopw [3] (fun s7 wr=>∃k:Nat,k≤n∧s7=.int .i64 k∧Hid (Below w w wr∧∃p:Int,cR 0 l=cR p (l.drop k)∧(k=0→p=0)∧(∀j r,k=j+1→l[j]?=some r→p=r.1)) ) (fun s7 _=>n-(intOf s7).toNat);(case atStart=>exact⟨0,by omega,rfl,⟨sD _ _,0,by simp,fun _=>rfl,fun j r h=>by omega⟩⟩);(case round =>obtain⟨k,hk,rfl,HI⟩:=hrel;by_cases hlt:k<n;(·obtain⟨b,off,rfl,hb,hcell⟩:=HR.o.at_ (by rw[HN.o];omega) QZ;obtain⟨r,hr⟩:∃r,l[k]?=some r:=⟨_,sG (by rw[HN.o];exact hlt)⟩;have hbl:=HD.o b hb;have hblk:∀o,wr.cell? ⟨b,o,none⟩=w.cell? ⟨b,o,none⟩:=fun o=>sU (w:=w) (HI.o.1.block b hbl);obtain⟨h1,h2⟩:=aL hr;have x1:wr.cell? ⟨b,off+k*2,none⟩=some (.int .i64 r.1):=(by rw[hblk];exact hcell _ _ h1);have x2:wr.cell? ⟨b,off+k*2+1,none⟩=some (.int .i64 r.2):=(by rw[hblk];exact hcell _ _ h2);clear hblk hcell h1 h2;have HX:=Hi hr;clear hr;go_wp2_with fail;go_at_call 77;refine(refRef_any r _).mono ?_;rintro e w2 ⟨rfl,hb2⟩;have HB2:Hid (Below w w w2):=HI.o.1.trans (hb2.mono HI.o.1.size);have y1:w2.cell? ⟨b,off+k*2,none⟩=some (.int .i64 r.1):=(by rw[sU (w:=wr) (hb2.block b (sH hbl HI.o.1.size))];exact x1);clear hb2 x1 x2;obtain⟨p,hp1,hp2,hp3⟩:=HI.o.2;have hdr:l.drop k=r::l.drop (k+1):=(by have hl:k<l.length:=(by rw[HN.o];exact hlt);have:=HX.o;rw[sG hl]at this;rw[uC hl,tJ this]);have hre:cR p (r::l.drop (k+1))=if eR r=false then 1 else if r.1≤p then 5 else cR r.1 (l.drop (k+1)):=rfl;rw[hdr,hre]at hp1;clear hdr hre;(cases hir:eR r with|false =>rw[hir,tC rfl]at hp1;have HP:=Hi hp1;clear hp1 hp2 hp3 hir;go_wp2_with fail;go_ret;exact⟨by rw[HP.o];rfl,HB2.o⟩|true =>rw[hir,sT QM]at hp1;have hr1:1≤r.1:=(by simp only[eR,tL,tK]at hir;exact hir.1.1);have HP:=Hi (And.intro hp1 (And.intro hp2 hp3));clear hp1 hp2 hp3 hir;by_cases hk0:k=0;(·have hpz:=HP.o.2.1 hk0;have HE:Hid (cR 0 l=cR r.1 (l.drop (k+1))):=(by have:=HP.o.1;rw[hpz,sT QZ]at this;exact this);have d1:decide (0<(k:Int))=false:=sO QZ;have d1':decide (0<k)=false:=sO QZ;clear hk0 hpz;go_wp2_with fail;go_quiet (fail);change Exit.then _ _ _ _ (w2.drewN nq);have HB3:Hid (Below w w (w2.drewN nq)):=aI HB2.o nq;generalize w2.drewN nq=w3 at HB3 ⊢;clear y1;go_wp2_with fail;go_roundw;(case rel =>refine⟨k+1,hlt,by go_num,⟨HB3.o,r.1,HE.o,fun e=>by omega,fun j r' e h=>?_⟩⟩;obtain rfl:j=k:=QZ;rw[HX.o]at h;cases h;rfl);(case measure=>simp[intOf];omega));(·have d1:decide (0<(k:Int))=true:=sQ QZ;have d1':decide (0<k)=true:=sQ QZ;obtain⟨r0,hr0⟩:∃r,l[k-1]?=some r:=⟨_,sG (by rw[HN.o];omega)⟩;have hp0:=HP.o.2.2 (k-1) r0 QZ hr0;have hblk:∀o,w2.cell? ⟨b,o,none⟩=w.cell? ⟨b,o,none⟩:=fun o=>sU (w:=w) (HB2.o.block b hbl);obtain⟨b2,off2,e2,-,hcell2⟩:=HR.o.at_ (by rw[HN.o];omega) QZ;simp only[uK,Addr.mk.injEq,and_true]at e2;obtain⟨rfl,rfl⟩:=e2;have x3:w2.cell? ⟨b,off+(k-1)*2,none⟩=some (.int .i64 r0.1):=(by rw[hblk];exact hcell2 _ _ (aL hr0).1);have HP1:=Hi HP.o.1;rw[hp0]at HP1;have hw:IntKind.i64.wrap ((k:Int)-1)=(k:Int)-1:=uP _ QZ;have hi0:0≤(k:Int)-1:=QZ;have hi1:(k:Int)-1<(n:Int):=QZ;have hi2:((k:Int)-1).toNat=k-1:=QZ;clear hblk hcell2 hr0 hp0 HP;go_wp2_with fail;by_cases hle:r.1≤r0.1;(·have d2:decide (r.1≤r0.1)=true:=sQ hle;go_quiet (fail);change Exit.then _ _ _ _ (w2.drewN nq);have HB3:Hid (Below w w (w2.drewN nq)):=aI HB2.o nq;generalize w2.drewN nq=w3 at HB3 ⊢;clear y1 x3 hw hi2;go_wp2_with fail;go_ret;exact⟨by rw[HP1.o,tC hle];rfl,HB3.o⟩);(·have d2:decide (r.1≤r0.1)=false:=sO hle;go_quiet (fail);change Exit.then _ _ _ _ (w2.drewN nq);have HB3:Hid (Below w w (w2.drewN nq)):=aI HB2.o nq;generalize w2.drewN nq=w3 at HB3 ⊢;clear y1 x3 hw hi2;go_wp2_with fail;go_roundw;(case rel =>refine⟨k+1,hlt,by go_num,⟨HB3.o,r.1,by rw[HP1.o,sT hle],fun e=>by omega,fun j r' e h=>?_⟩⟩;obtain rfl:j=k:=QZ;rw[HX.o]at h;cases h;rfl);(case measure=>simp[intOf];omega)))));(·have hkn:k=n:=QZ;obtain⟨p,hp1,-,-⟩:=HI.o.2;rw[vL (by rw[HN.o];omega)]at hp1;have HP:Hid (cR 0 l=0):=hp1;have HBw:=Hi HI.o.1;clear hp1;go_wp2_with fail;go_ret;exact⟨by rw[HP.o];rfl,HBw.o⟩))
def cmpI(a b:Int):Int:=if a<b then -1 else if b<a then 1 else 0
theorem cmpI_lt{a b:Int}(h:a<b):-1=cmpI a b:=by simp[cmpI,h]
theorem cmpI_gt{a b:Int}(h:b<a):1=cmpI a b:=by rw[cmpI,sT QZ,tC h]
theorem cmpI_eq{a b:Int}(h1:¬a<b)(h:¬b<a):0=cmpI a b:=by rw[cmpI,sT h1,sT h]
theorem cmpInt_any(a b:Int)(w:World): Calls prog 70 #[a,b] w fun e w'=>e=.returned (.int .i64 (cmpI a b))∧w=w':=by by_cases h1:a<b;(·go_enter func70,ntmps70;go_wp2;go_ret;exact⟨rQ (cmpI_lt h1),rfl⟩);(·by_cases h2:b<a;(·go_enter func70,ntmps70;go_wp2;go_ret;exact⟨rQ (cmpI_gt h2),rfl⟩);(·go_enter func70,ntmps70;go_wp2;go_ret;exact⟨rQ (cmpI_eq QZ QZ),rfl⟩))
def jR:List Int→Int
 | []=>0
 |x::l=>if x=0 then jR l else x
theorem firstNZ_at:∀(l:List Int) (k:Nat) (x:Int),(∀j,j<k→l.getD j 0=0)→l[k]?=some x→x≠0→jR l=x
 | [],_,_,_,h,_=>by simp at h
 |y::l,0,x,_,h,hx=>by
  simp at h;subst h;simp[jR,hx]
 |y::l,k+1,x,h0,h,hx=>by
  have hy:y=0:=h0 0 QZ;subst hy;simp only[jR,if_true];exact firstNZ_at l k x (fun j hj=>by simpa using h0 (j+1) QZ) (by simpa using h) hx
theorem firstNZ_none:∀(l:List Int),(∀j,j<l.length→l.getD j 0=0)→jR l=0
 | [],_=>rfl
 |y::l,h0=>by
  have hy:y=0:=h0 0 QM;subst hy;simp only[jR,if_true];exact firstNZ_none l (fun j hj=>by simpa using h0 (j+1) (by simpa using hj))
theorem or_any(xs:List Int)(n:Nat)(hn:n=xs.length)(b:Nat)(w:World)(hlen:n≤1000000) (hc:∀(k:Nat) (x:Int),xs[k]?=some x→w.cell? ⟨b,k,none⟩=some (.int .i64 x)) : Calls prog 69 #[.slice (some ⟨b,0,none⟩) n n] w fun e w'=>e=.returned (.int .i64 (jR xs))∧w=w':=by have HN:=Hi hn;have HC:=Hi hc;clear hn hc;go_enter func69,ntmps69;go_wp2;go_loop [5,8] (fun _ i=>∃k:Nat,k≤n∧i=.int .i64 k∧∀j,j<k→xs.getD j 0=0) (fun _ i=>n-(intOf i).toNat);(case atStart=>exact⟨0,by omega,rfl,fun j hj=>absurd hj QZ⟩);(case round =>obtain⟨k,hk,rfl,hz⟩:=hrel;have HZ:=Hi hz;clear hz;by_cases hlt:k<n;(·obtain⟨x,hx⟩:∃x,xs[k]?=some x:=(by have:=HN.o;exact⟨xs[k],sG QZ⟩);have HX:=Hi hx;have hcell:=HC.o k x hx;clear hx;by_cases h0:x=0;(·subst h0;go_wp2;go_round;(case rel=>exact⟨k+1,by omega,by go_num,fun j hj=>by by_cases e:j=k;(·subst e;rw[List.getD_eq_getElem?_getD,HX.o];rfl);·exact HZ.o j QZ⟩);(case measure=>simp[intOf];omega));(·have hb:(x != 0)=true:=(by simpa using h0);have H0:=Hi h0;clear h0;go_wp2;go_ret;exact⟨rQ (firstNZ_at xs k x HZ.o HX.o H0.o).symm,rfl⟩));(·go_wp2;go_ret;exact⟨rQ (firstNZ_none xs (fun j hj=>HZ.o j (by have:=HN.o;omega))).symm,rfl⟩))
def cmp2(a b c d:Int):Int:=jR [cmpI a c,cmpI b d]
theorem or2_any(x y:Int)(b:Nat)(w:World)(h0:w.cell? ⟨b,0,none⟩=some (.int .i64 x))(h1:w.cell? ⟨b,1,none⟩=some (.int .i64 y)):
 Calls prog 69 #[.slice (some ⟨b,0,none⟩) 2 2] w fun e w'=>e=.returned (.int .i64 (jR [x,y]))∧w=w' :=
 or_any [x,y] 2 rfl b w QZ fun k u hk=>by
  match k,hk with
  |0,hk=>simp at hk;subst hk;exact h0
  |1,hk=>simp at hk;subst hk;exact h1
  |k+2,hk=>simp at hk
theorem idCompare_any(a b c d:Int)(w:World): Calls prog 44 #[.agg #[a,b],.agg #[c,d]] w fun e w'=>e=.returned (.int .i64 (cmp2 a b c d))∧Below w w w':=by go_enter func44,ntmps44;go_wp2;go_region_held3 (fun w'=>w'.cell? ⟨w.heap.size,0,none⟩=some (.int .i64 a)∧w'.cell? ⟨w.heap.size,1,none⟩=some (.int .i64 b)∧w'.cell? ⟨w.heap.size+1,0,none⟩=some (.int .i64 c)∧w'.cell? ⟨w.heap.size+1,1,none⟩=some (.int .i64 d)) (go_keep) (first|(go_at_call 70;refine(cmpInt_any _ _ _).mono ?_;rintro e w' ⟨rfl,rfl⟩)|(go_at_call 69;refine(or2_any (cmpI a c) (cmpI b d) _ _ ?_ ?_).mono ?_;(go_simp);(go_simp);rintro e w' ⟨rfl,rfl⟩));go_wp2;go_ret;exact⟨rfl,((((sD _ _).alloc (sE _) _).alloc QM _).alloc (by simp;omega) _).drew⟩
theorem bl_asym:∀(x y:List UInt8),Op.bytesLess x y=true→Op.bytesLess y x=false
 |_,[],h=>by simp[Op.bytesLess]at h
 | [],_::_,_=>by simp[Op.bytesLess]
 |a::x,b::y,h=>by
  simp only[Op.bytesLess,xT,tL,tK,beq_iff_eq,UInt8.lt_iff_toNat_lt]at h;simp only[Op.bytesLess,Bool.or_eq_false_iff,xS,decide_eq_false_iff_not,beq_eq_false_iff_ne,UInt8.lt_iff_toNat_lt];rcases h with h|⟨h,h2⟩
  ·exact⟨by omega,.inl (fun e=>by subst e;omega)⟩
  ·subst h;exact⟨by omega,.inr (bl_asym x y h2)⟩
theorem bl_tri:∀(x y:List UInt8),Op.bytesLess x y=false→Op.bytesLess y x=false→x=y
 | [],[],_,_=>rfl
 |_::_,[],_,h=>by simp[Op.bytesLess]at h
 | [],_::_,h,_=>by simp[Op.bytesLess]at h
 |a::x,b::y,h,k=>by
  simp only[Op.bytesLess,Bool.or_eq_false_iff,xS,decide_eq_false_iff_not,beq_eq_false_iff_ne,UInt8.lt_iff_toNat_lt]at h k;have e:a=b:=UInt8.toNat_inj.1 QZ;subst e;rw[bl_tri x y (h.2.resolve_left QM) (k.2.resolve_left QM)]
theorem bl_trans:∀(x y z:List UInt8),Op.bytesLess x y=true→Op.bytesLess y z=true→Op.bytesLess x z=true
 |_,[],_,h,_=>by simp[Op.bytesLess]at h
 |_,_::_,[],_,h=>by simp[Op.bytesLess]at h
 | [],_::_,_::_,_,_=>by simp[Op.bytesLess]
 |a::x,b::y,c::z,h,k=>by
  simp only[Op.bytesLess,xT,tL,tK,beq_iff_eq,UInt8.lt_iff_toNat_lt]at h k ⊢;rcases h with h|⟨h,h2⟩<;>rcases k with k|⟨k,k2⟩
  ·exact .inl QZ
  ·subst k;exact .inl h
  ·subst h;exact .inl k
  ·subst h;subst k;exact .inr ⟨rfl,bl_trans x y z h2 k2⟩
theorem bl_irrefl(x:List UInt8):Op.bytesLess x x=false:=by cases h:Op.bytesLess x x;(·rfl);(·exact(bl_asym x x h).symm.trans h |>.symm)
def loB(n:Nat):UInt8:=UInt8.ofNat (n % 128+128)
theorem loB_toNat(n:Nat):(loB n).toNat=n % 128+128:=iH QZ
def mQ(n f cur:Nat)(pre:List UInt8):Prop:=cur<128 ^ (f+1)∧cur<2 ^ 64∧iB n=pre++pS f cur∧pre.length+f≤9
theorem mQ.start{n:Nat}(h:n<2 ^ 64):mQ n 9 n []:=⟨by omega,h,rfl,by simp⟩
theorem mQ.last{n:Nat}(h:mQ n f cur pre)(hc:cur<128):iB n=pre++[UInt8.ofNat cur]:=by rw[h.2.2.1,qR hc]
theorem mQ.step{n:Nat}(h:mQ n f cur pre)(hc:¬cur<128):∃f',mQ n f' (cur / 128) (pre++[loB cur]):=by obtain⟨h1,h2,h3,h4⟩:=h;obtain _|f:=f;(·simp at h1;omega);(·refine⟨f,?_,by omega,by rw[h3,putF_big hc,tA];rfl,by simp;omega⟩;rw[Nat.pow_succ]at h1;exact yM (by rw[xR];exact h1))
theorem mQ.len{n:Nat}(h:mQ n f cur pre):pre.length≤9:=by have:=h.2.2.2;omega
theorem mQ.lt{n:Nat}(h:mQ n f cur pre):cur<2 ^ 64:=h.2.1
theorem u64_keep{m:Nat}(h:m<18446744073709551616):IntKind.u64.wrap (m:Int)=(m:Int):=by simp[IntKind.wrap,IntKind.bits,IntKind.signed];omega
section
variable{l:List UInt8}{k acc cc m p q:Nat}
end
theorem lY(n:Int):IntKind.u64.wrap n=n % 18446744073709551616:=by simp[IntKind.wrap,IntKind.bits,IntKind.signed]
theorem wrap_i64(n:Int):wrap64 n=(n+9223372036854775808) % 18446744073709551616-9223372036854775808:=by unfold wrap64;omega
theorem putR_any(n:Nat)(hn:Hid (n<2 ^ 64))(w:World): Calls prog 159 #[.int .u64 n] w fun e w'=>∃v,e=.returned v∧w'.ownsRow w 5 1 v (iB n).length (aM (iB n))∧Below w w w':=by obtain⟨i0,hi,hz0,hz1,hz2⟩:=info_parts iU;go_enter func159,ntmps159;go_wp2;go_loopw [0,3] (fun s0 v wr=>∃(f cur:Nat) (pre:List UInt8),s0=.int .u64 cur∧Hid (mQ n f cur pre) ∧ wr.ownsRow w 5 1 v pre.length (aM pre)∧Below w w wr) (fun s0 _ _=>(intOf s0).toNat);(case atStart=>exact⟨9,n,[],rfl,mQ.start hn.out,bB _ _ _ _,sD _ _⟩);obtain⟨f,cur,pre,rfl,hpa,hown,hb⟩:=hrel;have hlen:=hpa.out.len;by_cases hlt:cur<128;(·have hd:decide ((127:Int)<(cur:Int))=false:=(by simp;omega);have hc8:(cur:Int) % 256=(cur:Int):=QZ;have HL:=Hi (hpa.out.last hlt);go_wp2_with (at_builtin;refine aB _ rfl (.tmp 15) (.tmp 18) _ rfl (w.heap.size) 5 i0 _ 1 1 underlying141 hi hz0 hz1 hz2 rfl QZ (u3) (pre.length) (aM pre) rfl (hown.alloc _) _ (some ⟨wr.heap.size,0,none⟩) (1) (1) (aM [UInt8.ofNat cur]) rfl (reads_new _ _ _ _ (by rw[iH QZ]) _ rfl) (cU _) ?c1 ?c2 ?c3 ?_);(try case c1=>simp only[maxLen];omega);(try case c2=>omega);(try case c3=>have:=hb.size;simp;omega);intro v1 w1 hown1 hg1 hat1;have hb1:Below w w w1:=(hb.alloc hb.size _).grown hg1 (by have:=hb.size;simp;omega) (fun g hg=>(aC hown hg).1);go_wp2;go_ret;exact⟨_,rfl,by rw[HL.o,sF,bN];exact hown1,hb1⟩);(·have hd:decide ((127:Int)<(cur:Int))=true:=(by simp;omega);obtain⟨m,hm⟩:∃m,m=cur % 128:=⟨_,rfl⟩;obtain⟨q,hq⟩:∃q,q=cur / 128:=⟨_,rfl⟩;have hm1:(cur:Int).tmod 128=(m:Int):=(by rw[Int.tmod_eq_emod_of_nonneg QZ];omega);have hm2:(cur:Int) % 128=(m:Int):=QZ;have hq1:(cur:Int).tdiv 128=(q:Int):=(by rw[Int.tdiv_eq_ediv_of_nonneg QZ];omega);have hq2:(cur:Int) / 128=(q:Int):=QZ;have hm8:m<128:=QZ;have HX:Hid ((m:Int)+128=((loB cur).toNat:Int)):=(by show _=_;rw[loB_toNat];omega);obtain⟨f',hp'⟩:=hpa.out.step hlt;rw[←hq]at hp';have HP:=Hi hp';have hqc:q<cur:=QZ;have hq3:IntKind.u64.wrap (q:Int)=(q:Int):=u64_keep (by have:=hpa.out.lt;omega);clear hm hq hp';go_wp2_with (at_builtin;refine aB _ rfl (.tmp 6) (.tmp 11) _ rfl (w.heap.size) 5 i0 _ 1 1 underlying141 hi hz0 hz1 hz2 rfl QZ (u3) (pre.length) (aM pre) rfl (hown.alloc _) _ (some ⟨wr.heap.size,0,none⟩) (1) (1) (aM [loB cur]) rfl (reads_new _ _ _ _ HX.o _ rfl) (cU _) ?c1 ?c2 ?c3 ?_);(try case c1=>simp only[maxLen];omega);(try case c2=>omega);(try case c3=>have:=hb.size;simp;omega);intro v1 w1 hown1 hg1 hat1;have hb1:Below w w w1:=(hb.alloc hb.size _).grown hg1 (by have:=hb.size;simp;omega) (fun g hg=>(aC hown hg).1);go_wp2;exact⟨⟨f',q,pre++[loB cur],rfl,HP,by rw[sF,bN];exact hown1,hb1⟩,by simp[intOf];omega⟩)
theorem putSR_any(n:Int)(hn:(Lit.int .i64 n).wf=true)(w:World): Calls prog 123 #[n] w fun e w'=>∃v,e=.returned v∧w'.ownsRow w 5 1 v (lF n).length (aM (lF n))∧Below w w w':=by have hb:=bounds_i64 hn;have HL:Hid (zz n<2 ^ 64):=zz_lt hb;by_cases h0:n<0;(·have HZ:Hid (IntKind.u64.wrap (IntKind.u64.wrap (IntKind.u64.wrap (wrap64 (-wrap64 (n+1)))*2)+1)=((zz n:Nat):Int)):=(by show _=_;rw[lY,lY,lY,wrap_i64,wrap_i64];unfold zz;split<;>omega);have hd:decide (n<0)=true:=(by simpa using h0);clear hn hb h0;go_enter func123,ntmps123;go_wp2_with fail;rw[HZ.o];refine(putR_any (zz n) HL w).mono ?_;rintro e w1 ⟨v,rfl,ho,hb⟩;go_wp2;go_ret;exact⟨v,rfl,ho,hb⟩);(·have HZ:Hid (IntKind.u64.wrap (IntKind.u64.wrap n*2)=((zz n:Nat):Int)):=(by show _=_;rw[lY,lY];unfold zz;split<;>omega);have hd:decide (n<0)=false:=(by simpa using h0);clear hn hb;go_enter func123,ntmps123;go_wp2_with fail;rw[HZ.o];refine(putR_any (zz n) HL w).mono ?_;rintro e w1 ⟨v,rfl,ho,hb⟩;go_wp2;go_ret;exact⟨v,rfl,ho,hb⟩)
theorem intsC_at_{l:List Int}{k:Nat}(h:l[k]?=some x):(intsC l)[k]?=some (.int .i64 x):=by simp[intsC,h]
def bH(l:List Int):List UInt8:=l.flatMap fun x=>iB x.toNat
theorem numsL_len:∀(l:List Int),(bH l).length≤10*l.length
 | []=>by simp[bH]
 |x::l=>by
  have:=numsL_len l
  have h:=(jU x.toNat).2;simp only[bH,uA,sF,sN]at this ⊢;omega
theorem numsL_append(a b:List Int):bH (a++b)=bH a++bH b:=by simp[bH]
theorem numsL_take{l:List Int}{k:Nat}(h:l[k]?=some x):bH (l.take (k+1))=bH (l.take k)++iB x.toNat:=by rw[sY,h,numsL_append];simp[bH]
theorem u64_nat(h0:0≤x)(h1:x≤9223372036854775807):IntKind.u64.wrap x=((x.toNat:Nat):Int):=by rw[lY];omega
theorem Evo.of_append'{w w':World}{o:Option Nat}(h:w.grownBy w' o)(ho:o'=o∨o'=some w.heap.size):Evo w o w' o':=Evo.of_append h ho
theorem refNums_any(xs:List Int)(pre:List UInt8)(v:Value)(base:Nat)(D:Nat→Prop)(A:Option Addr)(n c:Nat)(w:World) (hown:w.ownsRow base 5 1 v pre.length (aM pre)) (hbase:base≤w.heap.size) (hr:aA D w 1 A n (intsC xs)) (hD:∀k,D k→k<w.heap.size∧v.ownBlock≠some k) (hn:xs.length=n) (hn1:n≤100) (hp:pre.length≤1000000) (hx:∀x∈xs,0≤x∧x≤9223372036854775807) : Calls prog 122 #[v,.slice A n c] w fun e w'=>∃v',e=.returned v'∧w'.ownsRow base 5 1 v' (pre++bH xs).length (aM (pre++bH xs))∧Evo w v.ownBlock w' v'.ownBlock:=by obtain⟨i0,hi,hz0,hz1,hz2⟩:=info_parts iU;have HR:=Hi hr;have HD:=Hi hD;have HN:=Hi hn;have HX:=Hi hx;have HP:=Hi hp;clear hr hD hn hx hp;go_enter func122,ntmps122;go_wp2_with fail;go_loopw [0,5] (fun s0 s5 wr=>∃k:Nat,k≤n∧s5=.int .i64 k∧wr.ownsRow base 5 1 s0 (pre++bH (xs.take k)).length (aM (pre++bH (xs.take k)))∧Hid (Evo w v.ownBlock wr s0.ownBlock)) (fun _ s5 _=>n-(intOf s5).toNat);(case atStart=>exact⟨0,by omega,rfl,by simpa[bH] using hown,Evo.refl _ _⟩);(case round =>clear hown;obtain⟨k,hk,rfl,hown,HE⟩:=hrel;by_cases hlt:k<n;(·obtain⟨x,hx⟩:∃x,xs[k]?=some x:=fM (by rw[HN.o];exact hlt);obtain⟨b,off,hA,hb,hcell⟩:=HR.o.at_ QZ QZ;subst hA;have hxb:=HX.o x (sM hx);have hcx:wr.cell? ⟨b,off+k,none⟩=some (.int .i64 x):=(by rw[HE.o.cell (p:=⟨b,off+k,none⟩) (HD.o b hb).1 (HD.o b hb).2];exact hcell k _ (intsC_at_ hx));have hu:=u64_nat hxb.1 hxb.2;have hlen:=numsL_len (xs.take k);have hst:Hid (pre++bH (xs.take (k+1))=(pre++bH (xs.take k))++iB x.toNat):=(by show _=_;rw[numsL_take hx,tA]);have hpl:(pre++bH (xs.take k)).length≤1001000:=(by have:=HP.o;simp only[sF,tH]at hlen ⊢;omega);have HQ:Hid (x.toNat<2 ^ 64):=(by show _<_;omega);generalize pre++bH (xs.take k)=acc at hown hst hpl;generalize x.toNat=q at hu hst HQ;clear hx hxb hlen;go_wp2_with fail;refine(putR_any q HQ wr).mono ?_;rintro e w3 ⟨v3,rfl,ho3,hb3⟩;obtain⟨A3,c3,hv3,_,_,hr3⟩:=aA.of_own ho3;subst hv3;have HE3:Hid (Evo w v.ownBlock w3 u0.ownBlock):=HE.o.trans (Evo.of_below hb3);have hown3:=aR hown fun g hg=>hb3.block g (aC hown hg).2;have hpn:=(jU q).2;have HR3:=Hi hr3;have hs3:base≤w3.heap.size:=tD hbase HE3.o.size;clear ho3 hb3 hr3 hcx;go_wp2_with (at_builtin;refine aB _ rfl (.tmp 12) (.tmp 18) _ rfl (base) 5 i0 _ 1 1 underlying141 hi hz0 hz1 hz2 rfl QZ (u0) (acc.length) (aM acc) rfl (hown3) _ (A3) ((iB q).length) (c3) (aM (iB q)) rfl (HR3.o) (cU _) ?c1 ?c2 ?c3 ?_);(try case c1=>simp only[maxLen];omega);(try case c2=>omega);(try case c3=>exact hs3);intro v4 w4 ho4 hg4 hat4;have HE4:Hid (Evo w v.ownBlock w4 v4.ownBlock):=HE3.o.trans (Evo.of_append' hg4 hat4);rw[←bN]at ho4;clear hown3 hg4 hat4 HR3 hs3;go_wp2_with fail;(first|exact⟨⟨k+1,by omega,by go_num,by rw[hst.out];simpa using ho4,HE4⟩,by simp[intOf];omega⟩|(go_roundw;(case rel=>exact⟨k+1,by omega,by go_num,by rw[hst.out];simpa using ho4,HE4⟩);case measure=>simp[intOf];omega)));(·have hkn:k=n:=QZ;have HF:Hid (xs.take k=xs):=(by show _=_;exact sS (by rw[HN.o];omega));rw[HF.o]at hown;clear hkn;go_wp2_with fail;go_ret;exact⟨_,rfl,hown,HE.o⟩))
section
variable{P:Program}(w:World)
theorem qP(S:ByteArray):(Builtin.firstCells 1 S.size (.string S)).run P w=.ok (aM S.data.toList).toArray w:=by have hx:(Array.map (fun b:UInt8=>Value.int IntKind.u8 (b.toNat:Int)) S.data).extract 0 S.size=Array.map (fun b:UInt8=>Value.int IntKind.u8 (b.toNat:Int)) S.data:=(by have hs:S.size=(Array.map (fun b:UInt8=>Value.int IntKind.u8 (b.toNat:Int)) S.data).size:=(by rw[Array.size_map];rfl);rw[hs,xG]);have e:(aM S.data.toList).toArray=Array.map (fun b:UInt8=>Value.int IntKind.u8 (b.toNat:Int)) S.data:=(by apply Array.ext';simp[aM]);rw[e];simp[Builtin.firstCells,hx]
theorem str_len(S:ByteArray):(aM S.data.toList).length=S.size:=by rw[bytesC_length,ByteArray.size,uU]
theorem oD(base:Nat)(t u ty e:TypeId)(i:TypeInfo)(z:Value)(bytes:Nat)(ht:P.underlying t=some (.slice e))(hu:P.underlying u=some .string)(hi:P.info? e=some i)(hz:i.zero=some z) (hsize:i.size=1) (hby:i.bytes=bytes) (hzs:z.cells.size=1) (v:Value) (n:Nat) (xs:List Value) (hown:w.ownsRow base e 1 v n xs) (S:ByteArray) (h63:n+S.size≤maxLen) (hbytes:(n+S.size)*bytes≤140737488355328) (hbase:base≤w.heap.size) : ∃v' w',(Builtin.append_ #[t,u] ty #[v,S]).run P w=.ok v' w'∧w'.ownsRow base e 1 v' (n+S.size) (xs++aM S.data.toList)∧w.grownBy w' v.ownBlock ∧ (v'.ownBlock=v.ownBlock∨v'.ownBlock=some w.heap.size):=by subst hby;have hnl:=str_len S;have hf:=fun w=>qP (P:=P) w S;have h1:=cU S.data.toList;generalize aM S.data.toList=news at hnl hf h1 ⊢;have hsmall:n+S.size≤9223372036854775807:=(by simp only[maxLen]at h63;omega);have hlen:(xs++news).length=(n+S.size)*1:=(by rw[sF,hown.1,hnl];omega);have grown:∀(old:Nat),old<n+S.size→∀(row:Option Nat), (w.drew.alloc (.cells (xs.toArray++news.toArray++Builtin.zeroCells z.cells (grownCap w (n+S.size) old e-(n+S.size))) e)).ownsRow base e 1 (.slice (some ⟨w.heap.size,0,none⟩) (n+S.size) (grownCap w (n+S.size) old e)) (n+S.size) (xs++news) ∧ w.grownBy (w.drew.alloc (.cells (xs.toArray++news.toArray++Builtin.zeroCells z.cells (grownCap w (n+S.size) old e-(n+S.size))) e)) row:=(by intro old ho row;have hge:=grownCap_ge w (n+S.size) old e;have hcm:grownCap w (n+S.size) old e≤maxLen:=grownCap_le_maxLen w (n+S.size) old e h63;refine⟨⟨hlen,.inr ⟨w.heap.size,_,_,rfl,hbase,heap_alloc_new w.drew _,hge,hcm,?_,?_⟩⟩,⟨rfl,rfl,rfl,by simp,fun k hk _=>sX w.drew _ k hk⟩⟩;(·simp only[Array.size_append,yJ,size_zeroCells,hzs,hown.1,hnl];omega);(·simp only[Array.toList_append,tA];rw[←tA,←hlen];exact List.take_left));rcases hown.2 with⟨rfl,rfl⟩|⟨g,cap,cur,rfl,hbg,hg,hnc,hcm,hcs,htake⟩;(·have hx:xs=[]:=vT (by simpa using hown.1);subst hx;by_cases hm:S.size=0;(·have hn:news=[]:=vT (by rw[hnl,hm]);subst hn;refine⟨.slice none 0 0,w,?_,by rw[hm];exact World.ownsRow_nil w base e 1,⟨rfl,rfl,rfl,sE _,fun _ _ _=>rfl⟩,Or.inl rfl⟩;rw[hm]at hf;simp[Builtin.append_,run_underlying ht,run_underlying hu,sizeOf,typeInfo,hi,hsize,Builtin.lenOf,hf,hm]);(·have hgr:=grown 0 QZ (Value.ownBlock (.slice none 0 0));have h63':¬(9223372036854775807<(S.size:Int)):=QZ;have h48':¬(281474976710656<Builtin.nextslicecap S.size 0*i.bytes):=(by rw[nextslicecap_zero QZ];simp only[vQ]at hbytes;omega);simp only[vQ,wD,Array.empty_append]at hgr ⊢;refine⟨_,_,?_,hgr.1,hgr.2,Or.inr rfl⟩;simp[Builtin.append_,run_underlying ht,run_underlying hu,sizeOf,typeInfo,zeroValue,hi,hz,hsize,Builtin.lenOf,hm,h63',h48',Question.forced,run_firstCells_none,hf,newRow,grownCap]));(·by_cases hroom:n+S.size≤cap;(·have hfit:n*1+news.length≤cur.size:=(by rw[hnl,hcs];omega);have hst:=run_storeCells_at P g (n*1) e news 0 cur w hg (by simpa using hfit) h1;simp only[xI]at hst;have hr:(Builtin.append_ #[t,u] ty #[.slice (some ⟨g,0,none⟩) n cap,S]).run P w = .ok (.slice (some ⟨g,0,none⟩) (n+S.size) cap) (w.setRow g (cur.toList.take (n*1)++news++cur.toList.drop (n*1+news.length)).toArray):=(by simp only[Nat.mul_one]at hst ⊢;simp[Builtin.append_,run_underlying ht,run_underlying hu,sizeOf,typeInfo,hi,hsize,Builtin.lenOf,hroom,hf,Addr.add_lit,hst]);refine⟨_,_,hr,⟨hlen,.inr ⟨g,cap,_,rfl,hbg,setRow_heap w g cur _ e _ hg,hroom,hcm,?_,?_⟩⟩,⟨rfl,rfl,rfl,by simp,fun k _ hk=>setRow_other w g k _ (fun e=>hk (by simp[Value.ownBlock,e]))⟩,Or.inl rfl⟩;(·simp only[yJ,sF,tH,vJ,uU];omega);(·rw[htake,←hlen];exact List.take_left));(·have holds:∀j u,xs[j]?=some u→w.cell? ((⟨g,0,none⟩:Addr).add j)=some u:=hown.cells (g:=g) rfl;have hfo:=run_firstCells_some (P:=P) w.drew 1 n ⟨g,0,none⟩ n cap xs hown.1 (by simpa using holds);have h63':¬(9223372036854775807<((n:Int)+(S.size:Int))):=QZ;have h48':¬(281474976710656<Builtin.nextslicecap (n+S.size) cap*i.bytes):=(by have:=growslice_fits (old:=cap) (need:=n+S.size) (bytes:=i.bytes) QZ hbytes;omega);have hgr:=grown cap QZ (Value.ownBlock (.slice (some ⟨g,0,none⟩) n cap));refine⟨_,_,?_,hgr.1,hgr.2,Or.inr rfl⟩;simp[Builtin.append_,run_underlying ht,run_underlying hu,sizeOf,typeInfo,zeroValue,hi,hz,hsize,Builtin.lenOf,hroom,h63',h48',Question.forced,hf,hfo,newRow,grownCap];congr 2;apply Array.ext';simp[tA]))
end
theorem gE{P:Program}{w:World}{ops:Array Oper}{rest:List Oper}{o:Oper}{a:Act}(hgd:o.guard=none)(s x:Operand)(t t2:TypeId)
 (ho:o.op=.call { callee:=.builtin .append,args:=#[s,x],argTypes:=#[t,t2] }) (v y:Value) (hs:a.eval s=v) (hx:a.eval x=y) (R:Value→World→Prop)
 (hr:∃v' w',(Builtin.append_ #[t,t2] o.type #[v,y]).run P w=.ok v' w'∧R v' w') (h:∀v' w',R v' w'→wpList P ops Q rest (a.put o.dst v') w'):wpList P ops Q (o::rest) a w :=
 wpList_plain hgd fun _ hK=>by
  obtain⟨v',w',hrun,hR⟩:=hr
  unfold Oper.wp execOp;simp only[ho,resolve,invoke,builtin,xU,Sem.run_pure,yH,List.map_toArray,tB,wL,hs,hx,hrun];exact hK _ _ (h v' w' hR)
theorem reads_newC(wr:World)(t:TypeId)(l:List Value)(n:Nat)(hn:l.length=n)(cs:Array Value)(hcs:cs.toList=l)(H:Nat)(hH:wr.heap.size=H):aA (fun k=>k=H) (wr.alloc (.cells cs t)) 1 (some ⟨H,0,none⟩) n l:=by subst hH hn;refine⟨by simp,fun _=>⟨_,rfl,rfl,fun j u hu=>?_⟩⟩;have e:((⟨wr.heap.size,0,none⟩:Addr).add j)=⟨wr.heap.size,j,none⟩:=(by unfold Addr.add;split<;>simp_all);have hb:(wr.alloc (.cells cs t)).heap[wr.heap.size]?=some (.cells cs t):=heap_alloc_new wr _;rw[e,cell_of_row _ _ j _ _ _ hb,←hu,←hcs];simp
theorem Chg.put1{w:World}{g:Nat}(h:Chg (fun k=>k=g) a w)(i:Nat)(u:Value):Chg (fun k=>k=g) a (w.setCell ⟨g,i,none⟩ u):=h.setCell (p:=⟨g,i,none⟩) (.inl rfl) u
def dI(l:List UInt8)(most:Nat)(at_:Nat)(bad:Bool):Nat×Nat×Bool :=
 if bad then (0,at_,true) else
 match getN (l.drop at_) with
 |none=>(0,at_,true)
 |some (n,k)=>if n≤most then (n,at_+k,false) else (0,at_,true)
def qB(l:List UInt8)(at_:Nat)(bad:Bool):Int×Nat×Bool :=
 if bad then (0,at_,true) else
 match getS (l.drop at_) with
 |none=>(0,at_,true)
 |some (n,k)=>(n,at_+k,false)
theorem rdInt_bd{l:List UInt8}{at_:Nat}{bad:Bool}: -9223372036854775808≤(qB l at_ bad).1∧(qB l at_ bad).1≤9223372036854775807:=by unfold qB;split;(·simp);(·(cases h:getS (l.drop at_) with|none=>simp|some x =>obtain⟨n,k⟩:=x;unfold getS at h;(cases hg:getN (l.drop at_) with|none=>rw[hg]at h;cases h|some y =>obtain⟨m,k'⟩:=y;rw[hg]at h;simp only[wC,uK,vN]at h;obtain⟨rfl,_⟩:=h;exact unzz_bd (getN_lt hg))))
section
open Go
section
variable{P:Program}{ops:Array Oper}{md:Region.Mode}{w:World}
def rL(md:Region.Mode)(ops:Array Oper)(m n:Nat):Bool :=
 (List.range n).all fun i=>decide (i<m)||(List.range (n+1)).any fun j=>decide (i<j)&&Region.waitsFor md ops j i
theorem tail_waitsF{m n:Nat}(hs:rL md ops m n=true)(hc:Region.chainB md ops n=true)(hn:n<ops.size)(inv:HeadInv md ops n listed): ∀(d i:Nat),n-i=d→m≤i→i<n→listed.getD i true=false→∀t,n≤t→t∉Region.ready md ops listed:=by intro d;(induction d using Nat.strongRecOn with|_ d ih =>intro i hd hmi hi hun t ht hr;obtain⟨_,ot,hot,hall⟩:=mem_ready.1 hr;have htlt:t<ops.size:=(wA.1 hot).1;by_cases htn:t=n;(·subst htn;have h1:=uF.1 hs i (List.mem_range.2 hi);simp only[xT,tK]at h1;have h1:=h1.resolve_left QZ;obtain⟨j,hj,hj2⟩:=xF.1 h1;simp only[tL,tK]at hj2;obtain⟨oj,hoj,e,he,hb,hon⟩:=Region.waitsFor_spec hj2.2;have hjle:j≤t:=(by have:=List.mem_range.1 hj;omega);by_cases hjt:j=t;(·subst hjt;have:oj=ot:=tJ (hoj.symm.trans hot);subst this;have h2:=hall e he hb;rw[hon,getD_both hun]at h2;cases h2);(·(cases hl:listed.getD j false with|true =>have h2:=inv.closed j oj hoj hl e he hb;rw[hon,getD_both hun]at h2;cases h2|false =>have hjs:j<listed.size:=(by rw[inv.size];omega);exact ih (t-j) QZ j rfl QZ QZ (getD_in hjs hl) t (sE _) hr)));(·have h1:=uF.1 hc t (List.mem_range.2 htlt);simp only[xT,tK]at h1;rcases h1 with h1|h1;(·omega);(·obtain⟨o',ho',e,he,hb,hon⟩:=Region.waitsFor_spec h1;have:o'=ot:=tJ (ho'.symm.trans hot);subst this;have h2:=hall e he hb;rw[hon,getD_both (inv.tail (t-1) QZ QZ)]at h2;cases h2)))
theorem wpAnyL_firstF{m n i:Nat}{v:Value}{L:Array Bool→Act→Prop}(hi:ops[i]?=some oi)(hsel:∀(j:Nat) (o:Oper) cs b,ops[j]?=some o→o.op≠.select cs b) (hs:rL md ops m n=true) (hc:Region.chainB md ops n=true) (hn:n<ops.size) (hin:i<n) (hmi:m≤i) (hdone:∀listed a,L listed a→∀j∈Region.ready md ops listed,n≤j) : ∀(f:Nat) (listed:Array Bool) (a:Act),HeadInv md ops n listed → (∀j oj,ops[j]?=some oj→j≠i→listed.getD j true=false→(∀e∈oj.after,Region.binds md e=true→e.on≠i)→oi.apart ops oj=true) → i∈Region.ready md ops listed→YieldsAt P ops w oi v a → wpAnyL P md ops w n L f (listed.setIfInBounds i true) (a.put oi.dst v)→wpAnyL P md ops w n L (f+1) listed a:=by intro f;(induction f with|zero =>intro listed a inv _ hr hy H;have hun:=(mem_ready.1 hr).1;refine⟨fun h=>(by rw[h]at hr;cases hr),fun j hj=>?_⟩;have hjn:j<n:=(by rcases vM j n with h|h;(·exact h);(·exact absurd hj (tail_waitsF hs hc hn inv _ i rfl hmi hin hun j h)));refine⟨hjn,?_⟩;by_cases hji:j=i;(·subst hji;exact hy.stOp hi H);(·have:=hdone _ _ H j (ready_mono hj hji);omega)|succ f ih =>intro listed a inv hfree hr hy H;have hun:=(mem_ready.1 hr).1;refine⟨fun h=>(by rw[h]at hr;cases hr),fun j hj=>?_⟩;have hjn:j<n:=(by rcases vM j n with h|h;(·exact h);(·exact absurd hj (tail_waitsF hs hc hn inv _ i rfl hmi hin hun j h)));refine⟨hjn,?_⟩;by_cases hji:j=i;(·subst hji;exact hy.stOp hi H);(·have h1:=(H.2 j (ready_mono hj hji)).2;obtain⟨hjun,oj,hoj,hall⟩:=mem_ready.1 hj;have hnot:∀e∈oj.after,Region.binds md e=true→e.on≠i:=fun e he hb heq=>(by have h1:=hall e he hb;rw[heq,getD_both hun]at h1;cases h1);have h2:=stOp_put hoj (hfree j oj hoj hji hjun hnot) (fun cs b=>hsel i oi cs b hi) (fun cs b=>hsel j oj cs b hoj) hy h1;have hfree':∀k ok,ops[k]?=some ok→k≠i→(listed.setIfInBounds j true).getD k true=false → (∀e∈ok.after,Region.binds md e=true→e.on≠i)→oi.apart ops ok=true:=fun k ok hk hki hun hno=>(by refine hfree k ok hk hki ?_ hno;by_cases hjk:j=k;(·subst hjk;exact hjun);(·rw[getD_set_ne true hjk]at hun;exact hun));refine stOp_mono (fun a' h3=>ih (listed.setIfInBounds j true) a' (inv.set hj hjn) hfree' (ready_mono hr (Ne.symm hji)) h3.1 ?_) h2;rw[Array.setIfInBounds_comm _ _ hji];exact h3.2))
theorem wpAnyL_lexF{m n g:Nat}{Lq:Act→Prop}(hsel:Region.noSelect ops=true)(hs:rL md ops m n=true)(hc:Region.chainB md ops n=true)(hn:n<ops.size):
 ∀(l:List Oper) (k:Nat) (listed:Array Bool) (a:Act),(∀j,j<l.length→l[j]?=ops[k+j]?)→k+l.length=n→m≤k→HeadInv md ops n listed →
 Region.lexHead md ops g l.length k listed=true→wpStill P ops w Lq l a →
 wpAnyL P md ops w n (fun listed' a'=>Region.seqB md ops g n listed'=true∧Lq a') l.length listed a
 | [],k,listed,a,_,hk,_,_,hB,h=>by
   have:k=n:=by simpa using hk
   subst this;exact⟨by simpa[Region.lexHead] using hB,h⟩
 |o::l,k,listed,a,hl,hk,hmk,inv,hB,h=>by
  have h0:ops[k]?=some o:=by simpa using (hl 0 QM).symm
  simp only[sN,Region.lexHead,tL]at hB;obtain⟨⟨hr,hf⟩,hB'⟩:=hB
  have hkn:k<n:=by simp only[sN]at hk;omega
  have hr':k∈Region.ready md ops listed:=by simpa using hr
  have hst:stOp P ops w k (wpStill P ops w Lq l) a:=by unfold stOp;simp only[h0];exact h
  obtain⟨v,hy,hK⟩:=yieldsAt_of_stOp h0 hst
  exact wpAnyL_firstF h0 (Region.noSelect_spec hsel) hs hc hn hkn hmk (fun listed' a' hL=>seqB_ready hL.1) l.length listed a inv (Region.free_spec h0 hf) hr' hy
   (wpAnyL_lexF hsel hs hc hn l (k+1) _ _ (fun j hj=>by have:=hl (j+1) (by simp;omega);simpa[uI,Nat.add_comm 1 j] using this) (by simp only[sN]at hk;omega) QZ (inv.set hr' hkn) hB' hK)
end
def moveTailB(md:Region.Mode)(ops:Array Oper)(n:Nat):Bool :=
 Region.noSelect ops&&decide (n<ops.size)&&decide (1≤n)&&rL md ops 1 n&&Region.chainB md ops n&&Region.free md ops (Array.replicate ops.size false) 0&&(Region.ready md ops (Array.replicate ops.size false)).contains 0 &&
  Region.lexHead md ops (ops.size-n) (n-1) 1 ((Array.replicate ops.size false).setIfInBounds 0 true)
theorem gP{P:Program}{id:Nat}{a:Act}{w:World}{o:Oper}{l:List Oper}(n:Nat)(v:Value)(hm:P.follows .mixedOrders=true)(hB:moveTailB .any (o::l).toArray n=true) (hQ:∀c a w,Q (.panic c) (a.put o.dst v) w→Q (.panic c) a w) (hy:Yields P (o::l).toArray o v a) (h:wpStill P (o::l).toArray w.drew (fun a'=>wpList P (o::l).toArray Q (l.drop (n-1)) a' w.drew) (l.take (n-1)) (a.put o.dst v)):(Code.region id (o::l).toArray true).wp P Q a w:=by simp only[moveTailB,tL,tK]at hB;obtain⟨⟨⟨⟨⟨⟨⟨hsel,hn⟩,hn1⟩,hs⟩,hc⟩,hf⟩,hr⟩,hlex⟩:=hB;have hn':n<l.length+1:=(by simpa using hn);have hsz:(o::l).toArray.size=l.length+1:=QM;have inv0:HeadInv .any (o::l).toArray n (Array.replicate (o::l).toArray.size false) := ⟨by simp,fun j oj _ hl=>(by rw[getD_replicate_false]at hl;cases hl),fun t _ ht=>getD_in (by simpa using ht) (getD_replicate_false _ _)⟩;have hr':0∈Region.ready .any (o::l).toArray (Array.replicate (o::l).toArray.size false):=(by simpa using hr);have inv1:=inv0.set hr' QZ;have htl:(l.take (n-1)).length=n-1:=(by simp;omega);have hdl:(l.drop (n-1)).length=(o::l).toArray.size-n:=(by simp;omega);have H:=wpAnyL_lexF (md:=.any) (w:=w.drew) (m:=1) (g:=(o::l).toArray.size-n) hsel hs hc hn (l.take (n-1)) 1 _ _ (fun j hj=>by have hj':j<n-1:=(by rw[htl]at hj;exact hj);rw[List.getElem?_take_of_lt hj',show 1+j=j+1 from by omega];simp) (by rw[htl];omega) (sE _) inv1 (by rw[htl];exact hlex) h;refine wp_region_any hm ?_;have:=wpAny_of_head (Q':=Q) (g:=(o::l).toArray.size-n) (fun listed a' hL=>by have:=wpAny_of_seq (md:=.any) (Q':=Q) (l.drop (n-1)) n listed a' w.drew (fun j=>by rw[xE,show n+j=(n-1+j)+1 from by omega];simp) (by rw[hdl];exact hL.1) hL.2;rwa [hdl]at this) _ _ _ H;rw[htl,show n-1+((o::l).toArray.size-n)=l.length from by rw[hsz];omega]at this;show wpAny P .any (o::l).toArray Q (o::l).toArray.size _ a w.drew;rw[hsz];rw[hsz]at this hf hr;exact wpAny_take (i:=0) (oi:=o) QM hsel hf hr hQ hy this
end
theorem QJ{P:Program}{md:Region.Mode}{ops:Array Oper}(i:Nat){v:Value}{a:Act}{w:World}{q:Prop}(k:q)(hi:ops[i]?=some oi:=by rfl)(hs:Region.noSelect ops=true:=by kernel_rfl)(hf:Region.free md ops listed i=true:=by kernel_rfl)(hr:(Region.ready md ops listed).contains i=true:=by kernel_rfl)(hy:Yields P ops oi v a:=by refine Or.inl ⟨by rfl,?_⟩;intro w;go_simp;try with_reducible rfl)(hQ:∀c a w,Q (.panic c) (a.put oi.dst v) w→Q (.panic c) a w:=by exact fun _ _ _ h=>h)(hk:q→wpAny P md ops Q fuel (listed.setIfInBounds i true) (a.put oi.dst v) w:=by intro k;(try simp only[Act.put,zA,zB,zC]);exact k):wpAny P md ops Q (fuel+1) listed a w:=wpAny_take hi hs hf hr hQ hy (hk k)
theorem ZQ{l:List Oper}{i:Nat}{o:Oper}{r:List Oper}(h:l.drop i=o::r):l.toArray[i]?=some o:=by have h2:(l.drop i)[0]?=some o:=(by rw[h];rfl);rw[List.getElem?_drop]at h2;simpa using h2
theorem QU{P:Program}{md:Region.Mode}{l:List Oper}{S:World→Prop}(i:Nat){rest:List Oper}{v:Value}{a:Act}{w:World}{q:Prop}(hS:S w)(k:q)(hi:l.drop i=oi::rest:=by rfl)(hs:Region.noSelect l.toArray=true:=by kernel_rfl)(hf:Region.free md l.toArray listed i=true:=by kernel_rfl)(hr:(Region.ready md l.toArray listed).contains i=true:=by kernel_rfl)(hy:YieldsIf P l.toArray S oi v a:=by refine Or.inl ⟨by rfl,?_⟩;intro w _;go_simp;try with_reducible rfl)(hQ:∀c a w,Q (.panic c) (a.put oi.dst v) w→Q (.panic c) a w:=by exact fun _ _ _ h=>h)(hk:q→wpAnyH P md l.toArray Q S fuel (listed.setIfInBounds i true) (a.put oi.dst v) w:=by intro k;(try simp only[Act.put,zA,zB,zC]);exact k):wpAnyH P md l.toArray Q S (fuel+1) listed a w:=wpAnyH_take (ZQ hi) hs hf hr hQ hy hS (hk k)
theorem QY{w w':World}{g:Nat}{t:TypeId}{cs:Array Value}(h:Hid (Blk w g t cs))(hb:Below w.heap.size w w'):Hid (Blk w' g t cs):=Hi (h.o.keep (hb.block _ h.o.lt))
theorem QV{w:World}(h:Below w.heap.size w a)(k:Below a.heap.size a b):Below w.heap.size w b:=h.trans (k.mono h.size)
theorem QK{p q:Prop}(k:q)(h:q→p:=by intro k;refine hK _ _ ?_;(try simp only[Act.put,zA,zB,zC]);exact k):p:=h k
theorem QW{p q:Prop}(k:q)(h:q→p:=by intro k;(try simp only[Act.put,zA,zB,zC]);exact k):p:=h k
theorem ZZ{P:Program}{md:Region.Mode}{ops:Array Oper}(i:Nat){o:Oper}{a:Act}{w:World}(h:∀K':Act→World→Prop,(∀a w,wpAny P md ops Q fuel (listed.setIfInBounds i true) a w→K' a w)→if Region.wanted o (yielded ops a.tmps)=true then Oper.wp P o a w K' Q else K' (a.put o.dst undef) w)(ho:ops[i]?=some o:=by rfl)(hr:Region.ready md ops listed=[i]:=by kernel_rfl):wpAny P md ops Q (fuel+1) listed a w:=wpAny_ready hr (by simp) (AllReady.cons ho h AllReady.nil)
theorem ZX{w:World}(h:Hid (Below w.heap.size w a))(k:Below a.heap.size a b):Hid (Below w.heap.size w b):=Hi (QV h.o k)
theorem ZJ{w w0:World}{t:TypeId}{cs:Array Value}(hb:Below (w.alloc (.cells cs t)).heap.size (w.alloc (.cells cs t)) w0)(hlt:w.heap.size<(w.alloc (.cells cs t)).heap.size):Hid (Below w.heap.size w w0∧w.heap.size<w0.heap.size)∧Blk w0 w.heap.size t cs:=⟨Hi ⟨((Below.refl _ w).alloc (Nat.le_refl _) _).trans (hb.mono (by simp)),Nat.lt_of_lt_of_le hlt hb.size⟩,(Blk.new w t cs).keep (hb.block _ hlt)⟩
end Go.Proofs.YtmpkejflgpodkaaGreatDoor
