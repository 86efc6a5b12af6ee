/- Some hands in memory; what each does leaves them some hands. -/
import Derived.Test.YtjhkcbideddlgaaGreatP28
import Derived.Test.YtjhkcbideddlgaaGreatP27
import Derived.Test.YtjhkcbideddlgaaGreatP25
import Derived.Test.YtjhkcbideddlgaaGreatP1
import Derived.Deep.RegionHeld3
set_option maxHeartbeats 16000000
set_option linter.unusedVariables false
set_option linter.unusedSimpArgs false
namespace Go.Proofs.YtjhkcbideddlgaaGreat
open Go.ChangeShapes Go.WideShapes Go.ChangeAt Go.RowKit
section
structure HandsM(B n:Nat)(Q D:Nat→Prop)(F:Nat→Nat→Prop)(w:World)(G:Nat→Nat)(H:Nat→HandD):Prop where
 each:∀i,i<n→HMx D (F i) w (G i) (H i)
 sep:∀i j,i<n→j<n→i≠j→∀k,F i k→¬F j k
 lowD:∀k,D k→B≤k∧k<w.heap.size
 lowF:∀i,i<n→∀k,F i k→B≤k∧k<w.heap.size
 away:∀k,Q k→¬D k∧∀i,i<n→¬F i k
 inv:∀i,i<n→HandI (H i)
def cE(B n:Nat)(Q:Nat→Prop)(w:World)(G:Nat→Nat):Prop:=∃D F H,HandsM B n Q D F w G H
section
variable{B n:Nat}{Q Q':Nat→Prop}{w w':World}{G:Nat→Nat}
theorem HMx.keep{D F:Nat→Prop}{g:Nat}{h:HandD}(m:HMx D F w g h)(hs:w.heap.size≤w'.heap.size)(kD:∀k,D k→w'.heap[k]?=w.heap[k]?)(kF:∀k,F k→w'.heap[k]?=w.heap[k]?):HMx D F w' g h:=by
 obtain⟨FB,gb,VL,VW,VP,m⟩:=m
 exact⟨FB,gb,VL,VW,VP,m.keep hs kD kF⟩
theorem cE.chg(h:cE B n Q w G)(hc:Chg Q w w'):cE B n Q w' G:=by
 obtain⟨D,F,H,h1,h2,h3,h4,h5,h6⟩:=h
 refine⟨D,F,H,fun i hi=>(h1 i hi).keep hc.size (fun k hk=>hc.block k (h3 k hk).2 fun e=>(h5 k e).1 hk) (fun k hk=>hc.block k (h4 i hi k hk).2 fun e=>(h5 k e).2 i hi hk),h2,fun k hk=>⟨(h3 k hk).1,sD (h3 k hk).2 hc.size⟩,fun i hi k hk=>⟨(h4 i hi k hk).1,sD (h4 i hi k hk).2 hc.size⟩,h5,h6⟩
theorem cE.below(h:cE B n Q w G)(hb:Below w.heap.size w w'):cE B n Q w' G:=h.chg (Chg.of_below hb)
theorem cE.setQ(h:cE B n Q w G)(hq:∀k,Q' k→Q k∨w.heap.size≤k):cE B n Q' w G:=by
 obtain⟨D,F,H,h1,h2,h3,h4,h5,h6⟩:=h
 refine⟨D,F,H,h1,h2,h3,h4,fun k hk=>?_,h6⟩
 rcases hq k hk with e|e
 ·exact h5 k e
 ·exact⟨fun h=>by have:=(h3 k h).2;omega,fun i hi h=>by have:=(h4 i hi k h).2;omega⟩
def qA(B n:Nat)(Q:Nat→Prop)(w w':World)(G:Nat→Nat):Prop:=cE B n Q w' G∧(∀k,Q k→w'.heap[k]?=w.heap[k]?)∧Below B w w'
theorem HandsM.step{D:Nat→Prop}{F:Nat→Nat→Prop}{H:Nat→HandD}(m:HandsM B n Q D F w G H)(hB:B≤w.heap.size)(hQ:∀k,Q k→k<w.heap.size){i:Nat}(hi:i<n){h':HandD}(hh:HandI h')(hr:kA D (F i) w w' (G i) h'):qA B n Q w' w' G∧qA B n Q w w' G:=by
 obtain⟨D',F',m',r1,r2,r3,r4⟩:=hr
 obtain⟨h1,h2,h3,h4,h5,h6⟩:=m
 have hs:=r4.size;have hlt:(∀k,D' k→k<w'.heap.size)∧∀k,F' k→k<w'.heap.size:=by obtain⟨_,_,_,_,_,mm⟩:=m';exact mm.hlt
 have hdf:∀k,D' k→¬F' k:=by obtain⟨_,_,_,_,_,mm⟩:=m';exact mm.hD
 have hx:cE B n Q w' G:=by
  refine⟨D',fun j=>if j=i then F' else F j,fun j=>if j=i then h' else H j,fun j hj=>?_,fun a b ha hb hne k hk=>?_,fun k hk=>⟨?_,hlt.1 k hk⟩,fun j hj k hk=>?_,fun k hk=>⟨fun e=>?_,fun j hj e=>?_⟩,fun j hj=>?_⟩
  ·by_cases e:j=i
   ·subst e;simp only[tA];exact m'
   ·simp only[sT e];obtain⟨FB,gb,VL,VW,VP,mj⟩:=h1 j hj
    have mk:=mj.keep (w':=w') hs (fun k hk=>r4.block k (h3 k hk).2 fun e'=>by
     obtain⟨_,_,_,_,_,mi⟩:=h1 i hi
     exact mi.hD k hk e') (fun k hk=>r4.block k (h4 j hj k hk).2 fun e'=>h2 i j hi hj (fun e''=>e e''.symm) k e' hk)
    exact⟨FB,gb,VL,VW,VP,mk.moreD r1 fun k hk=>⟨hlt.1 k hk,fun e'=>by
     rcases r2 k hk with h|h|h
     ·exact mj.hD k h e'
     ·exact h2 i j hi hj (fun e''=>e e''.symm) k h e'
     ·have:=(h4 j hj k e').2;omega⟩⟩
  ·by_cases ea:a=i
   ·subst ea;have eb:¬b=a:=fun e=>hne e.symm
    simp only[tA,sT eb]at hk ⊢;intro hk2;rcases r3 k hk with h|h
    ·exact h2 a b ha hb hne k h hk2
    ·have:=(h4 b hb k hk2).2;omega
   ·simp only[sT ea]at hk;by_cases eb:b=i
    ·subst eb;simp only[tA];intro hk2;rcases r3 k hk2 with h|h
     ·exact h2 a b ha hb hne k hk h
     ·have:=(h4 a ha k hk).2;omega
    ·simp only[sT eb];exact h2 a b ha hb hne k hk
  ·rcases r2 k hk with h|h|h
   ·exact(h3 k h).1
   ·exact(h4 i hi k h).1
   ·omega
  ·by_cases e:j=i
   ·subst e;simp only[tA]at hk;refine⟨?_,hlt.2 k hk⟩
    rcases r3 k hk with h|h
    ·exact(h4 j hj k h).1
    ·omega
   ·simp only[sT e]at hk;exact⟨(h4 j hj k hk).1,sD (h4 j hj k hk).2 hs⟩
  ·rcases r2 k e with h|h|h
   ·exact(h5 k hk).1 h
   ·exact(h5 k hk).2 i hi h
   ·have:=hQ k hk;omega
  ·by_cases ej:j=i
   ·subst ej;simp only[tA]at e;rcases r3 k e with h|h
    ·exact(h5 k hk).2 j hj h
    ·have:=hQ k hk;omega
   ·simp only[sT ej]at e;exact(h5 k hk).2 j hj e
  ·by_cases e:j=i
   ·subst e;simp only[tA];exact hh
   ·simp only[sT e];exact h6 j hj
 exact⟨⟨hx,fun _ _=>rfl,sA _ _⟩,hx,fun k hk=>r4.block k (hQ k hk) ((h5 k hk).2 i hi),r4.below hB fun k hk=>(h4 i hi k hk).1⟩
theorem jX(x:cE B n Q w G)(hB:B≤w.heap.size)(hQ:∀k,Q k→k<w.heap.size){i:Nat}(hi:i<n)(o:OpD)(hok:1≤o.k)(hov:IntKind.i64.wrap o.vn=o.vn)(hou:o.ins=false):
 Calls Tryz.prog 28 #[.pointer (some ⟨G i,0,none⟩),opV0 o] w fun e w'=>(∃a b k:Int,e=.returned (.tuple #[.agg #[.int .i64 a,.int .i64 b],.int .i64 k])∧eL (a,b))∧qA B n Q w w' G:=by
 obtain⟨D,F,H,m⟩:=x
 obtain⟨FB,gb,VL,VW,VP,mi⟩:=m.each i hi
 refine(hDoKey_any mi (m.inv i hi) o hok hov hou).mono ?_
 rintro e w' ⟨h',a,b,k,rfl,hr,hh,hres⟩;exact⟨⟨a,b,k,rfl,hr⟩,(m.step hB hQ hi hh hres).2⟩
theorem nT(x:cE B n Q w G)(hB:B≤w.heap.size)(hQ:∀k,Q k→k<w.heap.size){i:Nat}(hi:i<n)(o:OpD)(hok:1≤o.k)(hov:IntKind.i64.wrap o.vn=o.vn)(hoe:o.en=0)(at_:Int):
 Calls Tryz.prog 31 #[.pointer (some ⟨G i,0,none⟩),opV0 o,.int .i64 at_] w fun e w'=>(∃a b k:Int,e=.returned (.tuple #[.agg #[.int .i64 a,.int .i64 b],.int .i64 k])∧eL (a,b))∧qA B n Q w w' G:=by
 obtain⟨D,F,H,m⟩:=x
 obtain⟨FB,gb,VL,VW,VP,mi⟩:=m.each i hi
 refine(hDo_any mi (m.inv i hi) o hok hov hoe at_).mono ?_
 rintro e w' ⟨h',a,b,k,rfl,hr,hh,hres⟩;exact⟨⟨a,b,k,rfl,hr⟩,(m.step hB hQ hi hh hres).2⟩
theorem pR(x:cE B n Q w G)(hB:B≤w.heap.size)(hQ:∀k,Q k→k<w.heap.size){i:Nat}(hi:i<n):
 Calls Tryz.prog 32 #[.pointer (some ⟨G i,0,none⟩)] w fun e w'=>(∃v,e=.returned v)∧qA B n Q w w' G:=by
 obtain⟨D,F,H,m⟩:=x
 obtain⟨FB,gb,VL,VW,VP,mi⟩:=m.each i hi
 refine(hCommit_any mi (m.inv i hi)).mono ?_
 rintro e w' ⟨h',a,b,k,rfl,hr,hh,hres⟩;exact⟨⟨_,rfl⟩,(m.step hB hQ hi hh hres).2⟩
theorem handsMerge(x:cE B n Q w G)(hB:B≤w.heap.size)(hQ:∀k,Q k→k<w.heap.size){i j:Nat}(hi:i<n)(hj:j<n):
 Calls Tryz.prog 33 #[.pointer (some ⟨G i,0,none⟩),.pointer (some ⟨G j,0,none⟩)] w fun e w'=>(∃v,e=.returned v)∧qA B n Q w w' G:=by
 obtain⟨D,F,H,m⟩:=x
 obtain⟨FB,gb,VL,VW,VP,mi⟩:=m.each i hi
 obtain⟨FB2,gb2,VL2,VW2,VP2,mj⟩:=m.each j hj
 refine(hMerge_any mi (m.inv i hi) mj (m.inv j hj)).mono ?_
 rintro e w' ⟨h',a,k,rfl,hh,hres⟩;exact⟨⟨_,rfl⟩,(m.step hB hQ hi hh hres).2⟩
theorem cE.drop(x:cE B n Q w G)(hB:B≤w.heap.size)(hQ:∀k,Q k→k<w.heap.size){i:Nat}(hi:i<n):qA B n Q w (w.setCell ⟨G i,2,none⟩ (.slice none 0 0)) G:=by
 obtain⟨D,F,H,m⟩:=x
 obtain⟨FB,gb,VL,VW,VP,mi⟩:=m.each i hi
 refine(m.step hB hQ hi (m.inv i hi).drop (w':=w.setCell ⟨G i,2,none⟩ (.slice none 0 0)) ?_).2
 have hset:∀k,k≠G i→(w.setCell ⟨G i,2,none⟩ (.slice none 0 0)).heap[k]?=w.heap[k]?:=fun k hk=>sU _ _ _ _ hk
 refine⟨D,fun k=>k=G i∨FB k,⟨FB,gb,VL,VW,.slice none 0 0,⟨mi.blk.set_ 2 _,mi.bm.keep (by simp) (fun k hk=>hset k fun e=>mi.hD k hk (e▸mi.inG)) (fun k hk=>hset k fun e=>mi.ng (e▸hk)),bB _ _ _ _,(fun o ho=>by cases ho),fun k=>⟨fun e=>e.elim .inl fun e=>.inr (.inl e),fun e=>e.elim .inl fun e=>e.elim .inr fun e=>by cases e⟩,fun k hk e=>?_⟩⟩,fun _ h=>h,fun _ h=>.inl h,fun k hk=>?_,(Chg.refl w).setCell (.inl mi.inG) _⟩
 ·rcases e with e|e
  ·exact mi.hD k hk (e▸mi.inG)
  ·exact mi.hD k hk (mi.inB e)
 ·rcases hk with e|e
  ·exact .inl (e▸mi.inG)
  ·exact .inl (mi.inB e)
theorem cE.cells(x:cE B n Q w G){i:Nat}(hi:i<n):∃(a:Int) (gb:Nat) (v:Value) (L W:List ChD) (D:Nat→Prop),Blk w (G i) 83 #[.int .i64 a,.pointer (some ⟨gb,0,none⟩),v]∧BR w gb L W∧Inv L W∧(∀c∈L,ChIn D w c)∧∀k,D k→B≤k∧k<w.heap.size:=by
 obtain⟨D,F,H,m⟩:=x
 obtain⟨FB,gb,VL,VW,VP,mi⟩:=m.each i hi
 exact⟨_,gb,VP,_,_,D,mi.blk,mi.bm.br,(m.inv i hi).inv,mi.bm.inL,m.lowD⟩
end
end
section
theorem cE.nil(B:Nat)(Q:Nat→Prop)(w:World)(G:Nat→Nat):cE B 0 Q w G :=
 ⟨fun _=>False,fun _ _=>False,fun _=>⟨1,[],[],[]⟩,fun i hi=>by omega,fun i j hi=>by omega,fun k hk=>hk.elim,fun i hi=>by omega,fun k _=>⟨id,fun i hi=>by omega⟩,fun i hi=>by omega⟩
theorem cE.low{B B0 n:Nat}{Q Q':Nat→Prop}{w:World}{G:Nat→Nat}(x:cE B n Q w G)(hB:B0≤B)(hQ:∀k,Q' k→Q k∨k<B):cE B0 n Q' w G:=by
 obtain⟨D,F,H,m⟩:=x
 refine⟨D,F,H,m.each,m.sep,fun k hk=>⟨sY hB (m.lowD k hk).1,(m.lowD k hk).2⟩,fun i hi k hk=>⟨sY hB (m.lowF i hi k hk).1,(m.lowF i hi k hk).2⟩,fun k hk=>?_,m.inv⟩
 rcases hQ k hk with h|h
 ·exact m.away k h
 ·exact⟨fun e=>by have:=(m.lowD k e).1;omega,fun i hi e=>by have:=(m.lowF i hi k e).1;omega⟩
theorem cE.add{B n:Nat}{Q:Nat→Prop}{w:World}{G:Nat→Nat}(x:cE B n Q w G)(hB:B≤w.heap.size)(hQ:∀k,Q k→k<w.heap.size)(a:Int)(ha:1≤a∧a≤99):
 Calls Tryz.prog 26 #[.int .i64 a] w fun e w'=>∃g,e=.returned (.pointer (some ⟨g,0,none⟩))∧cE B (n+1) Q w' (fun j=>if j=n then g else G j)∧Below w.heap.size w w':=by
 obtain⟨D,F,H,m⟩:=x
 refine(hNew_any a D w (fun k hk=>(m.lowD k hk).2)).mono ?_
 rintro e w' ⟨g,F',rfl,m',hF',hb⟩;have hs:=hb.size;have hlt:∀k,F' k→k<w'.heap.size:=by obtain⟨_,_,_,_,_,mm⟩:=m';exact mm.hlt.2
 refine⟨g,rfl,⟨D,fun j=>if j=n then F' else F j,fun j=>if j=n then ⟨a,[],[],[]⟩ else H j,fun i hi=>?_,fun i j hi hj hne k hk hk2=>?_,fun k hk=>⟨(m.lowD k hk).1,sD (m.lowD k hk).2 hs⟩,fun i hi k hk=>?_,fun k hk=>⟨(m.away k hk).1,fun i hi e=>?_⟩,fun i hi=>?_⟩,hb⟩
 ·by_cases e:i=n
  ·simp only[tA e];exact m'
  ·simp only[sT e];exact(m.each i (by omega)).keep hs (fun k hk=>hb.block k (m.lowD k hk).2) fun k hk=>hb.block k (m.lowF i (by omega) k hk).2
 ·by_cases ei:i=n
  ·have ej:¬j=n:=by omega
   simp only[tA ei,sT ej]at hk hk2;have h1:=hF' k hk;have h2:=(m.lowF j (by omega) k hk2).2;omega
  ·simp only[sT ei]at hk;by_cases ej:j=n
   ·simp only[tA ej]at hk2;have h1:=hF' k hk2;have h2:=(m.lowF i (by omega) k hk).2;omega
   ·simp only[sT ej]at hk2;exact m.sep i j (by omega) (by omega) hne k hk hk2
 ·by_cases e:i=n
  ·simp only[tA e]at hk;exact⟨sY hB (hF' k hk),hlt k hk⟩
  ·simp only[sT e]at hk;exact⟨(m.lowF i (by omega) k hk).1,sD (m.lowF i (by omega) k hk).2 hs⟩
 ·by_cases ei:i=n
  ·simp only[tA ei]at e;have h1:=hF' k e;have h2:=hQ k hk;omega
  ·simp only[sT ei]at e;exact(m.away k hk).2 i (by omega) e
 ·by_cases e:i=n
  ·simp only[tA e];exact HandI.nil ha
  ·simp only[sT e];exact m.inv i (by omega)
def jG(G:Nat→Nat)(n:Nat):List Value:=(List.range n).map fun k=>.pointer (some ⟨G k,0,none⟩)
theorem ptrs_at{G:Nat→Nat}{n k:Nat}(h:k<n):(jG G n)[k]?=some (.pointer (some ⟨G k,0,none⟩)):=by
 unfold jG;rw[uQ,List.getElem?_range h];rfl
theorem ptrs_snoc(G:Nat→Nat)(n g:Nat):jG (fun j=>if j=n then g else G j) (n+1)=jG G n++[.pointer (some ⟨g,0,none⟩)]:=by
 unfold jG;rw[List.range_succ,tN,List.map_singleton];simp only[↓reduceIte];congr 1;refine List.map_congr_left fun k hk=>?_
 have:=List.mem_range.1 hk
 have e:¬k=n:=by omega
 simp only[sT e]
theorem infoHp:(Tryz.prog.info? 70).map (fun i=>(i.zero,i.size,i.bytes))=some (some (.pointer none),1,8):=by kernel_rfl
structure Rnd(w:World)(n:Nat)(G:Nat→Nat)(vo vh:Value)(no:Nat)(OC:List Value)(qo qn:Nat)(o1 o2:Int)(V:World):Prop where
 hx:cE w.heap.size n (fun k=>vo.ownBlock=some k∨vh.ownBlock=some k∨k=qo∨k=qn) V G
 ob:Blk V qo 48 #[.int .i64 o1,.int .i64 o2]
 wb:∃a b,Blk V qn 48 #[.int .i64 a,.int .i64 b]∧eL (a,b)
 ro:V.ownsRow w.heap.size 48 2 vo no OC
 rh:V.ownsRow w.heap.size 70 1 vh n (jG G n)
 bl:Below w.heap.size w V
 ne:vo.ownBlock≠some qn
section
variable{w:World}{n:Nat}{G:Nat→Nat}{vo vh:Value}{no:Nat}{OC:List Value}{qo qn:Nat}{o1 o2:Int}{V V':World}
theorem Rnd.lt(r:Rnd w n G vo vh no OC qo qn o1 o2 V):∀k,(vo.ownBlock=some k∨vh.ownBlock=some k∨k=qo∨k=qn)→k<V.heap.size:=fun k hk=>by
 rcases hk with e|e|e|e
 ·exact(aD r.ro e).2
 ·exact(aD r.rh e).2
 ·rw[e];exact r.ob.lt
 ·obtain⟨a,b,h,-⟩:=r.wb
  rw[e];exact h.lt
theorem Rnd.with(r:Rnd w n G vo vh no OC qo qn o1 o2 V)(hx:cE w.heap.size n (fun k=>vo.ownBlock=some k∨vh.ownBlock=some k∨k=qo∨k=qn) V' G)
 (hk:∀k,(vo.ownBlock=some k∨vh.ownBlock=some k∨k=qo∨k=qn)→V'.heap[k]?=V.heap[k]?) (hb:Below w.heap.size V V'):Rnd w n G vo vh no OC qo qn o1 o2 V':=by
 obtain⟨a,b,h,hi⟩:=r.wb
 exact⟨hx,r.ob.keep (hk _ (.inr (.inr (.inl rfl)))),⟨a,b,h.keep (hk _ (.inr (.inr (.inr rfl)))),hi⟩,aT r.ro fun k e=>hk k (.inl e),aT r.rh fun k e=>hk k (.inr (.inl e)),r.bl.trans hb,r.ne⟩
theorem Rnd.below(r:Rnd w n G vo vh no OC qo qn o1 o2 V)(hb:Below V.heap.size V V'):Rnd w n G vo vh no OC qo qn o1 o2 V' :=
 r.with (r.hx.below hb) (fun k hk=>hb.block k (r.lt k hk)) (hb.mono r.bl.size)
theorem Rnd.drew(r:Rnd w n G vo vh no OC qo qn o1 o2 V):Rnd w n G vo vh no OC qo qn o1 o2 V.drew:=r.below (sA _ V).drew
theorem Rnd.step(r:Rnd w n G vo vh no OC qo qn o1 o2 V)(s:qA w.heap.size n (fun k=>vo.ownBlock=some k∨vh.ownBlock=some k∨k=qo∨k=qn) V V' G):Rnd w n G vo vh no OC qo qn o1 o2 V' :=
 r.with s.1 s.2.1 s.2.2
theorem Rnd.setw(r:Rnd w n G vo vh no OC qo qn o1 o2 V)(hq:qo≠qn)(hw:w.heap.size≤qn){a b:Int}(hi:eL (a,b)):Rnd w n G vo vh no OC qo qn o1 o2 ((V.setCell ⟨qn,0,none⟩ (.int .i64 a)).setCell ⟨qn,1,none⟩ (.int .i64 b)):=by
 obtain⟨x,y,h,-⟩:=r.wb
 have hset:∀k,k≠qn→((V.setCell ⟨qn,0,none⟩ (.int .i64 a)).setCell ⟨qn,1,none⟩ (.int .i64 b)).heap[k]?=V.heap[k]?:=fun k hk=>(sU _ _ _ _ hk).trans (sU _ _ _ _ hk)
 have hch:Chg (fun k=>vo.ownBlock=some k∨vh.ownBlock=some k∨k=qo∨k=qn) V ((V.setCell ⟨qn,0,none⟩ (.int .i64 a)).setCell ⟨qn,1,none⟩ (.int .i64 b)):=((Chg.refl V).setCell (.inl (.inr (.inr (.inr rfl)))) _).setCell (.inl (.inr (.inr (.inr rfl)))) _;exact⟨r.hx.chg hch,r.ob.keep (hset _ hq),⟨a,b,(h.set_ 0 _).set_ 1 _,hi⟩,aT r.ro fun k e=>hset k fun e'=>r.ne (e'▸e),aT r.rh fun k e=>hset k fun e'=>dI r.rh h (by decide) (e'▸e),(r.bl.setCell (p:=⟨qn,0,none⟩) hw _).setCell (p:=⟨qn,1,none⟩) hw _,r.ne⟩
end
theorem atS_any{w:World}(a:iM)(ha:a.ok w){V:World}(hv:Below w.heap.size w V)(i:Int)(hi:0≤i):
 Calls Tryz.prog 27 #[a.val,.int .i64 i] V fun e w'=>(∃x:Int,e=.returned (.int .i64 x)∧(-9223372036854775808≤x∧x≤9223372036854775807)∧IntKind.i64.wrap x=x)∧w'=V:=by
 obtain⟨k,rfl⟩:∃k:Nat,i=k:=⟨i.toNat,by omega⟩
 have hr:aC (fun k=>k<w.heap.size) V 1 a.1 a.2.2.length (iS a.2.2):=ha.2.2.1.keep fun k hk=>hv.block k hk
 refine(at_any a.2.2 k _ a.1 a.2.1 V hr).mono ?_
 rintro e w' ⟨rfl,rfl⟩;have hx:(Lit.int .i64 (a.2.2.getD k 0)).wf=true:=by
  rw[vM];cases h:a.2.2[k]? with
  |none=>rfl
  |some x=>exact ha.2.2.2 x (sJ h)
 refine⟨⟨_,rfl,?_,wrap_wf hx⟩,rfl⟩
 have h2:=wrap_wf hx;have h3:wrap64 (a.2.2.getD k 0)=a.2.2.getD k 0:=by rw[←IntWalk.i64_left];exact h2
 unfold wrap64 at h3;omega
end
section
open Go.ChangeShapes Go.WideShapes Go.ChangeAt Go.RowKit Go.Proofs.YtjhkcbideddlgaaGreat.Loc
def pJ(n:Nat):Code→Option Code
 | .region k o d=>if k=n then some (.region k o d) else none
 | .seq a b=>match pJ n a with
   |some c=>some c
   |none=>pJ n b
 | .loop c=>pJ n c
 | .block _ c=>pJ n c
 | .scope c=>pJ n c
 | .cond _ a b=>match pJ n a with
   |some c=>some c
   |none=>pJ n b
 |_=>none
noncomputable def chR (n:Nat):Code:=(Tryz.f6.body.bind (pJ n)).getD .skip
theorem bldA(k o1 o2 vk vn va vb:Int)(ky vt:ByteArray)(w:World):(Instr.build 53 #[(0,.int .i64 k),(1,.agg #[.int .i64 o1,.int .i64 o2]),(2,.string ky),(5,.agg #[.int .i64 vk,.int .i64 vn,.string vt,.int .i64 va,.int .i64 vb])]).run Tryz.prog w=.ok (.agg #[.int .i64 k,.int .i64 o1,.int .i64 o2,.string ky,.int .i64 0,.int .i64 0,.bool false,.int .i64 vk,.int .i64 vn,.string vt,.int .i64 va,.int .i64 vb,.slice none 0 0]) w:=by kernel_rfl
theorem bldB(k o1 o2:Int)(ky:ByteArray)(w:World):(Instr.build 53 #[(0,.int .i64 k),(1,.agg #[.int .i64 o1,.int .i64 o2]),(2,.string ky)]).run Tryz.prog w=.ok (.agg #[.int .i64 k,.int .i64 o1,.int .i64 o2,.string ky,.int .i64 0,.int .i64 0,.bool false,.int .i64 0,.int .i64 0,.string ⟨#[]⟩,.int .i64 0,.int .i64 0,.slice none 0 0]) w:=by kernel_rfl
theorem bldC(k o1 o2 vk vn va vb:Int)(vt:ByteArray)(w:World):(Instr.build 53 #[(0,.int .i64 k),(1,.agg #[.int .i64 o1,.int .i64 o2]),(4,.bool true),(5,.agg #[.int .i64 vk,.int .i64 vn,.string vt,.int .i64 va,.int .i64 vb])]).run Tryz.prog w=.ok (.agg #[.int .i64 k,.int .i64 o1,.int .i64 o2,.string ⟨#[]⟩,.int .i64 0,.int .i64 0,.bool true,.int .i64 vk,.int .i64 vn,.string vt,.int .i64 va,.int .i64 vb,.slice none 0 0]) w:=by kernel_rfl
theorem bldD(k o1 o2 vk vn va vb:Int)(vt:ByteArray)(w:World):(Instr.build 53 #[(0,.int .i64 k),(1,.agg #[.int .i64 o1,.int .i64 o2]),(5,.agg #[.int .i64 vk,.int .i64 vn,.string vt,.int .i64 va,.int .i64 vb])]).run Tryz.prog w=.ok (.agg #[.int .i64 k,.int .i64 o1,.int .i64 o2,.string ⟨#[]⟩,.int .i64 0,.int .i64 0,.bool false,.int .i64 vk,.int .i64 vn,.string vt,.int .i64 va,.int .i64 vb,.slice none 0 0]) w:=by kernel_rfl
theorem bldE(k o1 o2:Int)(w:World):(Instr.build 53 #[(0,.int .i64 k),(1,.agg #[.int .i64 o1,.int .i64 o2])]).run Tryz.prog w=.ok (.agg #[.int .i64 k,.int .i64 o1,.int .i64 o2,.string ⟨#[]⟩,.int .i64 0,.int .i64 0,.bool false,.int .i64 0,.int .i64 0,.string ⟨#[]⟩,.int .i64 0,.int .i64 0,.slice none 0 0]) w:=by kernel_rfl
theorem bldV(k:Int)(w:World):(Instr.build 50 #[(0,.int .i64 k)]).run Tryz.prog w=.ok (.agg #[.int .i64 k,.int .i64 0,.string ⟨#[]⟩,.int .i64 0,.int .i64 0]) w:=by kernel_rfl
theorem bldW(k v:Int)(w:World):(Instr.build 50 #[(0,.int .i64 k),(1,.int .i64 v)]).run Tryz.prog w=.ok (.agg #[.int .i64 k,.int .i64 v,.string ⟨#[]⟩,.int .i64 0,.int .i64 0]) w:=by kernel_rfl
theorem pick2_any(k:Int)(w:World)(hk:-9223372036854775808≤k∧k≤9223372036854775807):Calls Tryz.prog 10 #[.int .i64 k,.int .i64 2] w fun e w'=>(∃p:Nat,p<2∧e=.returned (.int .i64 p))∧w'=w:=by
 refine Calls.mono (gI k 2 w hk ⟨by omega,by omega⟩) ?_;rintro e w' ⟨⟨p,h1,-,h2⟩,h3⟩;exact⟨⟨p,h1,h2⟩,h3⟩
end
section
open Go.ChangeShapes Go.WideShapes Go.ChangeAt Go.RowKit Go.Proofs.YtjhkcbideddlgaaGreat.Loc
set_option maxRecDepth 40000 in
theorem chs18{w w6:World}{i no q ob oo cO hb ho cH p:Nat}{G:Nat→Nat}{O:List Rf}{o1 o2:Int}{a:iM}(hp:p<i)(HQW:Hid (w.heap.size≤q))(HR0:Hid (Rnd w i G (.slice (some ⟨ob,oo,none⟩) no cO) (.slice (some ⟨hb,ho,none⟩) i cH) no (aF O) q (q+1) o1 o2 w6))
 (ATC:Hid (∀V,Below w.heap.size w V→∀i:Int,0≤i→Calls Tryz.prog 27 #[a.val,.int .i64 i] V fun e w'=>(∃x:Int,e=.returned (.int .i64 x)∧(-9223372036854775808≤x∧x≤9223372036854775807)∧IntKind.i64.wrap x=x)∧w'=V))
 {Q:Exit→Act→World→Prop} (hP:∀(c:_) (a:Act) (d:_) (v:Value) (w:World),Q (.panic c) (a.put d v) w→Q (.panic c) a w) (u0 u1 u2 u3 u4 u5 u6 u7 u8 u9 u14 u15 u16 u17 u18 u19 u20 u21 u22 u23 u24 u25 u26 u27 u28 u29 u30 u31 u32 u33 u34 u35 u36 u37 u38 u39 u40 u41 u42 u43 u44 u45 u46 u47 u48 u49 u50 u51 u52 u53 u54 u55 u56 u57 u58 u59 u60 u61 u62 u63 u64 u65 u66 u67 u68 u69 u70 u71 u72 u73 u74 u75 u76 u77 u78 u79 u80 u81 u82 u83 u84 u85 u86 u87 u88 u89 u90 u91 u92 u93 u94 u95 u96 u97 u98 u99 u100 u101 u102 u103 u104 u105 u106 u107 u108 u109 u110 u111 u112 u113 u114 u115 u116 u117 u118 u119 u120 u121 u122 u123 u124 u125 u126 u127 u128 u129 u130 u131 u132 u133 u134 u135 u136 u137 u138 u139 u140 u141 u142 u143 u144 u145 u146 u147 u148 u149 u150 u151 u152 u153 u154 u155 u156 u157 u158 u159 u160 u161 u162 u163 u164 u165 u166 u167 u168 u169 u170 u171 u172 u173 u174 u175 u176 u177 u178 u179 u180 u181 u182 u183 u184 u185 u186 u187 u188 u189 u190 u191 u192 u193 u194 u195 u196 u197 u198 u199 u200 u201 u202 u203 u204 u205 u206 u207 u208 u209 u210 u211 u212 u213 u214 u215 u216 u217 u218 u219 u220 u221 u222 u223 u224 u225 u226 u227 u228 u229:Value)
 (hK:∀(v77 v78 v79 v80 v81 v82 v83 v84 v85 v86:Value) (w':World),Rnd w i G (.slice (some ⟨ob,oo,none⟩) no cO) (.slice (some ⟨hb,ho,none⟩) i cH) no (aF O) q (q+1) o1 o2 w'→Q .normal ⟨#[u0,u1,u2,u3,u4,u5,u6,u7,u8,u9,a.val,.pointer (some ⟨G p,0,none⟩),.pointer (some ⟨q,0,none⟩),.pointer (some ⟨q+1,0,none⟩),u14,u15,u16,u17,u18,u19,u20,u21,u22,u23,u24,u25,u26,u27,u28,u29,u30,u31,u32,u33,u34,u35,u36,u37,u38,u39,u40,u41,u42,u43,u44,u45,u46,u47,u48,u49,u50,u51,u52,u53,u54,u55,u56,u57,u58,u59,u60,u61,u62,u63,u64,u65,u66,u67,u68,u69,u70,u71,u72,u73,u74,u75,u76,v77,v78,v79,v80,v81,v82,v83,v84,v85,v86,u87,u88,u89,u90,u91,u92,u93,u94,u95,u96,u97,u98,u99,u100,u101,u102,u103,u104,u105,u106,u107,u108,u109,u110,u111,u112,u113,u114,u115,u116,u117,u118,u119,u120,u121,u122,u123,u124,u125,u126,u127,u128,u129,u130,u131,u132,u133,u134,u135,u136,u137,u138,u139,u140,u141,u142,u143,u144,u145,u146,u147,u148,u149,u150,u151,u152,u153,u154,u155,u156,u157,u158,u159,u160,u161,u162,u163,u164,u165,u166,u167,u168,u169,u170,u171,u172,u173,u174,u175,u176,u177,u178,u179,u180,u181,u182,u183,u184,u185,u186,u187,u188,u189,u190,u191,u192,u193,u194,u195,u196,u197,u198,u199,u200,u201,u202,u203,u204,u205,u206,u207,u208,u209,u210,u211,u212,u213,u214,u215,u216,u217,u218,u219,u220,u221,u222,u223,u224,u225,u226,u227,u228,u229],[]⟩ w') :
 Code.wp Tryz.prog (chR 18) Q ⟨#[u0,u1,u2,u3,u4,u5,u6,u7,u8,u9,a.val,.pointer (some ⟨G p,0,none⟩),.pointer (some ⟨q,0,none⟩),.pointer (some ⟨q+1,0,none⟩),u14,u15,u16,u17,u18,u19,u20,u21,u22,u23,u24,u25,u26,u27,u28,u29,u30,u31,u32,u33,u34,u35,u36,u37,u38,u39,u40,u41,u42,u43,u44,u45,u46,u47,u48,u49,u50,u51,u52,u53,u54,u55,u56,u57,u58,u59,u60,u61,u62,u63,u64,u65,u66,u67,u68,u69,u70,u71,u72,u73,u74,u75,u76,u77,u78,u79,u80,u81,u82,u83,u84,u85,u86,u87,u88,u89,u90,u91,u92,u93,u94,u95,u96,u97,u98,u99,u100,u101,u102,u103,u104,u105,u106,u107,u108,u109,u110,u111,u112,u113,u114,u115,u116,u117,u118,u119,u120,u121,u122,u123,u124,u125,u126,u127,u128,u129,u130,u131,u132,u133,u134,u135,u136,u137,u138,u139,u140,u141,u142,u143,u144,u145,u146,u147,u148,u149,u150,u151,u152,u153,u154,u155,u156,u157,u158,u159,u160,u161,u162,u163,u164,u165,u166,u167,u168,u169,u170,u171,u172,u173,u174,u175,u176,u177,u178,u179,u180,u181,u182,u183,u184,u185,u186,u187,u188,u189,u190,u191,u192,u193,u194,u195,u196,u197,u198,u199,u200,u201,u202,u203,u204,u205,u206,u207,u208,u209,u210,u211,u212,u213,u214,u215,u216,u217,u218,u219,u220,u221,u222,u223,u224,u225,u226,u227,u228,u229],[]⟩ w6:=by
 conv=>arg 2;whnf
 have HRd:Hid (Rnd w i G (.slice (some ⟨ob,oo,none⟩) no cO) (.slice (some ⟨hb,ho,none⟩) i cH) no (aF O) q (q+1) o1 o2 w6.drew):=HR0.o.drew;have hS0:w6.drew.cell? ⟨q,0,none⟩=some (.int .i64 o1)∧w6.drew.cell? ⟨q,1,none⟩=some (.int .i64 o2):=⟨HRd.o.ob.cell 0,HRd.o.ob.cell 1⟩;have hbA:=fun vk vn va vb ky vt w=>bldA 1 o1 o2 vk vn va vb ky vt w
 obtain⟨SS,hSS⟩:∃SS:World→Prop,SS=fun V=>V.cell? ⟨q,0,none⟩=some (.int .i64 o1)∧V.cell? ⟨q,1,none⟩=some (.int .i64 o2):=⟨_,rfl⟩
 have HSI:∀V,(V.cell? ⟨q,0,none⟩=some (.int .i64 o1)∧V.cell? ⟨q,1,none⟩=some (.int .i64 o2))→SS V:=fun V h=>by rw[hSS];exact h
 have HSO:∀V,SS V→(V.cell? ⟨q,0,none⟩=some (.int .i64 o1)∧V.cell? ⟨q,1,none⟩=some (.int .i64 o2)):=fun V h=>by rw[hSS]at h;exact h
 have HSI:=Hi HSI;have HSO:=Hi HSO;clear hSS;refine wp_region_held_drew (S:=SS) (by kernel_rfl) (HSI.o _ hS0) (fun hHeld=>?_);refine aK (i:=0) (v:=?_) rfl (by kernel_rfl) (by kernel_rfl) (by kernel_rfl) (fun _ _ _ h=>hP _ _ _ _ _ h) (Or.inl ⟨by rfl,?_⟩) hHeld ?_
 rotate_left
 ·(intro w _;go_simp;try with_reducible rfl)
 try simp only[Act.put,zA,zB,zC]
 refine aK (i:=1) (v:=?_) rfl (by kernel_rfl) (by kernel_rfl) (by kernel_rfl) (fun _ _ _ h=>hP _ _ _ _ _ h) (Or.inl ⟨by rfl,?_⟩) hHeld ?_
 rotate_left
 ·(intro w hSw;obtain⟨y1,y2⟩:=HSO.o _ hSw;go_simp;try with_reducible rfl)
 try simp only[Act.put,zA,zB,zC]
 refine aK (i:=2) (v:=?_) rfl (by kernel_rfl) (by kernel_rfl) (by kernel_rfl) (fun _ _ _ h=>hP _ _ _ _ _ h) (Or.inl ⟨by rfl,?_⟩) hHeld ?_
 rotate_left
 ·(intro w _;go_simp;try with_reducible rfl)
 try simp only[Act.put,zA,zB,zC]
 refine aK (i:=5) (v:=?_) rfl (by kernel_rfl) (by kernel_rfl) (by kernel_rfl) (fun _ _ _ h=>hP _ _ _ _ _ h) (Or.inl ⟨by rfl,?_⟩) hHeld ?_
 rotate_left
 ·(intro w _;go_simp;try with_reducible rfl)
 try simp only[Act.put,zA,zB,zC]
 refine wpAnyH_ready (rs:=[3]) (by kernel_rfl) (by simp) ?_;refine bK (i:=3) rfl (fun K hK=>?_) sZ;go_simp;refine Calls.mono (ATC.out _ HRd.o.bl 3 (by decide)) ?_;rintro e w71 ⟨⟨x3,rfl,hx3,hxw3⟩,rfl⟩;have hS71:=hS0;refine hK.out _ _ (HSI.o _ hS71) (fun hHeld=>?_);clear hK K;try simp only[Act.put,zA,zB,zC]
 refine wpAnyH_ready (rs:=[4]) (by kernel_rfl) (by simp) ?_;refine bK (i:=4) rfl (fun K hK=>?_) sZ;go_simp;refine Calls.mono (lJ x3 _) ?_;rintro e w72 ⟨⟨ky,rfl⟩,rfl⟩;have hS72:=hS0;refine hK.out _ _ (HSI.o _ hS72) (fun hHeld=>?_);clear hK K;try simp only[Act.put,zA,zB,zC]
 refine wpAnyH_ready (rs:=[6]) (by kernel_rfl) (by simp) ?_;refine bK (i:=6) rfl (fun K hK=>?_) sZ;go_simp;refine Calls.mono (ATC.out _ HRd.o.bl 4 (by decide)) ?_;rintro e w73 ⟨⟨x4,rfl,hx4,hxw4⟩,rfl⟩;have hS73:=hS0;refine hK.out _ _ (HSI.o _ hS73) (fun hHeld=>?_);clear hK K;try simp only[Act.put,zA,zB,zC]
 refine wpAnyH_ready (rs:=[7]) (by kernel_rfl) (by simp) ?_;refine bK (i:=7) rfl (fun K hK=>?_) sZ;go_simp;refine Calls.mono (kG x4 hxw4 _) ?_;rintro e w74 ⟨⟨vk,vn,vt,hvn,rfl⟩,hb7⟩;have HR74:=Hi (HRd.o.below hb7);have hS74:w74.cell? ⟨q,0,none⟩=some (.int .i64 o1)∧w74.cell? ⟨q,1,none⟩=some (.int .i64 o2):=⟨HR74.o.ob.cell 0,HR74.o.ob.cell 1⟩;refine hK.out _ _ (HSI.o _ hS74) (fun hHeld=>?_);clear hK K;try simp only[Act.put,zA,zB,zC]
 refine aK (i:=8) (v:=?_) rfl (by kernel_rfl) (by kernel_rfl) (by kernel_rfl) (fun _ _ _ h=>hP _ _ _ _ _ h) (Or.inl ⟨by rfl,?_⟩) hHeld ?_
 rotate_left
 ·(intro w _;go_simp;try with_reducible rfl)
 try simp only[Act.put,zA,zB,zC]
 refine wpAnyH_ready (rs:=[9]) (by kernel_rfl) (by simp) ?_;refine bK (i:=9) rfl (fun K hK=>?_) sZ;go_simp;refine Calls.mono (jX HR74.o.hx HR74.o.bl.size HR74.o.lt hp (⟨1,o1,o2,ky,0,0,false,vk,vn,vt,0,0,none,0,[]⟩:OpD) (by show(1:Int)≤1;decide) hvn rfl) ?_;rintro e w75 ⟨⟨n1,n2,n3,rfl,hnI⟩,hst⟩;have HR75:=Hi (HR74.o.step hst);have hS75:w75.cell? ⟨q,0,none⟩=some (.int .i64 o1)∧w75.cell? ⟨q,1,none⟩=some (.int .i64 o2):=⟨HR75.o.ob.cell 0,HR75.o.ob.cell 1⟩;refine hK.out _ _ (HSI.o _ hS75) (fun hHeld=>?_);clear hK K;try simp only[Act.put,zA,zB,zC]
 refine wpAnyH_done (by kernel_rfl) ?_ _;clear hHeld HSI HSO;apply hK;exact HR75.o
end
section
open Go.ChangeShapes Go.WideShapes Go.ChangeAt Go.RowKit Go.Proofs.YtjhkcbideddlgaaGreat.Loc
set_option maxRecDepth 40000 in
theorem chs20{w w6:World}{i no q ob oo cO hb ho cH p:Nat}{G:Nat→Nat}{O:List Rf}{o1 o2:Int}{a:iM}(hp:p<i)(HQW:Hid (w.heap.size≤q))(HR0:Hid (Rnd w i G (.slice (some ⟨ob,oo,none⟩) no cO) (.slice (some ⟨hb,ho,none⟩) i cH) no (aF O) q (q+1) o1 o2 w6))
 (ATC:Hid (∀V,Below w.heap.size w V→∀i:Int,0≤i→Calls Tryz.prog 27 #[a.val,.int .i64 i] V fun e w'=>(∃x:Int,e=.returned (.int .i64 x)∧(-9223372036854775808≤x∧x≤9223372036854775807)∧IntKind.i64.wrap x=x)∧w'=V))
 {Q:Exit→Act→World→Prop} (hP:∀(c:_) (a:Act) (d:_) (v:Value) (w:World),Q (.panic c) (a.put d v) w→Q (.panic c) a w) (u0 u1 u2 u3 u4 u5 u6 u7 u8 u9 u14 u15 u16 u17 u18 u19 u20 u21 u22 u23 u24 u25 u26 u27 u28 u29 u30 u31 u32 u33 u34 u35 u36 u37 u38 u39 u40 u41 u42 u43 u44 u45 u46 u47 u48 u49 u50 u51 u52 u53 u54 u55 u56 u57 u58 u59 u60 u61 u62 u63 u64 u65 u66 u67 u68 u69 u70 u71 u72 u73 u74 u75 u76 u77 u78 u79 u80 u81 u82 u83 u84 u85 u86 u87 u88 u89 u90 u91 u92 u93 u94 u95 u96 u97 u98 u99 u100 u101 u102 u103 u104 u105 u106 u107 u108 u109 u110 u111 u112 u113 u114 u115 u116 u117 u118 u119 u120 u121 u122 u123 u124 u125 u126 u127 u128 u129 u130 u131 u132 u133 u134 u135 u136 u137 u138 u139 u140 u141 u142 u143 u144 u145 u146 u147 u148 u149 u150 u151 u152 u153 u154 u155 u156 u157 u158 u159 u160 u161 u162 u163 u164 u165 u166 u167 u168 u169 u170 u171 u172 u173 u174 u175 u176 u177 u178 u179 u180 u181 u182 u183 u184 u185 u186 u187 u188 u189 u190 u191 u192 u193 u194 u195 u196 u197 u198 u199 u200 u201 u202 u203 u204 u205 u206 u207 u208 u209 u210 u211 u212 u213 u214 u215 u216 u217 u218 u219 u220 u221 u222 u223 u224 u225 u226 u227 u228 u229:Value)
 (hK:∀(v89 v90 v91 v92 v93 v94 v95 v96 v97 v98 v99 v100 v101 v102 v103:Value) (w':World),Rnd w i G (.slice (some ⟨ob,oo,none⟩) no cO) (.slice (some ⟨hb,ho,none⟩) i cH) no (aF O) q (q+1) o1 o2 w'→Q .normal ⟨#[u0,u1,u2,u3,u4,u5,u6,u7,u8,u9,a.val,.pointer (some ⟨G p,0,none⟩),.pointer (some ⟨q,0,none⟩),.pointer (some ⟨q+1,0,none⟩),u14,u15,u16,u17,u18,u19,u20,u21,u22,u23,u24,u25,u26,u27,u28,u29,u30,u31,u32,u33,u34,u35,u36,u37,u38,u39,u40,u41,u42,u43,u44,u45,u46,u47,u48,u49,u50,u51,u52,u53,u54,u55,u56,u57,u58,u59,u60,u61,u62,u63,u64,u65,u66,u67,u68,u69,u70,u71,u72,u73,u74,u75,u76,u77,u78,u79,u80,u81,u82,u83,u84,u85,u86,u87,u88,v89,v90,v91,v92,v93,v94,v95,v96,v97,v98,v99,v100,v101,v102,v103,u104,u105,u106,u107,u108,u109,u110,u111,u112,u113,u114,u115,u116,u117,u118,u119,u120,u121,u122,u123,u124,u125,u126,u127,u128,u129,u130,u131,u132,u133,u134,u135,u136,u137,u138,u139,u140,u141,u142,u143,u144,u145,u146,u147,u148,u149,u150,u151,u152,u153,u154,u155,u156,u157,u158,u159,u160,u161,u162,u163,u164,u165,u166,u167,u168,u169,u170,u171,u172,u173,u174,u175,u176,u177,u178,u179,u180,u181,u182,u183,u184,u185,u186,u187,u188,u189,u190,u191,u192,u193,u194,u195,u196,u197,u198,u199,u200,u201,u202,u203,u204,u205,u206,u207,u208,u209,u210,u211,u212,u213,u214,u215,u216,u217,u218,u219,u220,u221,u222,u223,u224,u225,u226,u227,u228,u229],[]⟩ w') :
 Code.wp Tryz.prog (chR 20) Q ⟨#[u0,u1,u2,u3,u4,u5,u6,u7,u8,u9,a.val,.pointer (some ⟨G p,0,none⟩),.pointer (some ⟨q,0,none⟩),.pointer (some ⟨q+1,0,none⟩),u14,u15,u16,u17,u18,u19,u20,u21,u22,u23,u24,u25,u26,u27,u28,u29,u30,u31,u32,u33,u34,u35,u36,u37,u38,u39,u40,u41,u42,u43,u44,u45,u46,u47,u48,u49,u50,u51,u52,u53,u54,u55,u56,u57,u58,u59,u60,u61,u62,u63,u64,u65,u66,u67,u68,u69,u70,u71,u72,u73,u74,u75,u76,u77,u78,u79,u80,u81,u82,u83,u84,u85,u86,u87,u88,u89,u90,u91,u92,u93,u94,u95,u96,u97,u98,u99,u100,u101,u102,u103,u104,u105,u106,u107,u108,u109,u110,u111,u112,u113,u114,u115,u116,u117,u118,u119,u120,u121,u122,u123,u124,u125,u126,u127,u128,u129,u130,u131,u132,u133,u134,u135,u136,u137,u138,u139,u140,u141,u142,u143,u144,u145,u146,u147,u148,u149,u150,u151,u152,u153,u154,u155,u156,u157,u158,u159,u160,u161,u162,u163,u164,u165,u166,u167,u168,u169,u170,u171,u172,u173,u174,u175,u176,u177,u178,u179,u180,u181,u182,u183,u184,u185,u186,u187,u188,u189,u190,u191,u192,u193,u194,u195,u196,u197,u198,u199,u200,u201,u202,u203,u204,u205,u206,u207,u208,u209,u210,u211,u212,u213,u214,u215,u216,u217,u218,u219,u220,u221,u222,u223,u224,u225,u226,u227,u228,u229],[]⟩ w6:=by
 conv=>arg 2;whnf
 have HRd:Hid (Rnd w i G (.slice (some ⟨ob,oo,none⟩) no cO) (.slice (some ⟨hb,ho,none⟩) i cH) no (aF O) q (q+1) o1 o2 w6.drew):=HR0.o.drew;have hS0:w6.drew.cell? ⟨q,0,none⟩=some (.int .i64 o1)∧w6.drew.cell? ⟨q,1,none⟩=some (.int .i64 o2):=⟨HRd.o.ob.cell 0,HRd.o.ob.cell 1⟩;have hbA:=fun vk vn va vb ky vt w=>bldA 2 o1 o2 vk vn va vb ky vt w
 have hbV:=fun k w=>bldV k w
 obtain⟨SS,hSS⟩:∃SS:World→Prop,SS=fun V=>V.cell? ⟨q,0,none⟩=some (.int .i64 o1)∧V.cell? ⟨q,1,none⟩=some (.int .i64 o2):=⟨_,rfl⟩
 have HSI:∀V,(V.cell? ⟨q,0,none⟩=some (.int .i64 o1)∧V.cell? ⟨q,1,none⟩=some (.int .i64 o2))→SS V:=fun V h=>by rw[hSS];exact h
 have HSO:∀V,SS V→(V.cell? ⟨q,0,none⟩=some (.int .i64 o1)∧V.cell? ⟨q,1,none⟩=some (.int .i64 o2)):=fun V h=>by rw[hSS]at h;exact h
 have HSI:=Hi HSI;have HSO:=Hi HSO;clear hSS;refine wp_region_held_drew (S:=SS) (by kernel_rfl) (HSI.o _ hS0) (fun hHeld=>?_);refine aK (i:=0) (v:=?_) rfl (by kernel_rfl) (by kernel_rfl) (by kernel_rfl) (fun _ _ _ h=>hP _ _ _ _ _ h) (Or.inl ⟨by rfl,?_⟩) hHeld ?_
 rotate_left
 ·(intro w _;go_simp;try with_reducible rfl)
 try simp only[Act.put,zA,zB,zC]
 refine aK (i:=1) (v:=?_) rfl (by kernel_rfl) (by kernel_rfl) (by kernel_rfl) (fun _ _ _ h=>hP _ _ _ _ _ h) (Or.inl ⟨by rfl,?_⟩) hHeld ?_
 rotate_left
 ·(intro w hSw;obtain⟨y1,y2⟩:=HSO.o _ hSw;go_simp;try with_reducible rfl)
 try simp only[Act.put,zA,zB,zC]
 refine aK (i:=2) (v:=?_) rfl (by kernel_rfl) (by kernel_rfl) (by kernel_rfl) (fun _ _ _ h=>hP _ _ _ _ _ h) (Or.inl ⟨by rfl,?_⟩) hHeld ?_
 rotate_left
 ·(intro w _;go_simp;try with_reducible rfl)
 try simp only[Act.put,zA,zB,zC]
 refine aK (i:=5) (v:=?_) rfl (by kernel_rfl) (by kernel_rfl) (by kernel_rfl) (fun _ _ _ h=>hP _ _ _ _ _ h) (Or.inl ⟨by rfl,?_⟩) hHeld ?_
 rotate_left
 ·(intro w _;go_simp;try with_reducible rfl)
 try simp only[Act.put,zA,zB,zC]
 refine wpAnyH_ready (rs:=[3]) (by kernel_rfl) (by simp) ?_;refine bK (i:=3) rfl (fun K hK=>?_) sZ;go_simp;refine Calls.mono (ATC.out _ HRd.o.bl 3 (by decide)) ?_;rintro e w71 ⟨⟨x3,rfl,hx3,hxw3⟩,rfl⟩;have hS71:=hS0;refine hK.out _ _ (HSI.o _ hS71) (fun hHeld=>?_);clear hK K;try simp only[Act.put,zA,zB,zC]
 refine wpAnyH_ready (rs:=[4]) (by kernel_rfl) (by simp) ?_;refine bK (i:=4) rfl (fun K hK=>?_) sZ;go_simp;refine Calls.mono (lJ x3 _) ?_;rintro e w72 ⟨⟨ky,rfl⟩,rfl⟩;have hS72:=hS0;refine hK.out _ _ (HSI.o _ hS72) (fun hHeld=>?_);clear hK K;try simp only[Act.put,zA,zB,zC]
 refine wpAnyH_ready (rs:=[6]) (by kernel_rfl) (by simp) ?_;refine bK (i:=6) rfl (fun K hK=>?_) sZ;go_simp;refine Calls.mono (ATC.out _ HRd.o.bl 4 (by decide)) ?_;rintro e w73 ⟨⟨x4,rfl,hx4,hxw4⟩,rfl⟩;have hS73:=hS0;refine hK.out _ _ (HSI.o _ hS73) (fun hHeld=>?_);clear hK K;try simp only[Act.put,zA,zB,zC]
 refine wpAnyH_ready (rs:=[7]) (by kernel_rfl) (by simp) ?_;refine bK (i:=7) rfl (fun K hK=>?_) sZ;go_simp;refine Calls.mono (pick2_any x4 _ hx4) ?_;rintro e w74 ⟨⟨pv,hpv,rfl⟩,rfl⟩;have hS74:=hS0;have hw5:IntKind.i64.wrap ((5:Int)+(pv:Int))=(5:Int)+(pv:Int):=tH _ (by omega);refine hK.out _ _ (HSI.o _ hS74) (fun hHeld=>?_);clear hK K;try simp only[Act.put,zA,zB,zC]
 refine aK (i:=8) (v:=?_) rfl (by kernel_rfl) (by kernel_rfl) (by kernel_rfl) (fun _ _ _ h=>hP _ _ _ _ _ h) (Or.inl ⟨by rfl,?_⟩) hHeld ?_
 rotate_left
 ·(intro w _;go_simp;try with_reducible rfl)
 try simp only[Act.put,zA,zB,zC]
 refine aK (i:=9) (v:=?_) rfl (by kernel_rfl) (by kernel_rfl) (by kernel_rfl) (fun _ _ _ h=>hP _ _ _ _ _ h) (Or.inl ⟨by rfl,?_⟩) hHeld ?_
 rotate_left
 ·(intro w _;go_simp;try with_reducible rfl)
 try simp only[Act.put,zA,zB,zC]
 refine aK (i:=10) (v:=?_) rfl (by kernel_rfl) (by kernel_rfl) (by kernel_rfl) (fun _ _ _ h=>hP _ _ _ _ _ h) (Or.inl ⟨by rfl,?_⟩) hHeld ?_
 rotate_left
 ·(intro w _;go_simp;try with_reducible rfl)
 try simp only[Act.put,zA,zB,zC]
 refine wpAnyH_ready (rs:=[11]) (by kernel_rfl) (by simp) ?_;refine bK (i:=11) rfl (fun K hK=>?_) sZ;go_simp;refine Calls.mono (jX HRd.o.hx HRd.o.bl.size HRd.o.lt hp (⟨2,o1,o2,ky,0,0,false,5+(pv:Int),0,⟨#[]⟩,0,0,none,0,[]⟩:OpD) (by show(1:Int)≤2;decide) (tH (0:Int) (by omega)) rfl) ?_;rintro e w75 ⟨⟨n1,n2,n3,rfl,hnI⟩,hst⟩;have HR75:=Hi (HRd.o.step hst);have hS75:w75.cell? ⟨q,0,none⟩=some (.int .i64 o1)∧w75.cell? ⟨q,1,none⟩=some (.int .i64 o2):=⟨HR75.o.ob.cell 0,HR75.o.ob.cell 1⟩;refine hK.out _ _ (HSI.o _ hS75) (fun hHeld=>?_);clear hK K;try simp only[Act.put,zA,zB,zC]
 refine aK (i:=12) (v:=?_) rfl (by kernel_rfl) (by kernel_rfl) (by kernel_rfl) (fun _ _ _ h=>hP _ _ _ _ _ h) (Or.inl ⟨by rfl,?_⟩) hHeld ?_
 rotate_left
 ·(intro w _;go_simp;try with_reducible rfl)
 try simp only[Act.put,zA,zB,zC]
 refine aK (i:=13) (v:=?_) rfl (by kernel_rfl) (by kernel_rfl) (by kernel_rfl) (fun _ _ _ h=>hP _ _ _ _ _ h) (Or.inl ⟨by rfl,?_⟩) hHeld ?_
 rotate_left
 ·(intro w _;go_simp;try with_reducible rfl)
 try simp only[Act.put,zA,zB,zC]
 refine aK (i:=14) (v:=?_) rfl (by kernel_rfl) (by kernel_rfl) (by kernel_rfl) (fun _ _ _ h=>hP _ _ _ _ _ h) (Or.inl ⟨by rfl,?_⟩) hHeld ?_
 rotate_left
 ·(intro w _;go_simp;try with_reducible rfl)
 try simp only[Act.put,zA,zB,zC]
 obtain⟨m1,m2,hwb,-⟩:=HR75.o.wb
 obtain⟨r0,r1⟩:=ce2 hwb
 have f0:=hwb.frozen 0;have f1:=hwb.frozen 1;have HRs:Hid (Rnd w i G (.slice (some ⟨ob,oo,none⟩) no cO) (.slice (some ⟨hb,ho,none⟩) i cH) no (aF O) q (q+1) o1 o2 ((w75.setCell ⟨q+1,0,none⟩ (.int .i64 n1)).setCell ⟨q+1,1,none⟩ (.int .i64 n2))):=HR75.o.setw (by omega) (by have:=HQW.o;omega) hnI;have hSs:((w75.setCell ⟨q+1,0,none⟩ (.int .i64 n1)).setCell ⟨q+1,1,none⟩ (.int .i64 n2)).cell? ⟨q,0,none⟩=some (.int .i64 o1)∧((w75.setCell ⟨q+1,0,none⟩ (.int .i64 n1)).setCell ⟨q+1,1,none⟩ (.int .i64 n2)).cell? ⟨q,1,none⟩=some (.int .i64 o2):=⟨HRs.o.ob.cell 0,HRs.o.ob.cell 1⟩;clear hwb;refine wpAnyH_ready (rs:=[15]) (by kernel_rfl) (by simp) ?_;refine bK (i:=15) rfl (fun K hK=>?_) sZ;go_simp;refine hK.out _ _ (HSI.o _ hSs) (fun hHeld=>?_);clear hK K;try simp only[Act.put,zA,zB,zC]
 refine wpAnyH_done (by kernel_rfl) ?_ _;clear hHeld HSI HSO;apply hK;exact HRs.o
end
section
open Go.ChangeShapes Go.WideShapes Go.ChangeAt Go.RowKit Go.Proofs.YtjhkcbideddlgaaGreat.Loc
set_option maxRecDepth 40000 in
theorem chs22{w w6:World}{i no q ob oo cO hb ho cH p:Nat}{G:Nat→Nat}{O:List Rf}{o1 o2:Int}{a:iM}(hp:p<i)(HQW:Hid (w.heap.size≤q))(HR0:Hid (Rnd w i G (.slice (some ⟨ob,oo,none⟩) no cO) (.slice (some ⟨hb,ho,none⟩) i cH) no (aF O) q (q+1) o1 o2 w6))
 (ATC:Hid (∀V,Below w.heap.size w V→∀i:Int,0≤i→Calls Tryz.prog 27 #[a.val,.int .i64 i] V fun e w'=>(∃x:Int,e=.returned (.int .i64 x)∧(-9223372036854775808≤x∧x≤9223372036854775807)∧IntKind.i64.wrap x=x)∧w'=V))
 {Q:Exit→Act→World→Prop} (hP:∀(c:_) (a:Act) (d:_) (v:Value) (w:World),Q (.panic c) (a.put d v) w→Q (.panic c) a w) (u0 u1 u2 u3 u4 u5 u6 u7 u8 u9 u14 u15 u16 u17 u18 u19 u20 u21 u22 u23 u24 u25 u26 u27 u28 u29 u30 u31 u32 u33 u34 u35 u36 u37 u38 u39 u40 u41 u42 u43 u44 u45 u46 u47 u48 u49 u50 u51 u52 u53 u54 u55 u56 u57 u58 u59 u60 u61 u62 u63 u64 u65 u66 u67 u68 u69 u70 u71 u72 u73 u74 u75 u76 u77 u78 u79 u80 u81 u82 u83 u84 u85 u86 u87 u88 u89 u90 u91 u92 u93 u94 u95 u96 u97 u98 u99 u100 u101 u102 u103 u104 u105 u106 u107 u108 u109 u110 u111 u112 u113 u114 u115 u116 u117 u118 u119 u120 u121 u122 u123 u124 u125 u126 u127 u128 u129 u130 u131 u132 u133 u134 u135 u136 u137 u138 u139 u140 u141 u142 u143 u144 u145 u146 u147 u148 u149 u150 u151 u152 u153 u154 u155 u156 u157 u158 u159 u160 u161 u162 u163 u164 u165 u166 u167 u168 u169 u170 u171 u172 u173 u174 u175 u176 u177 u178 u179 u180 u181 u182 u183 u184 u185 u186 u187 u188 u189 u190 u191 u192 u193 u194 u195 u196 u197 u198 u199 u200 u201 u202 u203 u204 u205 u206 u207 u208 u209 u210 u211 u212 u213 u214 u215 u216 u217 u218 u219 u220 u221 u222 u223 u224 u225 u226 u227 u228 u229:Value)
 (hK:∀(v106 v107 v108 v109 v110 v111 v112:Value) (w':World),Rnd w i G (.slice (some ⟨ob,oo,none⟩) no cO) (.slice (some ⟨hb,ho,none⟩) i cH) no (aF O) q (q+1) o1 o2 w'→Q .normal ⟨#[u0,u1,u2,u3,u4,u5,u6,u7,u8,u9,a.val,.pointer (some ⟨G p,0,none⟩),.pointer (some ⟨q,0,none⟩),.pointer (some ⟨q+1,0,none⟩),u14,u15,u16,u17,u18,u19,u20,u21,u22,u23,u24,u25,u26,u27,u28,u29,u30,u31,u32,u33,u34,u35,u36,u37,u38,u39,u40,u41,u42,u43,u44,u45,u46,u47,u48,u49,u50,u51,u52,u53,u54,u55,u56,u57,u58,u59,u60,u61,u62,u63,u64,u65,u66,u67,u68,u69,u70,u71,u72,u73,u74,u75,u76,u77,u78,u79,u80,u81,u82,u83,u84,u85,u86,u87,u88,u89,u90,u91,u92,u93,u94,u95,u96,u97,u98,u99,u100,u101,u102,u103,u104,u105,v106,v107,v108,v109,v110,v111,v112,u113,u114,u115,u116,u117,u118,u119,u120,u121,u122,u123,u124,u125,u126,u127,u128,u129,u130,u131,u132,u133,u134,u135,u136,u137,u138,u139,u140,u141,u142,u143,u144,u145,u146,u147,u148,u149,u150,u151,u152,u153,u154,u155,u156,u157,u158,u159,u160,u161,u162,u163,u164,u165,u166,u167,u168,u169,u170,u171,u172,u173,u174,u175,u176,u177,u178,u179,u180,u181,u182,u183,u184,u185,u186,u187,u188,u189,u190,u191,u192,u193,u194,u195,u196,u197,u198,u199,u200,u201,u202,u203,u204,u205,u206,u207,u208,u209,u210,u211,u212,u213,u214,u215,u216,u217,u218,u219,u220,u221,u222,u223,u224,u225,u226,u227,u228,u229],[]⟩ w') :
 Code.wp Tryz.prog (chR 22) Q ⟨#[u0,u1,u2,u3,u4,u5,u6,u7,u8,u9,a.val,.pointer (some ⟨G p,0,none⟩),.pointer (some ⟨q,0,none⟩),.pointer (some ⟨q+1,0,none⟩),u14,u15,u16,u17,u18,u19,u20,u21,u22,u23,u24,u25,u26,u27,u28,u29,u30,u31,u32,u33,u34,u35,u36,u37,u38,u39,u40,u41,u42,u43,u44,u45,u46,u47,u48,u49,u50,u51,u52,u53,u54,u55,u56,u57,u58,u59,u60,u61,u62,u63,u64,u65,u66,u67,u68,u69,u70,u71,u72,u73,u74,u75,u76,u77,u78,u79,u80,u81,u82,u83,u84,u85,u86,u87,u88,u89,u90,u91,u92,u93,u94,u95,u96,u97,u98,u99,u100,u101,u102,u103,u104,u105,u106,u107,u108,u109,u110,u111,u112,u113,u114,u115,u116,u117,u118,u119,u120,u121,u122,u123,u124,u125,u126,u127,u128,u129,u130,u131,u132,u133,u134,u135,u136,u137,u138,u139,u140,u141,u142,u143,u144,u145,u146,u147,u148,u149,u150,u151,u152,u153,u154,u155,u156,u157,u158,u159,u160,u161,u162,u163,u164,u165,u166,u167,u168,u169,u170,u171,u172,u173,u174,u175,u176,u177,u178,u179,u180,u181,u182,u183,u184,u185,u186,u187,u188,u189,u190,u191,u192,u193,u194,u195,u196,u197,u198,u199,u200,u201,u202,u203,u204,u205,u206,u207,u208,u209,u210,u211,u212,u213,u214,u215,u216,u217,u218,u219,u220,u221,u222,u223,u224,u225,u226,u227,u228,u229],[]⟩ w6:=by
 conv=>arg 2;whnf
 have HRd:Hid (Rnd w i G (.slice (some ⟨ob,oo,none⟩) no cO) (.slice (some ⟨hb,ho,none⟩) i cH) no (aF O) q (q+1) o1 o2 w6.drew):=HR0.o.drew;have hS0:w6.drew.cell? ⟨q,0,none⟩=some (.int .i64 o1)∧w6.drew.cell? ⟨q,1,none⟩=some (.int .i64 o2):=⟨HRd.o.ob.cell 0,HRd.o.ob.cell 1⟩;have hbB:=fun ky w=>bldB 3 o1 o2 ky w
 obtain⟨SS,hSS⟩:∃SS:World→Prop,SS=fun V=>V.cell? ⟨q,0,none⟩=some (.int .i64 o1)∧V.cell? ⟨q,1,none⟩=some (.int .i64 o2):=⟨_,rfl⟩
 have HSI:∀V,(V.cell? ⟨q,0,none⟩=some (.int .i64 o1)∧V.cell? ⟨q,1,none⟩=some (.int .i64 o2))→SS V:=fun V h=>by rw[hSS];exact h
 have HSO:∀V,SS V→(V.cell? ⟨q,0,none⟩=some (.int .i64 o1)∧V.cell? ⟨q,1,none⟩=some (.int .i64 o2)):=fun V h=>by rw[hSS]at h;exact h
 have HSI:=Hi HSI;have HSO:=Hi HSO;clear hSS;refine wp_region_held_drew (S:=SS) (by kernel_rfl) (HSI.o _ hS0) (fun hHeld=>?_);refine aK (i:=0) (v:=?_) rfl (by kernel_rfl) (by kernel_rfl) (by kernel_rfl) (fun _ _ _ h=>hP _ _ _ _ _ h) (Or.inl ⟨by rfl,?_⟩) hHeld ?_
 rotate_left
 ·(intro w _;go_simp;try with_reducible rfl)
 try simp only[Act.put,zA,zB,zC]
 refine aK (i:=1) (v:=?_) rfl (by kernel_rfl) (by kernel_rfl) (by kernel_rfl) (fun _ _ _ h=>hP _ _ _ _ _ h) (Or.inl ⟨by rfl,?_⟩) hHeld ?_
 rotate_left
 ·(intro w hSw;obtain⟨y1,y2⟩:=HSO.o _ hSw;go_simp;try with_reducible rfl)
 try simp only[Act.put,zA,zB,zC]
 refine aK (i:=2) (v:=?_) rfl (by kernel_rfl) (by kernel_rfl) (by kernel_rfl) (fun _ _ _ h=>hP _ _ _ _ _ h) (Or.inl ⟨by rfl,?_⟩) hHeld ?_
 rotate_left
 ·(intro w _;go_simp;try with_reducible rfl)
 try simp only[Act.put,zA,zB,zC]
 refine wpAnyH_ready (rs:=[3]) (by kernel_rfl) (by simp) ?_;refine bK (i:=3) rfl (fun K hK=>?_) sZ;go_simp;refine Calls.mono (ATC.out _ HRd.o.bl 3 (by decide)) ?_;rintro e w71 ⟨⟨x3,rfl,hx3,hxw3⟩,rfl⟩;have hS71:=hS0;refine hK.out _ _ (HSI.o _ hS71) (fun hHeld=>?_);clear hK K;try simp only[Act.put,zA,zB,zC]
 refine wpAnyH_ready (rs:=[4]) (by kernel_rfl) (by simp) ?_;refine bK (i:=4) rfl (fun K hK=>?_) sZ;go_simp;refine Calls.mono (lJ x3 _) ?_;rintro e w72 ⟨⟨ky,rfl⟩,rfl⟩;have hS72:=hS0;refine hK.out _ _ (HSI.o _ hS72) (fun hHeld=>?_);clear hK K;try simp only[Act.put,zA,zB,zC]
 refine aK (i:=5) (v:=?_) rfl (by kernel_rfl) (by kernel_rfl) (by kernel_rfl) (fun _ _ _ h=>hP _ _ _ _ _ h) (Or.inl ⟨by rfl,?_⟩) hHeld ?_
 rotate_left
 ·(intro w _;go_simp;try with_reducible rfl)
 try simp only[Act.put,zA,zB,zC]
 refine wpAnyH_ready (rs:=[6]) (by kernel_rfl) (by simp) ?_;refine bK (i:=6) rfl (fun K hK=>?_) sZ;go_simp;refine Calls.mono (jX HRd.o.hx HRd.o.bl.size HRd.o.lt hp (⟨3,o1,o2,ky,0,0,false,0,0,⟨#[]⟩,0,0,none,0,[]⟩:OpD) (by show(1:Int)≤3;decide) (tH (0:Int) (by omega)) rfl) ?_;rintro e w73 ⟨⟨n1,n2,n3,rfl,hnI⟩,hst⟩;have HR73:=Hi (HRd.o.step hst);have hS73:w73.cell? ⟨q,0,none⟩=some (.int .i64 o1)∧w73.cell? ⟨q,1,none⟩=some (.int .i64 o2):=⟨HR73.o.ob.cell 0,HR73.o.ob.cell 1⟩;refine hK.out _ _ (HSI.o _ hS73) (fun hHeld=>?_);clear hK K;try simp only[Act.put,zA,zB,zC]
 refine wpAnyH_done (by kernel_rfl) ?_ _;clear hHeld HSI HSO;apply hK;exact HR73.o
end
section
open Go.ChangeShapes Go.WideShapes Go.ChangeAt Go.RowKit Go.Proofs.YtjhkcbideddlgaaGreat.Loc
set_option maxRecDepth 40000 in
theorem chs24{w w6:World}{i no q ob oo cO hb ho cH p:Nat}{G:Nat→Nat}{O:List Rf}{o1 o2:Int}{a:iM}(hp:p<i)(HQW:Hid (w.heap.size≤q))(HR0:Hid (Rnd w i G (.slice (some ⟨ob,oo,none⟩) no cO) (.slice (some ⟨hb,ho,none⟩) i cH) no (aF O) q (q+1) o1 o2 w6))
 (ATC:Hid (∀V,Below w.heap.size w V→∀i:Int,0≤i→Calls Tryz.prog 27 #[a.val,.int .i64 i] V fun e w'=>(∃x:Int,e=.returned (.int .i64 x)∧(-9223372036854775808≤x∧x≤9223372036854775807)∧IntKind.i64.wrap x=x)∧w'=V))
 {Q:Exit→Act→World→Prop} (hP:∀(c:_) (a:Act) (d:_) (v:Value) (w:World),Q (.panic c) (a.put d v) w→Q (.panic c) a w) (u0 u1 u2 u3 u4 u5 u6 u7 u8 u9 u14 u15 u16 u17 u18 u19 u20 u21 u22 u23 u24 u25 u26 u27 u28 u29 u30 u31 u32 u33 u34 u35 u36 u37 u38 u39 u40 u41 u42 u43 u44 u45 u46 u47 u48 u49 u50 u51 u52 u53 u54 u55 u56 u57 u58 u59 u60 u61 u62 u63 u64 u65 u66 u67 u68 u69 u70 u71 u72 u73 u74 u75 u76 u77 u78 u79 u80 u81 u82 u83 u84 u85 u86 u87 u88 u89 u90 u91 u92 u93 u94 u95 u96 u97 u98 u99 u100 u101 u102 u103 u104 u105 u106 u107 u108 u109 u110 u111 u112 u113 u114 u115 u116 u117 u118 u119 u120 u121 u122 u123 u124 u125 u126 u127 u128 u129 u130 u131 u132 u133 u134 u135 u136 u137 u138 u139 u140 u141 u142 u143 u144 u145 u146 u147 u148 u149 u150 u151 u152 u153 u154 u155 u156 u157 u158 u159 u160 u161 u162 u163 u164 u165 u166 u167 u168 u169 u170 u171 u172 u173 u174 u175 u176 u177 u178 u179 u180 u181 u182 u183 u184 u185 u186 u187 u188 u189 u190 u191 u192 u193 u194 u195 u196 u197 u198 u199 u200 u201 u202 u203 u204 u205 u206 u207 u208 u209 u210 u211 u212 u213 u214 u215 u216 u217 u218 u219 u220 u221 u222 u223 u224 u225 u226 u227 u228 u229:Value)
 (hK:∀(v115 v116 v117 v118 v119 v120 v121 v122 v123 v124:Value) (w':World),Rnd w i G (.slice (some ⟨ob,oo,none⟩) no cO) (.slice (some ⟨hb,ho,none⟩) i cH) no (aF O) q (q+1) o1 o2 w'→Q .normal ⟨#[u0,u1,u2,u3,u4,u5,u6,u7,u8,u9,a.val,.pointer (some ⟨G p,0,none⟩),.pointer (some ⟨q,0,none⟩),.pointer (some ⟨q+1,0,none⟩),u14,u15,u16,u17,u18,u19,u20,u21,u22,u23,u24,u25,u26,u27,u28,u29,u30,u31,u32,u33,u34,u35,u36,u37,u38,u39,u40,u41,u42,u43,u44,u45,u46,u47,u48,u49,u50,u51,u52,u53,u54,u55,u56,u57,u58,u59,u60,u61,u62,u63,u64,u65,u66,u67,u68,u69,u70,u71,u72,u73,u74,u75,u76,u77,u78,u79,u80,u81,u82,u83,u84,u85,u86,u87,u88,u89,u90,u91,u92,u93,u94,u95,u96,u97,u98,u99,u100,u101,u102,u103,u104,u105,u106,u107,u108,u109,u110,u111,u112,u113,u114,v115,v116,v117,v118,v119,v120,v121,v122,v123,v124,u125,u126,u127,u128,u129,u130,u131,u132,u133,u134,u135,u136,u137,u138,u139,u140,u141,u142,u143,u144,u145,u146,u147,u148,u149,u150,u151,u152,u153,u154,u155,u156,u157,u158,u159,u160,u161,u162,u163,u164,u165,u166,u167,u168,u169,u170,u171,u172,u173,u174,u175,u176,u177,u178,u179,u180,u181,u182,u183,u184,u185,u186,u187,u188,u189,u190,u191,u192,u193,u194,u195,u196,u197,u198,u199,u200,u201,u202,u203,u204,u205,u206,u207,u208,u209,u210,u211,u212,u213,u214,u215,u216,u217,u218,u219,u220,u221,u222,u223,u224,u225,u226,u227,u228,u229],[]⟩ w') :
 Code.wp Tryz.prog (chR 24) Q ⟨#[u0,u1,u2,u3,u4,u5,u6,u7,u8,u9,a.val,.pointer (some ⟨G p,0,none⟩),.pointer (some ⟨q,0,none⟩),.pointer (some ⟨q+1,0,none⟩),u14,u15,u16,u17,u18,u19,u20,u21,u22,u23,u24,u25,u26,u27,u28,u29,u30,u31,u32,u33,u34,u35,u36,u37,u38,u39,u40,u41,u42,u43,u44,u45,u46,u47,u48,u49,u50,u51,u52,u53,u54,u55,u56,u57,u58,u59,u60,u61,u62,u63,u64,u65,u66,u67,u68,u69,u70,u71,u72,u73,u74,u75,u76,u77,u78,u79,u80,u81,u82,u83,u84,u85,u86,u87,u88,u89,u90,u91,u92,u93,u94,u95,u96,u97,u98,u99,u100,u101,u102,u103,u104,u105,u106,u107,u108,u109,u110,u111,u112,u113,u114,u115,u116,u117,u118,u119,u120,u121,u122,u123,u124,u125,u126,u127,u128,u129,u130,u131,u132,u133,u134,u135,u136,u137,u138,u139,u140,u141,u142,u143,u144,u145,u146,u147,u148,u149,u150,u151,u152,u153,u154,u155,u156,u157,u158,u159,u160,u161,u162,u163,u164,u165,u166,u167,u168,u169,u170,u171,u172,u173,u174,u175,u176,u177,u178,u179,u180,u181,u182,u183,u184,u185,u186,u187,u188,u189,u190,u191,u192,u193,u194,u195,u196,u197,u198,u199,u200,u201,u202,u203,u204,u205,u206,u207,u208,u209,u210,u211,u212,u213,u214,u215,u216,u217,u218,u219,u220,u221,u222,u223,u224,u225,u226,u227,u228,u229],[]⟩ w6:=by
 conv=>arg 2;whnf
 have HRd:Hid (Rnd w i G (.slice (some ⟨ob,oo,none⟩) no cO) (.slice (some ⟨hb,ho,none⟩) i cH) no (aF O) q (q+1) o1 o2 w6.drew):=HR0.o.drew;have hS0:w6.drew.cell? ⟨q,0,none⟩=some (.int .i64 o1)∧w6.drew.cell? ⟨q,1,none⟩=some (.int .i64 o2):=⟨HRd.o.ob.cell 0,HRd.o.ob.cell 1⟩;have hbA:=fun vk vn va vb ky vt w=>bldA 4 o1 o2 vk vn va vb ky vt w
 have hbW:=fun v w=>bldW 2 v w
 obtain⟨SS,hSS⟩:∃SS:World→Prop,SS=fun V=>V.cell? ⟨q,0,none⟩=some (.int .i64 o1)∧V.cell? ⟨q,1,none⟩=some (.int .i64 o2):=⟨_,rfl⟩
 have HSI:∀V,(V.cell? ⟨q,0,none⟩=some (.int .i64 o1)∧V.cell? ⟨q,1,none⟩=some (.int .i64 o2))→SS V:=fun V h=>by rw[hSS];exact h
 have HSO:∀V,SS V→(V.cell? ⟨q,0,none⟩=some (.int .i64 o1)∧V.cell? ⟨q,1,none⟩=some (.int .i64 o2)):=fun V h=>by rw[hSS]at h;exact h
 have HSI:=Hi HSI;have HSO:=Hi HSO;clear hSS;refine wp_region_held_drew (S:=SS) (by kernel_rfl) (HSI.o _ hS0) (fun hHeld=>?_);refine aK (i:=0) (v:=?_) rfl (by kernel_rfl) (by kernel_rfl) (by kernel_rfl) (fun _ _ _ h=>hP _ _ _ _ _ h) (Or.inl ⟨by rfl,?_⟩) hHeld ?_
 rotate_left
 ·(intro w _;go_simp;try with_reducible rfl)
 try simp only[Act.put,zA,zB,zC]
 refine aK (i:=1) (v:=?_) rfl (by kernel_rfl) (by kernel_rfl) (by kernel_rfl) (fun _ _ _ h=>hP _ _ _ _ _ h) (Or.inl ⟨by rfl,?_⟩) hHeld ?_
 rotate_left
 ·(intro w hSw;obtain⟨y1,y2⟩:=HSO.o _ hSw;go_simp;try with_reducible rfl)
 try simp only[Act.put,zA,zB,zC]
 refine aK (i:=2) (v:=?_) rfl (by kernel_rfl) (by kernel_rfl) (by kernel_rfl) (fun _ _ _ h=>hP _ _ _ _ _ h) (Or.inl ⟨by rfl,?_⟩) hHeld ?_
 rotate_left
 ·(intro w _;go_simp;try with_reducible rfl)
 try simp only[Act.put,zA,zB,zC]
 refine aK (i:=5) (v:=?_) rfl (by kernel_rfl) (by kernel_rfl) (by kernel_rfl) (fun _ _ _ h=>hP _ _ _ _ _ h) (Or.inl ⟨by rfl,?_⟩) hHeld ?_
 rotate_left
 ·(intro w _;go_simp;try with_reducible rfl)
 try simp only[Act.put,zA,zB,zC]
 refine wpAnyH_ready (rs:=[3]) (by kernel_rfl) (by simp) ?_;refine bK (i:=3) rfl (fun K hK=>?_) sZ;go_simp;refine Calls.mono (ATC.out _ HRd.o.bl 3 (by decide)) ?_;rintro e w71 ⟨⟨x3,rfl,hx3,hxw3⟩,rfl⟩;have hS71:=hS0;refine hK.out _ _ (HSI.o _ hS71) (fun hHeld=>?_);clear hK K;try simp only[Act.put,zA,zB,zC]
 refine wpAnyH_ready (rs:=[4]) (by kernel_rfl) (by simp) ?_;refine bK (i:=4) rfl (fun K hK=>?_) sZ;go_simp;refine Calls.mono (lJ x3 _) ?_;rintro e w72 ⟨⟨ky,rfl⟩,rfl⟩;have hS72:=hS0;refine hK.out _ _ (HSI.o _ hS72) (fun hHeld=>?_);clear hK K;try simp only[Act.put,zA,zB,zC]
 refine wpAnyH_ready (rs:=[6]) (by kernel_rfl) (by simp) ?_;refine bK (i:=6) rfl (fun K hK=>?_) sZ;go_simp;refine Calls.mono (ATC.out _ HRd.o.bl 4 (by decide)) ?_;rintro e w73 ⟨⟨x4,rfl,hx4,hxw4⟩,rfl⟩;have hS73:=hS0;refine hK.out _ _ (HSI.o _ hS73) (fun hHeld=>?_);clear hK K;try simp only[Act.put,zA,zB,zC]
 refine aK (i:=7) (v:=?_) rfl (by kernel_rfl) (by kernel_rfl) (by kernel_rfl) (fun _ _ _ h=>hP _ _ _ _ _ h) (Or.inl ⟨by rfl,?_⟩) hHeld ?_
 rotate_left
 ·(intro w _;go_simp;try with_reducible rfl)
 try simp only[Act.put,zA,zB,zC]
 refine aK (i:=8) (v:=?_) rfl (by kernel_rfl) (by kernel_rfl) (by kernel_rfl) (fun _ _ _ h=>hP _ _ _ _ _ h) (Or.inl ⟨by rfl,?_⟩) hHeld ?_
 rotate_left
 ·(intro w _;go_simp;try with_reducible rfl)
 try simp only[Act.put,zA,zB,zC]
 refine wpAnyH_ready (rs:=[9]) (by kernel_rfl) (by simp) ?_;refine bK (i:=9) rfl (fun K hK=>?_) sZ;go_simp;refine Calls.mono (jX HRd.o.hx HRd.o.bl.size HRd.o.lt hp (⟨4,o1,o2,ky,0,0,false,2,x4,⟨#[]⟩,0,0,none,0,[]⟩:OpD) (by show(1:Int)≤4;decide) hxw4 rfl) ?_;rintro e w74 ⟨⟨n1,n2,n3,rfl,hnI⟩,hst⟩;have HR74:=Hi (HRd.o.step hst);have hS74:w74.cell? ⟨q,0,none⟩=some (.int .i64 o1)∧w74.cell? ⟨q,1,none⟩=some (.int .i64 o2):=⟨HR74.o.ob.cell 0,HR74.o.ob.cell 1⟩;refine hK.out _ _ (HSI.o _ hS74) (fun hHeld=>?_);clear hK K;try simp only[Act.put,zA,zB,zC]
 refine wpAnyH_done (by kernel_rfl) ?_ _;clear hHeld HSI HSO;apply hK;exact HR74.o
end
section
open Go.ChangeShapes Go.WideShapes Go.ChangeAt Go.RowKit Go.Proofs.YtjhkcbideddlgaaGreat.Loc
set_option maxRecDepth 40000 in
theorem chs27{w w6:World}{i no q ob oo cO hb ho cH p:Nat}{G:Nat→Nat}{O:List Rf}{o1 o2:Int}{a:iM}(hp:p<i)(HQW:Hid (w.heap.size≤q))(HR0:Hid (Rnd w i G (.slice (some ⟨ob,oo,none⟩) no cO) (.slice (some ⟨hb,ho,none⟩) i cH) no (aF O) q (q+1) o1 o2 w6))
 (ATC:Hid (∀V,Below w.heap.size w V→∀i:Int,0≤i→Calls Tryz.prog 27 #[a.val,.int .i64 i] V fun e w'=>(∃x:Int,e=.returned (.int .i64 x)∧(-9223372036854775808≤x∧x≤9223372036854775807)∧IntKind.i64.wrap x=x)∧w'=V))
 {Q:Exit→Act→World→Prop} (hP:∀(c:_) (a:Act) (d:_) (v:Value) (w:World),Q (.panic c) (a.put d v) w→Q (.panic c) a w) (u0 u1 u2 u3 u4 u5 u6 u7 u8 u9 u14 u15 u16 u17 u18 u19 u20 u21 u22 u23 u24 u25 u26 u27 u28 u29 u30 u31 u32 u33 u34 u35 u36 u37 u38 u39 u40 u41 u42 u43 u44 u45 u46 u47 u48 u49 u50 u51 u52 u53 u54 u55 u56 u57 u58 u59 u60 u61 u62 u63 u64 u65 u66 u67 u68 u69 u70 u71 u72 u73 u74 u75 u76 u77 u78 u79 u80 u81 u82 u83 u84 u85 u86 u87 u88 u89 u90 u91 u92 u93 u94 u95 u96 u97 u98 u99 u100 u101 u102 u103 u104 u105 u106 u107 u108 u109 u110 u111 u112 u113 u114 u115 u116 u117 u118 u119 u120 u121 u122 u123 u124 u125 u126 u127 u128 u129 u130 u131 u132 u133 u134 u135 u136 u137 u138 u139 u140 u141 u142 u143 u144 u145 u146 u147 u148 u149 u150 u151 u152 u153 u154 u155 u156 u157 u158 u159 u160 u161 u162 u163 u164 u165 u166 u167 u168 u169 u170 u171 u172 u173 u174 u175 u176 u177 u178 u179 u180 u181 u182 u183 u184 u185 u186 u187 u188 u189 u190 u191 u192 u193 u194 u195 u196 u197 u198 u199 u200 u201 u202 u203 u204 u205 u206 u207 u208 u209 u210 u211 u212 u213 u214 u215 u216 u217 u218 u219 u220 u221 u222 u223 u224 u225 u226 u227 u228 u229:Value)
 (hK:∀(v128 v129 v130 v131 v132 v133 v134 v135 v136:Value) (w':World),Rnd w i G (.slice (some ⟨ob,oo,none⟩) no cO) (.slice (some ⟨hb,ho,none⟩) i cH) no (aF O) q (q+1) o1 o2 w'→Q .normal ⟨#[u0,u1,u2,u3,u4,u5,u6,u7,u8,u9,a.val,.pointer (some ⟨G p,0,none⟩),.pointer (some ⟨q,0,none⟩),.pointer (some ⟨q+1,0,none⟩),u14,u15,u16,u17,u18,u19,u20,u21,u22,u23,u24,u25,u26,u27,u28,u29,u30,u31,u32,u33,u34,u35,u36,u37,u38,u39,u40,u41,u42,u43,u44,u45,u46,u47,u48,u49,u50,u51,u52,u53,u54,u55,u56,u57,u58,u59,u60,u61,u62,u63,u64,u65,u66,u67,u68,u69,u70,u71,u72,u73,u74,u75,u76,u77,u78,u79,u80,u81,u82,u83,u84,u85,u86,u87,u88,u89,u90,u91,u92,u93,u94,u95,u96,u97,u98,u99,u100,u101,u102,u103,u104,u105,u106,u107,u108,u109,u110,u111,u112,u113,u114,u115,u116,u117,u118,u119,u120,u121,u122,u123,u124,u125,u126,u127,v128,v129,v130,v131,v132,v133,v134,v135,v136,u137,u138,u139,u140,u141,u142,u143,u144,u145,u146,u147,u148,u149,u150,u151,u152,u153,u154,u155,u156,u157,u158,u159,u160,u161,u162,u163,u164,u165,u166,u167,u168,u169,u170,u171,u172,u173,u174,u175,u176,u177,u178,u179,u180,u181,u182,u183,u184,u185,u186,u187,u188,u189,u190,u191,u192,u193,u194,u195,u196,u197,u198,u199,u200,u201,u202,u203,u204,u205,u206,u207,u208,u209,u210,u211,u212,u213,u214,u215,u216,u217,u218,u219,u220,u221,u222,u223,u224,u225,u226,u227,u228,u229],[]⟩ w') :
 Code.wp Tryz.prog (chR 27) Q ⟨#[u0,u1,u2,u3,u4,u5,u6,u7,u8,u9,a.val,.pointer (some ⟨G p,0,none⟩),.pointer (some ⟨q,0,none⟩),.pointer (some ⟨q+1,0,none⟩),u14,u15,u16,u17,u18,u19,u20,u21,u22,u23,u24,u25,u26,u27,u28,u29,u30,u31,u32,u33,u34,u35,u36,u37,u38,u39,u40,u41,u42,u43,u44,u45,u46,u47,u48,u49,u50,u51,u52,u53,u54,u55,u56,u57,u58,u59,u60,u61,u62,u63,u64,u65,u66,u67,u68,u69,u70,u71,u72,u73,u74,u75,u76,u77,u78,u79,u80,u81,u82,u83,u84,u85,u86,u87,u88,u89,u90,u91,u92,u93,u94,u95,u96,u97,u98,u99,u100,u101,u102,u103,u104,u105,u106,u107,u108,u109,u110,u111,u112,u113,u114,u115,u116,u117,u118,u119,u120,u121,u122,u123,u124,u125,u126,u127,u128,u129,u130,u131,u132,u133,u134,u135,u136,u137,u138,u139,u140,u141,u142,u143,u144,u145,u146,u147,u148,u149,u150,u151,u152,u153,u154,u155,u156,u157,u158,u159,u160,u161,u162,u163,u164,u165,u166,u167,u168,u169,u170,u171,u172,u173,u174,u175,u176,u177,u178,u179,u180,u181,u182,u183,u184,u185,u186,u187,u188,u189,u190,u191,u192,u193,u194,u195,u196,u197,u198,u199,u200,u201,u202,u203,u204,u205,u206,u207,u208,u209,u210,u211,u212,u213,u214,u215,u216,u217,u218,u219,u220,u221,u222,u223,u224,u225,u226,u227,u228,u229],[]⟩ w6:=by
 conv=>arg 2;whnf
 have HRd:Hid (Rnd w i G (.slice (some ⟨ob,oo,none⟩) no cO) (.slice (some ⟨hb,ho,none⟩) i cH) no (aF O) q (q+1) o1 o2 w6.drew):=HR0.o.drew;have hS0:w6.drew.cell? ⟨q,0,none⟩=some (.int .i64 o1)∧w6.drew.cell? ⟨q,1,none⟩=some (.int .i64 o2):=⟨HRd.o.ob.cell 0,HRd.o.ob.cell 1⟩;have hbC:=fun vk vn va vb vt w=>bldC 1 o1 o2 vk vn va vb vt w
 obtain⟨SS,hSS⟩:∃SS:World→Prop,SS=fun V=>V.cell? ⟨q,0,none⟩=some (.int .i64 o1)∧V.cell? ⟨q,1,none⟩=some (.int .i64 o2):=⟨_,rfl⟩
 have HSI:∀V,(V.cell? ⟨q,0,none⟩=some (.int .i64 o1)∧V.cell? ⟨q,1,none⟩=some (.int .i64 o2))→SS V:=fun V h=>by rw[hSS];exact h
 have HSO:∀V,SS V→(V.cell? ⟨q,0,none⟩=some (.int .i64 o1)∧V.cell? ⟨q,1,none⟩=some (.int .i64 o2)):=fun V h=>by rw[hSS]at h;exact h
 have HSI:=Hi HSI;have HSO:=Hi HSO;clear hSS;refine wp_region_held_drew (S:=SS) (by kernel_rfl) (HSI.o _ hS0) (fun hHeld=>?_);refine aK (i:=0) (v:=?_) rfl (by kernel_rfl) (by kernel_rfl) (by kernel_rfl) (fun _ _ _ h=>hP _ _ _ _ _ h) (Or.inl ⟨by rfl,?_⟩) hHeld ?_
 rotate_left
 ·(intro w _;go_simp;try with_reducible rfl)
 try simp only[Act.put,zA,zB,zC]
 refine aK (i:=1) (v:=?_) rfl (by kernel_rfl) (by kernel_rfl) (by kernel_rfl) (fun _ _ _ h=>hP _ _ _ _ _ h) (Or.inl ⟨by rfl,?_⟩) hHeld ?_
 rotate_left
 ·(intro w hSw;obtain⟨y1,y2⟩:=HSO.o _ hSw;go_simp;try with_reducible rfl)
 try simp only[Act.put,zA,zB,zC]
 refine aK (i:=2) (v:=?_) rfl (by kernel_rfl) (by kernel_rfl) (by kernel_rfl) (fun _ _ _ h=>hP _ _ _ _ _ h) (Or.inl ⟨by rfl,?_⟩) hHeld ?_
 rotate_left
 ·(intro w _;go_simp;try with_reducible rfl)
 try simp only[Act.put,zA,zB,zC]
 refine aK (i:=6) (v:=?_) rfl (by kernel_rfl) (by kernel_rfl) (by kernel_rfl) (fun _ _ _ h=>hP _ _ _ _ _ h) (Or.inl ⟨by rfl,?_⟩) hHeld ?_
 rotate_left
 ·(intro w _;go_simp;try with_reducible rfl)
 try simp only[Act.put,zA,zB,zC]
 refine wpAnyH_ready (rs:=[3]) (by kernel_rfl) (by simp) ?_;refine bK (i:=3) rfl (fun K hK=>?_) sZ;go_simp;refine Calls.mono (ATC.out _ HRd.o.bl 4 (by decide)) ?_;rintro e w71 ⟨⟨x4,rfl,hx4,hxw4⟩,rfl⟩;have hS71:=hS0;refine hK.out _ _ (HSI.o _ hS71) (fun hHeld=>?_);clear hK K;try simp only[Act.put,zA,zB,zC]
 refine wpAnyH_ready (rs:=[4]) (by kernel_rfl) (by simp) ?_;refine bK (i:=4) rfl (fun K hK=>?_) sZ;go_simp;refine Calls.mono (kG x4 hxw4 _) ?_;rintro e w72 ⟨⟨vk,vn,vt,hvn,rfl⟩,hb7⟩;have HR72:=Hi (HRd.o.below hb7);have hS72:w72.cell? ⟨q,0,none⟩=some (.int .i64 o1)∧w72.cell? ⟨q,1,none⟩=some (.int .i64 o2):=⟨HR72.o.ob.cell 0,HR72.o.ob.cell 1⟩;refine hK.out _ _ (HSI.o _ hS72) (fun hHeld=>?_);clear hK K;try simp only[Act.put,zA,zB,zC]
 refine aK (i:=5) (v:=?_) rfl (by kernel_rfl) (by kernel_rfl) (by kernel_rfl) (fun _ _ _ h=>hP _ _ _ _ _ h) (Or.inl ⟨by rfl,?_⟩) hHeld ?_
 rotate_left
 ·(intro w _;go_simp;try with_reducible rfl)
 try simp only[Act.put,zA,zB,zC]
 refine wpAnyH_ready (rs:=[7]) (by kernel_rfl) (by simp) ?_;refine bK (i:=7) rfl (fun K hK=>?_) sZ;go_simp;refine Calls.mono (ATC.out _ HR72.o.bl 3 (by decide)) ?_;rintro e w72 ⟨⟨x3,rfl,hx3,hxw3⟩,rfl⟩;have hS72:=hS72;refine hK.out _ _ (HSI.o _ hS72) (fun hHeld=>?_);clear hK K;try simp only[Act.put,zA,zB,zC]
 refine wpAnyH_ready (rs:=[8]) (by kernel_rfl) (by simp) ?_;refine bK (i:=8) rfl (fun K hK=>?_) sZ;go_simp;refine Calls.mono (nT HR72.o.hx HR72.o.bl.size HR72.o.lt hp (⟨1,o1,o2,⟨#[]⟩,0,0,true,vk,vn,vt,0,0,none,0,[]⟩:OpD) (by show(1:Int)≤1;decide) hvn rfl x3) ?_;rintro e w73 ⟨⟨n1,n2,n3,rfl,hnI⟩,hst⟩;have HR73:=Hi (HR72.o.step hst);have hS73:w73.cell? ⟨q,0,none⟩=some (.int .i64 o1)∧w73.cell? ⟨q,1,none⟩=some (.int .i64 o2):=⟨HR73.o.ob.cell 0,HR73.o.ob.cell 1⟩;refine hK.out _ _ (HSI.o _ hS73) (fun hHeld=>?_);clear hK K;try simp only[Act.put,zA,zB,zC]
 refine wpAnyH_done (by kernel_rfl) ?_ _;clear hHeld HSI HSO;apply hK;exact HR73.o
end
section
open Go.ChangeShapes Go.WideShapes Go.ChangeAt Go.RowKit Go.Proofs.YtjhkcbideddlgaaGreat.Loc
set_option maxRecDepth 40000 in
theorem chs29{w w6:World}{i no q ob oo cO hb ho cH p:Nat}{G:Nat→Nat}{O:List Rf}{o1 o2:Int}{a:iM}(hp:p<i)(HQW:Hid (w.heap.size≤q))(HR0:Hid (Rnd w i G (.slice (some ⟨ob,oo,none⟩) no cO) (.slice (some ⟨hb,ho,none⟩) i cH) no (aF O) q (q+1) o1 o2 w6))
 (ATC:Hid (∀V,Below w.heap.size w V→∀i:Int,0≤i→Calls Tryz.prog 27 #[a.val,.int .i64 i] V fun e w'=>(∃x:Int,e=.returned (.int .i64 x)∧(-9223372036854775808≤x∧x≤9223372036854775807)∧IntKind.i64.wrap x=x)∧w'=V))
 {Q:Exit→Act→World→Prop} (hP:∀(c:_) (a:Act) (d:_) (v:Value) (w:World),Q (.panic c) (a.put d v) w→Q (.panic c) a w) (u0 u1 u2 u3 u4 u5 u6 u7 u8 u9 u14 u15 u16 u17 u18 u19 u20 u21 u22 u23 u24 u25 u26 u27 u28 u29 u30 u31 u32 u33 u34 u35 u36 u37 u38 u39 u40 u41 u42 u43 u44 u45 u46 u47 u48 u49 u50 u51 u52 u53 u54 u55 u56 u57 u58 u59 u60 u61 u62 u63 u64 u65 u66 u67 u68 u69 u70 u71 u72 u73 u74 u75 u76 u77 u78 u79 u80 u81 u82 u83 u84 u85 u86 u87 u88 u89 u90 u91 u92 u93 u94 u95 u96 u97 u98 u99 u100 u101 u102 u103 u104 u105 u106 u107 u108 u109 u110 u111 u112 u113 u114 u115 u116 u117 u118 u119 u120 u121 u122 u123 u124 u125 u126 u127 u128 u129 u130 u131 u132 u133 u134 u135 u136 u137 u138 u139 u140 u141 u142 u143 u144 u145 u146 u147 u148 u149 u150 u151 u152 u153 u154 u155 u156 u157 u158 u159 u160 u161 u162 u163 u164 u165 u166 u167 u168 u169 u170 u171 u172 u173 u174 u175 u176 u177 u178 u179 u180 u181 u182 u183 u184 u185 u186 u187 u188 u189 u190 u191 u192 u193 u194 u195 u196 u197 u198 u199 u200 u201 u202 u203 u204 u205 u206 u207 u208 u209 u210 u211 u212 u213 u214 u215 u216 u217 u218 u219 u220 u221 u222 u223 u224 u225 u226 u227 u228 u229:Value)
 (hK:∀(v139 v140 v141 v142 v143 v144 v145 v146 v147 v148 v149 v150 v151 v152:Value) (w':World),Rnd w i G (.slice (some ⟨ob,oo,none⟩) no cO) (.slice (some ⟨hb,ho,none⟩) i cH) no (aF O) q (q+1) o1 o2 w'→Q .normal ⟨#[u0,u1,u2,u3,u4,u5,u6,u7,u8,u9,a.val,.pointer (some ⟨G p,0,none⟩),.pointer (some ⟨q,0,none⟩),.pointer (some ⟨q+1,0,none⟩),u14,u15,u16,u17,u18,u19,u20,u21,u22,u23,u24,u25,u26,u27,u28,u29,u30,u31,u32,u33,u34,u35,u36,u37,u38,u39,u40,u41,u42,u43,u44,u45,u46,u47,u48,u49,u50,u51,u52,u53,u54,u55,u56,u57,u58,u59,u60,u61,u62,u63,u64,u65,u66,u67,u68,u69,u70,u71,u72,u73,u74,u75,u76,u77,u78,u79,u80,u81,u82,u83,u84,u85,u86,u87,u88,u89,u90,u91,u92,u93,u94,u95,u96,u97,u98,u99,u100,u101,u102,u103,u104,u105,u106,u107,u108,u109,u110,u111,u112,u113,u114,u115,u116,u117,u118,u119,u120,u121,u122,u123,u124,u125,u126,u127,u128,u129,u130,u131,u132,u133,u134,u135,u136,u137,u138,v139,v140,v141,v142,v143,v144,v145,v146,v147,v148,v149,v150,v151,v152,u153,u154,u155,u156,u157,u158,u159,u160,u161,u162,u163,u164,u165,u166,u167,u168,u169,u170,u171,u172,u173,u174,u175,u176,u177,u178,u179,u180,u181,u182,u183,u184,u185,u186,u187,u188,u189,u190,u191,u192,u193,u194,u195,u196,u197,u198,u199,u200,u201,u202,u203,u204,u205,u206,u207,u208,u209,u210,u211,u212,u213,u214,u215,u216,u217,u218,u219,u220,u221,u222,u223,u224,u225,u226,u227,u228,u229],[]⟩ w') :
 Code.wp Tryz.prog (chR 29) Q ⟨#[u0,u1,u2,u3,u4,u5,u6,u7,u8,u9,a.val,.pointer (some ⟨G p,0,none⟩),.pointer (some ⟨q,0,none⟩),.pointer (some ⟨q+1,0,none⟩),u14,u15,u16,u17,u18,u19,u20,u21,u22,u23,u24,u25,u26,u27,u28,u29,u30,u31,u32,u33,u34,u35,u36,u37,u38,u39,u40,u41,u42,u43,u44,u45,u46,u47,u48,u49,u50,u51,u52,u53,u54,u55,u56,u57,u58,u59,u60,u61,u62,u63,u64,u65,u66,u67,u68,u69,u70,u71,u72,u73,u74,u75,u76,u77,u78,u79,u80,u81,u82,u83,u84,u85,u86,u87,u88,u89,u90,u91,u92,u93,u94,u95,u96,u97,u98,u99,u100,u101,u102,u103,u104,u105,u106,u107,u108,u109,u110,u111,u112,u113,u114,u115,u116,u117,u118,u119,u120,u121,u122,u123,u124,u125,u126,u127,u128,u129,u130,u131,u132,u133,u134,u135,u136,u137,u138,u139,u140,u141,u142,u143,u144,u145,u146,u147,u148,u149,u150,u151,u152,u153,u154,u155,u156,u157,u158,u159,u160,u161,u162,u163,u164,u165,u166,u167,u168,u169,u170,u171,u172,u173,u174,u175,u176,u177,u178,u179,u180,u181,u182,u183,u184,u185,u186,u187,u188,u189,u190,u191,u192,u193,u194,u195,u196,u197,u198,u199,u200,u201,u202,u203,u204,u205,u206,u207,u208,u209,u210,u211,u212,u213,u214,u215,u216,u217,u218,u219,u220,u221,u222,u223,u224,u225,u226,u227,u228,u229],[]⟩ w6:=by
 conv=>arg 2;whnf
 have HRd:Hid (Rnd w i G (.slice (some ⟨ob,oo,none⟩) no cO) (.slice (some ⟨hb,ho,none⟩) i cH) no (aF O) q (q+1) o1 o2 w6.drew):=HR0.o.drew;have hS0:w6.drew.cell? ⟨q,0,none⟩=some (.int .i64 o1)∧w6.drew.cell? ⟨q,1,none⟩=some (.int .i64 o2):=⟨HRd.o.ob.cell 0,HRd.o.ob.cell 1⟩;have hbC:=fun vk vn va vb vt w=>bldC 2 o1 o2 vk vn va vb vt w
 have hbV:=fun k w=>bldV k w
 obtain⟨SS,hSS⟩:∃SS:World→Prop,SS=fun V=>V.cell? ⟨q,0,none⟩=some (.int .i64 o1)∧V.cell? ⟨q,1,none⟩=some (.int .i64 o2):=⟨_,rfl⟩
 have HSI:∀V,(V.cell? ⟨q,0,none⟩=some (.int .i64 o1)∧V.cell? ⟨q,1,none⟩=some (.int .i64 o2))→SS V:=fun V h=>by rw[hSS];exact h
 have HSO:∀V,SS V→(V.cell? ⟨q,0,none⟩=some (.int .i64 o1)∧V.cell? ⟨q,1,none⟩=some (.int .i64 o2)):=fun V h=>by rw[hSS]at h;exact h
 have HSI:=Hi HSI;have HSO:=Hi HSO;clear hSS;refine wp_region_held_drew (S:=SS) (by kernel_rfl) (HSI.o _ hS0) (fun hHeld=>?_);refine aK (i:=0) (v:=?_) rfl (by kernel_rfl) (by kernel_rfl) (by kernel_rfl) (fun _ _ _ h=>hP _ _ _ _ _ h) (Or.inl ⟨by rfl,?_⟩) hHeld ?_
 rotate_left
 ·(intro w _;go_simp;try with_reducible rfl)
 try simp only[Act.put,zA,zB,zC]
 refine aK (i:=1) (v:=?_) rfl (by kernel_rfl) (by kernel_rfl) (by kernel_rfl) (fun _ _ _ h=>hP _ _ _ _ _ h) (Or.inl ⟨by rfl,?_⟩) hHeld ?_
 rotate_left
 ·(intro w hSw;obtain⟨y1,y2⟩:=HSO.o _ hSw;go_simp;try with_reducible rfl)
 try simp only[Act.put,zA,zB,zC]
 refine aK (i:=2) (v:=?_) rfl (by kernel_rfl) (by kernel_rfl) (by kernel_rfl) (fun _ _ _ h=>hP _ _ _ _ _ h) (Or.inl ⟨by rfl,?_⟩) hHeld ?_
 rotate_left
 ·(intro w _;go_simp;try with_reducible rfl)
 try simp only[Act.put,zA,zB,zC]
 refine aK (i:=8) (v:=?_) rfl (by kernel_rfl) (by kernel_rfl) (by kernel_rfl) (fun _ _ _ h=>hP _ _ _ _ _ h) (Or.inl ⟨by rfl,?_⟩) hHeld ?_
 rotate_left
 ·(intro w _;go_simp;try with_reducible rfl)
 try simp only[Act.put,zA,zB,zC]
 refine wpAnyH_ready (rs:=[3]) (by kernel_rfl) (by simp) ?_;refine bK (i:=3) rfl (fun K hK=>?_) sZ;go_simp;refine Calls.mono (ATC.out _ HRd.o.bl 4 (by decide)) ?_;rintro e w71 ⟨⟨x4,rfl,hx4,hxw4⟩,rfl⟩;have hS71:=hS0;refine hK.out _ _ (HSI.o _ hS71) (fun hHeld=>?_);clear hK K;try simp only[Act.put,zA,zB,zC]
 refine wpAnyH_ready (rs:=[4]) (by kernel_rfl) (by simp) ?_;refine bK (i:=4) rfl (fun K hK=>?_) sZ;go_simp;refine Calls.mono (pick2_any x4 _ hx4) ?_;rintro e w72 ⟨⟨pv,hpv,rfl⟩,rfl⟩;have hS72:=hS0;have hw5:IntKind.i64.wrap ((5:Int)+(pv:Int))=(5:Int)+(pv:Int):=tH _ (by omega);refine hK.out _ _ (HSI.o _ hS72) (fun hHeld=>?_);clear hK K;try simp only[Act.put,zA,zB,zC]
 refine aK (i:=5) (v:=?_) rfl (by kernel_rfl) (by kernel_rfl) (by kernel_rfl) (fun _ _ _ h=>hP _ _ _ _ _ h) (Or.inl ⟨by rfl,?_⟩) hHeld ?_
 rotate_left
 ·(intro w _;go_simp;try with_reducible rfl)
 try simp only[Act.put,zA,zB,zC]
 refine aK (i:=6) (v:=?_) rfl (by kernel_rfl) (by kernel_rfl) (by kernel_rfl) (fun _ _ _ h=>hP _ _ _ _ _ h) (Or.inl ⟨by rfl,?_⟩) hHeld ?_
 rotate_left
 ·(intro w _;go_simp;try with_reducible rfl)
 try simp only[Act.put,zA,zB,zC]
 refine aK (i:=7) (v:=?_) rfl (by kernel_rfl) (by kernel_rfl) (by kernel_rfl) (fun _ _ _ h=>hP _ _ _ _ _ h) (Or.inl ⟨by rfl,?_⟩) hHeld ?_
 rotate_left
 ·(intro w _;go_simp;try with_reducible rfl)
 try simp only[Act.put,zA,zB,zC]
 refine wpAnyH_ready (rs:=[9]) (by kernel_rfl) (by simp) ?_;refine bK (i:=9) rfl (fun K hK=>?_) sZ;go_simp;refine Calls.mono (ATC.out _ HRd.o.bl 3 (by decide)) ?_;rintro e w73 ⟨⟨x3,rfl,hx3,hxw3⟩,rfl⟩;have hS73:=hS0;refine hK.out _ _ (HSI.o _ hS73) (fun hHeld=>?_);clear hK K;try simp only[Act.put,zA,zB,zC]
 refine wpAnyH_ready (rs:=[10]) (by kernel_rfl) (by simp) ?_;refine bK (i:=10) rfl (fun K hK=>?_) sZ;go_simp;refine Calls.mono (nT HRd.o.hx HRd.o.bl.size HRd.o.lt hp (⟨2,o1,o2,⟨#[]⟩,0,0,true,5+(pv:Int),0,⟨#[]⟩,0,0,none,0,[]⟩:OpD) (by show(1:Int)≤2;decide) (tH (0:Int) (by omega)) rfl x3) ?_;rintro e w74 ⟨⟨n1,n2,n3,rfl,hnI⟩,hst⟩;have HR74:=Hi (HRd.o.step hst);have hS74:w74.cell? ⟨q,0,none⟩=some (.int .i64 o1)∧w74.cell? ⟨q,1,none⟩=some (.int .i64 o2):=⟨HR74.o.ob.cell 0,HR74.o.ob.cell 1⟩;refine hK.out _ _ (HSI.o _ hS74) (fun hHeld=>?_);clear hK K;try simp only[Act.put,zA,zB,zC]
 refine aK (i:=11) (v:=?_) rfl (by kernel_rfl) (by kernel_rfl) (by kernel_rfl) (fun _ _ _ h=>hP _ _ _ _ _ h) (Or.inl ⟨by rfl,?_⟩) hHeld ?_
 rotate_left
 ·(intro w _;go_simp;try with_reducible rfl)
 try simp only[Act.put,zA,zB,zC]
 refine aK (i:=12) (v:=?_) rfl (by kernel_rfl) (by kernel_rfl) (by kernel_rfl) (fun _ _ _ h=>hP _ _ _ _ _ h) (Or.inl ⟨by rfl,?_⟩) hHeld ?_
 rotate_left
 ·(intro w _;go_simp;try with_reducible rfl)
 try simp only[Act.put,zA,zB,zC]
 refine aK (i:=13) (v:=?_) rfl (by kernel_rfl) (by kernel_rfl) (by kernel_rfl) (fun _ _ _ h=>hP _ _ _ _ _ h) (Or.inl ⟨by rfl,?_⟩) hHeld ?_
 rotate_left
 ·(intro w _;go_simp;try with_reducible rfl)
 try simp only[Act.put,zA,zB,zC]
 obtain⟨m1,m2,hwb,-⟩:=HR74.o.wb
 obtain⟨r0,r1⟩:=ce2 hwb
 have f0:=hwb.frozen 0;have f1:=hwb.frozen 1;have HRs:Hid (Rnd w i G (.slice (some ⟨ob,oo,none⟩) no cO) (.slice (some ⟨hb,ho,none⟩) i cH) no (aF O) q (q+1) o1 o2 ((w74.setCell ⟨q+1,0,none⟩ (.int .i64 n1)).setCell ⟨q+1,1,none⟩ (.int .i64 n2))):=HR74.o.setw (by omega) (by have:=HQW.o;omega) hnI;have hSs:((w74.setCell ⟨q+1,0,none⟩ (.int .i64 n1)).setCell ⟨q+1,1,none⟩ (.int .i64 n2)).cell? ⟨q,0,none⟩=some (.int .i64 o1)∧((w74.setCell ⟨q+1,0,none⟩ (.int .i64 n1)).setCell ⟨q+1,1,none⟩ (.int .i64 n2)).cell? ⟨q,1,none⟩=some (.int .i64 o2):=⟨HRs.o.ob.cell 0,HRs.o.ob.cell 1⟩;clear hwb;refine wpAnyH_ready (rs:=[14]) (by kernel_rfl) (by simp) ?_;refine bK (i:=14) rfl (fun K hK=>?_) sZ;go_simp;refine hK.out _ _ (HSI.o _ hSs) (fun hHeld=>?_);clear hK K;try simp only[Act.put,zA,zB,zC]
 refine wpAnyH_done (by kernel_rfl) ?_ _;clear hHeld HSI HSO;apply hK;exact HRs.o
end
section
open Go.ChangeShapes Go.WideShapes Go.ChangeAt Go.RowKit Go.Proofs.YtjhkcbideddlgaaGreat.Loc
set_option maxRecDepth 40000 in
theorem chs31{w w6:World}{i no q ob oo cO hb ho cH p:Nat}{G:Nat→Nat}{O:List Rf}{o1 o2:Int}{a:iM}(hp:p<i)(HQW:Hid (w.heap.size≤q))(HR0:Hid (Rnd w i G (.slice (some ⟨ob,oo,none⟩) no cO) (.slice (some ⟨hb,ho,none⟩) i cH) no (aF O) q (q+1) o1 o2 w6))
 (ATC:Hid (∀V,Below w.heap.size w V→∀i:Int,0≤i→Calls Tryz.prog 27 #[a.val,.int .i64 i] V fun e w'=>(∃x:Int,e=.returned (.int .i64 x)∧(-9223372036854775808≤x∧x≤9223372036854775807)∧IntKind.i64.wrap x=x)∧w'=V))
 {Q:Exit→Act→World→Prop} (hP:∀(c:_) (a:Act) (d:_) (v:Value) (w:World),Q (.panic c) (a.put d v) w→Q (.panic c) a w) (u0 u1 u2 u3 u4 u5 u6 u7 u8 u9 u14 u15 u16 u17 u18 u19 u20 u21 u22 u23 u24 u25 u26 u27 u28 u29 u30 u31 u32 u33 u34 u35 u36 u37 u38 u39 u40 u41 u42 u43 u44 u45 u46 u47 u48 u49 u50 u51 u52 u53 u54 u55 u56 u57 u58 u59 u60 u61 u62 u63 u64 u65 u66 u67 u68 u69 u70 u71 u72 u73 u74 u75 u76 u77 u78 u79 u80 u81 u82 u83 u84 u85 u86 u87 u88 u89 u90 u91 u92 u93 u94 u95 u96 u97 u98 u99 u100 u101 u102 u103 u104 u105 u106 u107 u108 u109 u110 u111 u112 u113 u114 u115 u116 u117 u118 u119 u120 u121 u122 u123 u124 u125 u126 u127 u128 u129 u130 u131 u132 u133 u134 u135 u136 u137 u138 u139 u140 u141 u142 u143 u144 u145 u146 u147 u148 u149 u150 u151 u152 u153 u154 u155 u156 u157 u158 u159 u160 u161 u162 u163 u164 u165 u166 u167 u168 u169 u170 u171 u172 u173 u174 u175 u176 u177 u178 u179 u180 u181 u182 u183 u184 u185 u186 u187 u188 u189 u190 u191 u192 u193 u194 u195 u196 u197 u198 u199 u200 u201 u202 u203 u204 u205 u206 u207 u208 u209 u210 u211 u212 u213 u214 u215 u216 u217 u218 u219 u220 u221 u222 u223 u224 u225 u226 u227 u228 u229:Value)
 (hK:∀(v155 v156 v157 v158 v159 v160 v161 v162 v163:Value) (w':World),Rnd w i G (.slice (some ⟨ob,oo,none⟩) no cO) (.slice (some ⟨hb,ho,none⟩) i cH) no (aF O) q (q+1) o1 o2 w'→Q .normal ⟨#[u0,u1,u2,u3,u4,u5,u6,u7,u8,u9,a.val,.pointer (some ⟨G p,0,none⟩),.pointer (some ⟨q,0,none⟩),.pointer (some ⟨q+1,0,none⟩),u14,u15,u16,u17,u18,u19,u20,u21,u22,u23,u24,u25,u26,u27,u28,u29,u30,u31,u32,u33,u34,u35,u36,u37,u38,u39,u40,u41,u42,u43,u44,u45,u46,u47,u48,u49,u50,u51,u52,u53,u54,u55,u56,u57,u58,u59,u60,u61,u62,u63,u64,u65,u66,u67,u68,u69,u70,u71,u72,u73,u74,u75,u76,u77,u78,u79,u80,u81,u82,u83,u84,u85,u86,u87,u88,u89,u90,u91,u92,u93,u94,u95,u96,u97,u98,u99,u100,u101,u102,u103,u104,u105,u106,u107,u108,u109,u110,u111,u112,u113,u114,u115,u116,u117,u118,u119,u120,u121,u122,u123,u124,u125,u126,u127,u128,u129,u130,u131,u132,u133,u134,u135,u136,u137,u138,u139,u140,u141,u142,u143,u144,u145,u146,u147,u148,u149,u150,u151,u152,u153,u154,v155,v156,v157,v158,v159,v160,v161,v162,v163,u164,u165,u166,u167,u168,u169,u170,u171,u172,u173,u174,u175,u176,u177,u178,u179,u180,u181,u182,u183,u184,u185,u186,u187,u188,u189,u190,u191,u192,u193,u194,u195,u196,u197,u198,u199,u200,u201,u202,u203,u204,u205,u206,u207,u208,u209,u210,u211,u212,u213,u214,u215,u216,u217,u218,u219,u220,u221,u222,u223,u224,u225,u226,u227,u228,u229],[]⟩ w') :
 Code.wp Tryz.prog (chR 31) Q ⟨#[u0,u1,u2,u3,u4,u5,u6,u7,u8,u9,a.val,.pointer (some ⟨G p,0,none⟩),.pointer (some ⟨q,0,none⟩),.pointer (some ⟨q+1,0,none⟩),u14,u15,u16,u17,u18,u19,u20,u21,u22,u23,u24,u25,u26,u27,u28,u29,u30,u31,u32,u33,u34,u35,u36,u37,u38,u39,u40,u41,u42,u43,u44,u45,u46,u47,u48,u49,u50,u51,u52,u53,u54,u55,u56,u57,u58,u59,u60,u61,u62,u63,u64,u65,u66,u67,u68,u69,u70,u71,u72,u73,u74,u75,u76,u77,u78,u79,u80,u81,u82,u83,u84,u85,u86,u87,u88,u89,u90,u91,u92,u93,u94,u95,u96,u97,u98,u99,u100,u101,u102,u103,u104,u105,u106,u107,u108,u109,u110,u111,u112,u113,u114,u115,u116,u117,u118,u119,u120,u121,u122,u123,u124,u125,u126,u127,u128,u129,u130,u131,u132,u133,u134,u135,u136,u137,u138,u139,u140,u141,u142,u143,u144,u145,u146,u147,u148,u149,u150,u151,u152,u153,u154,u155,u156,u157,u158,u159,u160,u161,u162,u163,u164,u165,u166,u167,u168,u169,u170,u171,u172,u173,u174,u175,u176,u177,u178,u179,u180,u181,u182,u183,u184,u185,u186,u187,u188,u189,u190,u191,u192,u193,u194,u195,u196,u197,u198,u199,u200,u201,u202,u203,u204,u205,u206,u207,u208,u209,u210,u211,u212,u213,u214,u215,u216,u217,u218,u219,u220,u221,u222,u223,u224,u225,u226,u227,u228,u229],[]⟩ w6:=by
 conv=>arg 2;whnf
 have HRd:Hid (Rnd w i G (.slice (some ⟨ob,oo,none⟩) no cO) (.slice (some ⟨hb,ho,none⟩) i cH) no (aF O) q (q+1) o1 o2 w6.drew):=HR0.o.drew;have hS0:w6.drew.cell? ⟨q,0,none⟩=some (.int .i64 o1)∧w6.drew.cell? ⟨q,1,none⟩=some (.int .i64 o2):=⟨HRd.o.ob.cell 0,HRd.o.ob.cell 1⟩;have hbD:=fun vk vn va vb vt w=>bldD 1 o1 o2 vk vn va vb vt w
 obtain⟨SS,hSS⟩:∃SS:World→Prop,SS=fun V=>V.cell? ⟨q,0,none⟩=some (.int .i64 o1)∧V.cell? ⟨q,1,none⟩=some (.int .i64 o2):=⟨_,rfl⟩
 have HSI:∀V,(V.cell? ⟨q,0,none⟩=some (.int .i64 o1)∧V.cell? ⟨q,1,none⟩=some (.int .i64 o2))→SS V:=fun V h=>by rw[hSS];exact h
 have HSO:∀V,SS V→(V.cell? ⟨q,0,none⟩=some (.int .i64 o1)∧V.cell? ⟨q,1,none⟩=some (.int .i64 o2)):=fun V h=>by rw[hSS]at h;exact h
 have HSI:=Hi HSI;have HSO:=Hi HSO;clear hSS;refine wp_region_held_drew (S:=SS) (by kernel_rfl) (HSI.o _ hS0) (fun hHeld=>?_);refine aK (i:=0) (v:=?_) rfl (by kernel_rfl) (by kernel_rfl) (by kernel_rfl) (fun _ _ _ h=>hP _ _ _ _ _ h) (Or.inl ⟨by rfl,?_⟩) hHeld ?_
 rotate_left
 ·(intro w _;go_simp;try with_reducible rfl)
 try simp only[Act.put,zA,zB,zC]
 refine aK (i:=1) (v:=?_) rfl (by kernel_rfl) (by kernel_rfl) (by kernel_rfl) (fun _ _ _ h=>hP _ _ _ _ _ h) (Or.inl ⟨by rfl,?_⟩) hHeld ?_
 rotate_left
 ·(intro w hSw;obtain⟨y1,y2⟩:=HSO.o _ hSw;go_simp;try with_reducible rfl)
 try simp only[Act.put,zA,zB,zC]
 refine aK (i:=2) (v:=?_) rfl (by kernel_rfl) (by kernel_rfl) (by kernel_rfl) (fun _ _ _ h=>hP _ _ _ _ _ h) (Or.inl ⟨by rfl,?_⟩) hHeld ?_
 rotate_left
 ·(intro w _;go_simp;try with_reducible rfl)
 try simp only[Act.put,zA,zB,zC]
 refine aK (i:=6) (v:=?_) rfl (by kernel_rfl) (by kernel_rfl) (by kernel_rfl) (fun _ _ _ h=>hP _ _ _ _ _ h) (Or.inl ⟨by rfl,?_⟩) hHeld ?_
 rotate_left
 ·(intro w _;go_simp;try with_reducible rfl)
 try simp only[Act.put,zA,zB,zC]
 refine wpAnyH_ready (rs:=[3]) (by kernel_rfl) (by simp) ?_;refine bK (i:=3) rfl (fun K hK=>?_) sZ;go_simp;refine Calls.mono (ATC.out _ HRd.o.bl 4 (by decide)) ?_;rintro e w71 ⟨⟨x4,rfl,hx4,hxw4⟩,rfl⟩;have hS71:=hS0;refine hK.out _ _ (HSI.o _ hS71) (fun hHeld=>?_);clear hK K;try simp only[Act.put,zA,zB,zC]
 refine wpAnyH_ready (rs:=[4]) (by kernel_rfl) (by simp) ?_;refine bK (i:=4) rfl (fun K hK=>?_) sZ;go_simp;refine Calls.mono (kG x4 hxw4 _) ?_;rintro e w72 ⟨⟨vk,vn,vt,hvn,rfl⟩,hb7⟩;have HR72:=Hi (HRd.o.below hb7);have hS72:w72.cell? ⟨q,0,none⟩=some (.int .i64 o1)∧w72.cell? ⟨q,1,none⟩=some (.int .i64 o2):=⟨HR72.o.ob.cell 0,HR72.o.ob.cell 1⟩;refine hK.out _ _ (HSI.o _ hS72) (fun hHeld=>?_);clear hK K;try simp only[Act.put,zA,zB,zC]
 refine aK (i:=5) (v:=?_) rfl (by kernel_rfl) (by kernel_rfl) (by kernel_rfl) (fun _ _ _ h=>hP _ _ _ _ _ h) (Or.inl ⟨by rfl,?_⟩) hHeld ?_
 rotate_left
 ·(intro w _;go_simp;try with_reducible rfl)
 try simp only[Act.put,zA,zB,zC]
 refine wpAnyH_ready (rs:=[7]) (by kernel_rfl) (by simp) ?_;refine bK (i:=7) rfl (fun K hK=>?_) sZ;go_simp;refine Calls.mono (ATC.out _ HR72.o.bl 3 (by decide)) ?_;rintro e w72 ⟨⟨x3,rfl,hx3,hxw3⟩,rfl⟩;have hS72:=hS72;refine hK.out _ _ (HSI.o _ hS72) (fun hHeld=>?_);clear hK K;try simp only[Act.put,zA,zB,zC]
 refine wpAnyH_ready (rs:=[8]) (by kernel_rfl) (by simp) ?_;refine bK (i:=8) rfl (fun K hK=>?_) sZ;go_simp;refine Calls.mono (nT HR72.o.hx HR72.o.bl.size HR72.o.lt hp (⟨1,o1,o2,⟨#[]⟩,0,0,false,vk,vn,vt,0,0,none,0,[]⟩:OpD) (by show(1:Int)≤1;decide) hvn rfl x3) ?_;rintro e w73 ⟨⟨n1,n2,n3,rfl,hnI⟩,hst⟩;have HR73:=Hi (HR72.o.step hst);have hS73:w73.cell? ⟨q,0,none⟩=some (.int .i64 o1)∧w73.cell? ⟨q,1,none⟩=some (.int .i64 o2):=⟨HR73.o.ob.cell 0,HR73.o.ob.cell 1⟩;refine hK.out _ _ (HSI.o _ hS73) (fun hHeld=>?_);clear hK K;try simp only[Act.put,zA,zB,zC]
 refine wpAnyH_done (by kernel_rfl) ?_ _;clear hHeld HSI HSO;apply hK;exact HR73.o
end
section
open Go.ChangeShapes Go.WideShapes Go.ChangeAt Go.RowKit Go.Proofs.YtjhkcbideddlgaaGreat.Loc
set_option maxRecDepth 40000 in
theorem chs33{w w6:World}{i no q ob oo cO hb ho cH p:Nat}{G:Nat→Nat}{O:List Rf}{o1 o2:Int}{a:iM}(hp:p<i)(HQW:Hid (w.heap.size≤q))(HR0:Hid (Rnd w i G (.slice (some ⟨ob,oo,none⟩) no cO) (.slice (some ⟨hb,ho,none⟩) i cH) no (aF O) q (q+1) o1 o2 w6))
 (ATC:Hid (∀V,Below w.heap.size w V→∀i:Int,0≤i→Calls Tryz.prog 27 #[a.val,.int .i64 i] V fun e w'=>(∃x:Int,e=.returned (.int .i64 x)∧(-9223372036854775808≤x∧x≤9223372036854775807)∧IntKind.i64.wrap x=x)∧w'=V))
 {Q:Exit→Act→World→Prop} (hP:∀(c:_) (a:Act) (d:_) (v:Value) (w:World),Q (.panic c) (a.put d v) w→Q (.panic c) a w) (u0 u1 u2 u3 u4 u5 u6 u7 u8 u9 u14 u15 u16 u17 u18 u19 u20 u21 u22 u23 u24 u25 u26 u27 u28 u29 u30 u31 u32 u33 u34 u35 u36 u37 u38 u39 u40 u41 u42 u43 u44 u45 u46 u47 u48 u49 u50 u51 u52 u53 u54 u55 u56 u57 u58 u59 u60 u61 u62 u63 u64 u65 u66 u67 u68 u69 u70 u71 u72 u73 u74 u75 u76 u77 u78 u79 u80 u81 u82 u83 u84 u85 u86 u87 u88 u89 u90 u91 u92 u93 u94 u95 u96 u97 u98 u99 u100 u101 u102 u103 u104 u105 u106 u107 u108 u109 u110 u111 u112 u113 u114 u115 u116 u117 u118 u119 u120 u121 u122 u123 u124 u125 u126 u127 u128 u129 u130 u131 u132 u133 u134 u135 u136 u137 u138 u139 u140 u141 u142 u143 u144 u145 u146 u147 u148 u149 u150 u151 u152 u153 u154 u155 u156 u157 u158 u159 u160 u161 u162 u163 u164 u165 u166 u167 u168 u169 u170 u171 u172 u173 u174 u175 u176 u177 u178 u179 u180 u181 u182 u183 u184 u185 u186 u187 u188 u189 u190 u191 u192 u193 u194 u195 u196 u197 u198 u199 u200 u201 u202 u203 u204 u205 u206 u207 u208 u209 u210 u211 u212 u213 u214 u215 u216 u217 u218 u219 u220 u221 u222 u223 u224 u225 u226 u227 u228 u229:Value)
 (hK:∀(v166 v167 v168 v169 v170 v171:Value) (w':World),Rnd w i G (.slice (some ⟨ob,oo,none⟩) no cO) (.slice (some ⟨hb,ho,none⟩) i cH) no (aF O) q (q+1) o1 o2 w'→Q .normal ⟨#[u0,u1,u2,u3,u4,u5,u6,u7,u8,u9,a.val,.pointer (some ⟨G p,0,none⟩),.pointer (some ⟨q,0,none⟩),.pointer (some ⟨q+1,0,none⟩),u14,u15,u16,u17,u18,u19,u20,u21,u22,u23,u24,u25,u26,u27,u28,u29,u30,u31,u32,u33,u34,u35,u36,u37,u38,u39,u40,u41,u42,u43,u44,u45,u46,u47,u48,u49,u50,u51,u52,u53,u54,u55,u56,u57,u58,u59,u60,u61,u62,u63,u64,u65,u66,u67,u68,u69,u70,u71,u72,u73,u74,u75,u76,u77,u78,u79,u80,u81,u82,u83,u84,u85,u86,u87,u88,u89,u90,u91,u92,u93,u94,u95,u96,u97,u98,u99,u100,u101,u102,u103,u104,u105,u106,u107,u108,u109,u110,u111,u112,u113,u114,u115,u116,u117,u118,u119,u120,u121,u122,u123,u124,u125,u126,u127,u128,u129,u130,u131,u132,u133,u134,u135,u136,u137,u138,u139,u140,u141,u142,u143,u144,u145,u146,u147,u148,u149,u150,u151,u152,u153,u154,u155,u156,u157,u158,u159,u160,u161,u162,u163,u164,u165,v166,v167,v168,v169,v170,v171,u172,u173,u174,u175,u176,u177,u178,u179,u180,u181,u182,u183,u184,u185,u186,u187,u188,u189,u190,u191,u192,u193,u194,u195,u196,u197,u198,u199,u200,u201,u202,u203,u204,u205,u206,u207,u208,u209,u210,u211,u212,u213,u214,u215,u216,u217,u218,u219,u220,u221,u222,u223,u224,u225,u226,u227,u228,u229],[]⟩ w') :
 Code.wp Tryz.prog (chR 33) Q ⟨#[u0,u1,u2,u3,u4,u5,u6,u7,u8,u9,a.val,.pointer (some ⟨G p,0,none⟩),.pointer (some ⟨q,0,none⟩),.pointer (some ⟨q+1,0,none⟩),u14,u15,u16,u17,u18,u19,u20,u21,u22,u23,u24,u25,u26,u27,u28,u29,u30,u31,u32,u33,u34,u35,u36,u37,u38,u39,u40,u41,u42,u43,u44,u45,u46,u47,u48,u49,u50,u51,u52,u53,u54,u55,u56,u57,u58,u59,u60,u61,u62,u63,u64,u65,u66,u67,u68,u69,u70,u71,u72,u73,u74,u75,u76,u77,u78,u79,u80,u81,u82,u83,u84,u85,u86,u87,u88,u89,u90,u91,u92,u93,u94,u95,u96,u97,u98,u99,u100,u101,u102,u103,u104,u105,u106,u107,u108,u109,u110,u111,u112,u113,u114,u115,u116,u117,u118,u119,u120,u121,u122,u123,u124,u125,u126,u127,u128,u129,u130,u131,u132,u133,u134,u135,u136,u137,u138,u139,u140,u141,u142,u143,u144,u145,u146,u147,u148,u149,u150,u151,u152,u153,u154,u155,u156,u157,u158,u159,u160,u161,u162,u163,u164,u165,u166,u167,u168,u169,u170,u171,u172,u173,u174,u175,u176,u177,u178,u179,u180,u181,u182,u183,u184,u185,u186,u187,u188,u189,u190,u191,u192,u193,u194,u195,u196,u197,u198,u199,u200,u201,u202,u203,u204,u205,u206,u207,u208,u209,u210,u211,u212,u213,u214,u215,u216,u217,u218,u219,u220,u221,u222,u223,u224,u225,u226,u227,u228,u229],[]⟩ w6:=by
 conv=>arg 2;whnf
 have HRd:Hid (Rnd w i G (.slice (some ⟨ob,oo,none⟩) no cO) (.slice (some ⟨hb,ho,none⟩) i cH) no (aF O) q (q+1) o1 o2 w6.drew):=HR0.o.drew;have hS0:w6.drew.cell? ⟨q,0,none⟩=some (.int .i64 o1)∧w6.drew.cell? ⟨q,1,none⟩=some (.int .i64 o2):=⟨HRd.o.ob.cell 0,HRd.o.ob.cell 1⟩;have hbE:=fun w=>bldE 3 o1 o2 w
 obtain⟨SS,hSS⟩:∃SS:World→Prop,SS=fun V=>V.cell? ⟨q,0,none⟩=some (.int .i64 o1)∧V.cell? ⟨q,1,none⟩=some (.int .i64 o2):=⟨_,rfl⟩
 have HSI:∀V,(V.cell? ⟨q,0,none⟩=some (.int .i64 o1)∧V.cell? ⟨q,1,none⟩=some (.int .i64 o2))→SS V:=fun V h=>by rw[hSS];exact h
 have HSO:∀V,SS V→(V.cell? ⟨q,0,none⟩=some (.int .i64 o1)∧V.cell? ⟨q,1,none⟩=some (.int .i64 o2)):=fun V h=>by rw[hSS]at h;exact h
 have HSI:=Hi HSI;have HSO:=Hi HSO;clear hSS;refine wp_region_held_drew (S:=SS) (by kernel_rfl) (HSI.o _ hS0) (fun hHeld=>?_);refine aK (i:=0) (v:=?_) rfl (by kernel_rfl) (by kernel_rfl) (by kernel_rfl) (fun _ _ _ h=>hP _ _ _ _ _ h) (Or.inl ⟨by rfl,?_⟩) hHeld ?_
 rotate_left
 ·(intro w _;go_simp;try with_reducible rfl)
 try simp only[Act.put,zA,zB,zC]
 refine aK (i:=1) (v:=?_) rfl (by kernel_rfl) (by kernel_rfl) (by kernel_rfl) (fun _ _ _ h=>hP _ _ _ _ _ h) (Or.inl ⟨by rfl,?_⟩) hHeld ?_
 rotate_left
 ·(intro w hSw;obtain⟨y1,y2⟩:=HSO.o _ hSw;go_simp;try with_reducible rfl)
 try simp only[Act.put,zA,zB,zC]
 refine aK (i:=2) (v:=?_) rfl (by kernel_rfl) (by kernel_rfl) (by kernel_rfl) (fun _ _ _ h=>hP _ _ _ _ _ h) (Or.inl ⟨by rfl,?_⟩) hHeld ?_
 rotate_left
 ·(intro w _;go_simp;try with_reducible rfl)
 try simp only[Act.put,zA,zB,zC]
 refine aK (i:=3) (v:=?_) rfl (by kernel_rfl) (by kernel_rfl) (by kernel_rfl) (fun _ _ _ h=>hP _ _ _ _ _ h) (Or.inl ⟨by rfl,?_⟩) hHeld ?_
 rotate_left
 ·(intro w _;go_simp;try with_reducible rfl)
 try simp only[Act.put,zA,zB,zC]
 refine wpAnyH_ready (rs:=[4]) (by kernel_rfl) (by simp) ?_;refine bK (i:=4) rfl (fun K hK=>?_) sZ;go_simp;refine Calls.mono (ATC.out _ HRd.o.bl 3 (by decide)) ?_;rintro e w71 ⟨⟨x3,rfl,hx3,hxw3⟩,rfl⟩;have hS71:=hS0;refine hK.out _ _ (HSI.o _ hS71) (fun hHeld=>?_);clear hK K;try simp only[Act.put,zA,zB,zC]
 refine wpAnyH_ready (rs:=[5]) (by kernel_rfl) (by simp) ?_;refine bK (i:=5) rfl (fun K hK=>?_) sZ;go_simp;refine Calls.mono (nT HRd.o.hx HRd.o.bl.size HRd.o.lt hp (⟨3,o1,o2,⟨#[]⟩,0,0,false,0,0,⟨#[]⟩,0,0,none,0,[]⟩:OpD) (by show(1:Int)≤3;decide) (tH (0:Int) (by omega)) rfl x3) ?_;rintro e w72 ⟨⟨n1,n2,n3,rfl,hnI⟩,hst⟩;have HR72:=Hi (HRd.o.step hst);have hS72:w72.cell? ⟨q,0,none⟩=some (.int .i64 o1)∧w72.cell? ⟨q,1,none⟩=some (.int .i64 o2):=⟨HR72.o.ob.cell 0,HR72.o.ob.cell 1⟩;refine hK.out _ _ (HSI.o _ hS72) (fun hHeld=>?_);clear hK K;try simp only[Act.put,zA,zB,zC]
 refine wpAnyH_done (by kernel_rfl) ?_ _;clear hHeld HSI HSO;apply hK;exact HR72.o
end
end Go.Proofs.YtjhkcbideddlgaaGreat
