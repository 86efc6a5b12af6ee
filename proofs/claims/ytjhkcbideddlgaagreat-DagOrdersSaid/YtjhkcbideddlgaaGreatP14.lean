/- Contracts of the document's books: ready, Same; what memory holds of a book. -/
import Derived.Test.YtjhkcbideddlgaaGreatP13
import Derived.Test.YtjhkcbideddlgaaGreatP1
import Derived.Test.YtjhkcbideddlgaaGreatP10
import Derived.Test.YtjhkcbideddlgaaGreatP11
import Derived.Test.YtjhkcbideddlgaaGreatP5
import Derived.Deep.MidRow
import Derived.Deep.DeepCutAuto
import Derived.Deep.CutBlock
set_option maxHeartbeats 8000000
set_option maxRecDepth 20000
set_option linter.unusedVariables false
set_option linter.unusedSimpArgs false
namespace Go.Proofs.YtjhkcbideddlgaaGreat
open Go.ChangeShapes Go.WideShapes Go.ChangeAt Go.RowKit
section
theorem qR(L W:List ChD)(c:ChD)(g:Nat)(w:World)(hB:BR w g L W)(hc:ChIn (fun k=>k<w.heap.size) w c)(hl:L.length≤1000000):
 Calls Tryz.prog 79 #[.pointer (some ⟨g,0,none⟩),c.v] w fun e w'=>e=.returned (.bool (aU L c))∧Below w.heap.size w w':=by
 have HB:=Hi hB;have HC:=Hi hc;have HW:Hid (Below w.heap.size w (w.alloc (.cells #[.int .i64 c.a,.int .i64 c.s,.int .i64 c.st,.slice c.DA c.deps.length c.DC,.slice c.OA c.ops.length c.OC] 33))):=(sA _ w).alloc (sB _) _;have HQ:=Hi (Blk.new w 33 #[.int .i64 c.a,.int .i64 c.s,.int .i64 c.st,.slice c.DA c.deps.length c.DC,.slice c.OA c.ops.length c.OC]);have hdl:=hc.hdl;have C1:=fun(V:World) (r:Rf) A cc h1=>jD L r (fun k=>k<V.heap.size) A cc V h1 (fun _ h=>h) (by omega)
 obtain⟨n,hn⟩:∃n,c.deps.length=n:=⟨_,rfl⟩
 have HN:=Hi hn;unfold ChD.v;rw[hn]at hdl HW HQ ⊢;clear hB hc hn;go_enter Tryz.func79,Tryz.ntmps79;go_wp2_with fail
 generalize w.alloc (.cells #[.int .i64 c.a,.int .i64 c.s,.int .i64 c.st,.slice c.DA n c.DC,.slice c.OA c.ops.length c.OC] 33)=V at *;go_loopw [5,6] (fun s5 _ wr=>∃k:Nat,s5=.int .i64 k∧k≤n∧Hid (∀d∈c.deps.take k,d∈aB L)∧Hid (Blk wr w.heap.size 33 #[.int .i64 c.a,.int .i64 c.s,.int .i64 c.st,.slice c.DA n c.DC,.slice c.OA c.ops.length c.OC])∧Hid (Below w.heap.size w wr)) (fun s5 _ _=>n-(intOf s5).toNat)
 case atStart=>exact⟨0,rfl,by omega,by show ∀d∈_,_;simp,HQ,HW⟩
 case round =>
  clear HQ HW;obtain⟨k,rfl,hk,HI,HQ,HW⟩:=hrel
  have c3:=cZ HQ.o 3 rfl;by_cases hlt:k<n
  ·obtain⟨r,hr⟩:∃r,c.deps[k]?=some r:=⟨_,sC (by rw[HN.o];exact hlt)⟩
   obtain⟨b1,o1,hA,-,hc1⟩:=(aA HC.o.hd HW.o).at_ (by rw[HN.o];omega) (by omega)
   have x1:wr.cell? ⟨b1,o1+k*2,none⟩=some (.int .i64 r.1):=hc1 _ _ (aN hr).1;have x2:wr.cell? ⟨b1,o1+k*2+1,none⟩=some (.int .i64 r.2):=hc1 _ _ (aN hr).2;rw[hA]at c3;obtain⟨A,cc,A',cc',hg,hL,hW⟩:=HB.o.below HW.o
   have g0:=cZ hg 0 rfl;have C2:=C1 wr.drew r A cc hL.row;have HR:=Hi hr;clear hg hL hW hc1 hr hA;go_wp2_with fail
   refine wp_region_still_tail 9 (by kernel_rfl) (by kernel_rfl) ?_;simp only[tE,tO,tG,tT];repeat (first|(refine aQ rfl (fun K hK=>?_);go_simp;refine hK _ ?_;clear hK K)|(refine wpStill_skip rfl ?_;go_frame))
   refine wpStill_nil ?_;change wpList _ _ _ _ _ wr.drew;replace HW:Hid (Below w.heap.size w wr.drew):=HW.o.drew;replace HQ:Hid (Blk wr.drew w.heap.size 33 #[.int .i64 c.a,.int .i64 c.s,.int .i64 c.st,.slice c.DA n c.DC,.slice c.OA c.ops.length c.OC]):=HQ.o;generalize wr.drew=w2 at HW HQ C2 ⊢;clear c3 x1 x2 g0;go_wp2_with fail
   go_at_call 75;refine C2.mono ?_;rintro e w3 ⟨i,rfl,hi,hb⟩;replace HQ:=Hi (HQ.o.keep (hb.block _ HQ.o.lt));replace HW:Hid (Below w.heap.size w w3):=HW.o.trans (hb.mono HW.o.size);clear hb;clear C2;rcases hi with⟨rfl,hno⟩|⟨kk,y,rfl,hy,hf⟩
   ·have HF:Hid (aU L c=false):=by
     show _=_;unfold aU;rw[←Bool.not_eq_true,tR];intro hh;have:=hh r (sJ HR.o)
     exact hno (by simpa using this)
    clear hno;go_wp2_with fail
    go_ret;exact⟨by rw[HF.o];rfl,HW.o⟩
   ·have HI2:Hid (∀d∈c.deps.take (k+1),d∈aB L):=by
     intro d hd;rw[sQ,HR.o]at hd;rcases sG.1 hd with hd|hd
     ·exact HI.o d hd
     ·simp at hd;rw[hd,←(cK hf).2];exact bX (cK hf).1
    have hk0:decide ((kk:Int)<0)=false:=sI (by omega);clear hy hf;go_wp2_with fail
    go_roundw
    case rel=>exact⟨k+1,by go_num,by omega,HI2,HQ,HW⟩
    case measure=>simp[intOf];omega
  ·have HF:Hid (aU L c=true):=by
    have:=HI.o
    rw[sL (by rw[HN.o];omega)]at this;show _=_;unfold aU;rw[tR];intro d hd;simpa using this d hd
   go_wp2_with fail
   go_ret;exact⟨by rw[HF.o];rfl,HW.o⟩
theorem jM{c:ChD}(he:c.err=0)(hw:∀o∈c.ops,(Lit.int .i64 o.vn).wf=true):EncG c.a c.s c.st c.deps c.ops:=(chg_good he hw).1
theorem sSame_any(x y:ChD)(w:World)(hx:ChIn (fun k=>k<w.heap.size) w x)(hy:ChIn (fun k=>k<w.heap.size) w y)(gx:EncG x.a x.s x.st x.deps x.ops)(gy:EncG y.a y.s y.st y.deps y.ops):
 Calls Tryz.prog 78 #[x.v,y.v] w fun e w'=>e=.returned (.bool (decide (x.enc=y.enc)))∧Below w.heap.size w w':=by
 have HB0:=Hi (((sA _ w).alloc (sB _) (.cells #[.int .i64 x.a,.int .i64 x.s,.int .i64 x.st,.slice x.DA x.deps.length x.DC,.slice x.OA x.ops.length x.OC] 33)).alloc (by simp) (.cells #[.int .i64 y.a,.int .i64 y.s,.int .i64 y.st,.slice y.DA y.deps.length y.DC,.slice y.OA y.ops.length y.OC] 33));have HQ:Hid (Blk ((w.alloc (.cells #[.int .i64 x.a,.int .i64 x.s,.int .i64 x.st,.slice x.DA x.deps.length x.DC,.slice x.OA x.ops.length x.OC] 33)).alloc (.cells #[.int .i64 y.a,.int .i64 y.s,.int .i64 y.st,.slice y.DA y.deps.length y.DC,.slice y.OA y.ops.length y.OC] 33)) (w.heap.size+1) 33 #[.int .i64 y.a,.int .i64 y.s,.int .i64 y.st,.slice y.DA y.deps.length y.DC,.slice y.OA y.ops.length y.OC]):=by
  have:=Blk.new (w.alloc (.cells #[.int .i64 x.a,.int .i64 x.s,.int .i64 x.st,.slice x.DA x.deps.length x.DC,.slice x.OA x.ops.length x.OC] 33)) 33 #[.int .i64 y.a,.int .i64 y.s,.int .i64 y.st,.slice y.DA y.deps.length y.DC,.slice y.OA y.ops.length y.OC]
  rw[tB]at this;exact this
 have R1:=jU x.a x.s x.st x.deps x.DA _ x.DC x.ops x.OA _ x.OC _ ((hx.chm fun _ h=>h).keep HB0.o) rfl rfl gx;have H2:=Hi (hy.chm fun _ h=>h);have HG2:=Hi gy;have HE:Hid (x.enc=gZ x.a x.s x.st x.deps x.ops∧y.enc=gZ y.a y.s y.st y.deps y.ops):=⟨rfl,rfl⟩;unfold ChD.v;clear hx hy gx gy;generalize gZ x.a x.s x.st x.deps x.ops=ex at R1 HE;generalize hey:gZ y.a y.s y.st y.deps y.ops=ey at HE;have HEY:=Hi hey;clear hey;go_enter Tryz.func78,Tryz.ntmps78;go_wp2_with fail
 go_at_call 94;refine R1.mono ?_;rintro e w1 ⟨v1,rfl,ho,hb⟩;obtain⟨A1,C1,hv1,_,_,hr1⟩:=aC.of_own ho
 subst hv1;have HR1:Hid (aC (fun x=>x<w1.heap.size) w1 1 A1 ex.length (bP ex)):=hr1.more fun x hx=>(aD ho hx).2
 have HB1:=Hi (HB0.o.trans (hb.mono HB0.o.size));replace HQ:=Hi (HQ.o.keep (hb.block _ HQ.o.lt));obtain⟨d0,d1,d2,d3,d4⟩:=ce5 HQ.o
 clear R1 ho hr1 hb HB0;have R2:=jU y.a y.s y.st y.deps y.DA _ y.DC y.ops y.OA _ y.OC w1 (H2.o.keep HB1.o) rfl rfl HG2.o;rw[HEY.o]at R2;go_wp2_with fail
 go_at_call 94;refine R2.mono ?_;rintro e w2 ⟨v2,rfl,ho,hb⟩;obtain⟨A2,C2,hv2,_,_,hr2⟩:=aC.of_own ho
 subst hv2;have cv1:(convert 147 9 (.slice A1 ex.length C1)).run Tryz.prog w2=.ok (.string ⟨ex.toArray⟩) w2:=jZ (aA HR1.o hb);have cv2:(convert 147 9 (.slice A2 ey.length C2)).run Tryz.prog w2=.ok (.string ⟨ey.toArray⟩) w2:=jZ hr2;have HB2:Hid (Below w.heap.size w w2):=HB1.o.trans (hb.mono HB1.o.size);have HD:Hid ((ex == ey)=decide (x.enc=y.enc)):=by
  show _=_;rw[HE.o.1,HE.o.2];by_cases h:ex=ey<;>simp[h]
 clear R2 ho hr2 hb HR1;go_wp2_with fail
 go_ret;exact⟨by rw[←HD.o];rfl,HB2.o⟩
structure BM(D F:Nat→Prop)(w:World)(g:Nat)(L W:List ChD)(VL VW:Value):Prop where
 blk:Blk w g 88 #[VL,VW]
 oL:w.ownsRow 0 33 5 VL L.length (aW L)
 oW:w.ownsRow 0 33 5 VW W.length (aW W)
 ne:∀k,VL.ownBlock=some k→VW.ownBlock≠some k
 hF:∀k,F k↔k=g∨VL.ownBlock=some k∨VW.ownBlock=some k
 inL:∀c∈L,ChIn D w c
 inW:∀c∈W,ChIn D w c
 hD:∀k,D k→k<w.heap.size∧¬F k
section
variable{D F:Nat→Prop}{w w':World}{g:Nat}{L W:List ChD}{VL VW:Value}
theorem BM.neg(h:BM D F w g L W VL VW):VL.ownBlock≠some g∧VW.ownBlock≠some g:=⟨dI h.oL h.blk (by decide),dI h.oW h.blk (by decide)⟩
theorem BM.flt(h:BM D F w g L W VL VW){k:Nat}(hk:F k):k<w.heap.size:=by
 rcases(h.hF k).1 hk with rfl|hk|hk
 ·exact h.blk.lt
 ·exact(aD h.oL hk).2
 ·exact(aD h.oW hk).2
theorem BM.keep(h:BM D F w g L W VL VW)(hs:w.heap.size≤w'.heap.size)(hD:∀k,D k→w'.heap[k]?=w.heap[k]?)(hF:∀k,F k→w'.heap[k]?=w.heap[k]?):BM D F w' g L W VL VW :=
 ⟨h.blk.keep (hF g ((h.hF g).2 (.inl rfl))),aT h.oL (fun k hk=>hF k ((h.hF k).2 (.inr (.inl hk)))),aT h.oW (fun k hk=>hF k ((h.hF k).2 (.inr (.inr hk)))),h.ne,h.hF,
  fun c hc=>(h.inL c hc).keep hD,fun c hc=>(h.inW c hc).keep hD,fun k hk=>⟨sD (h.hD k hk).1 hs,(h.hD k hk).2⟩⟩
theorem BM.below(h:BM D F w g L W VL VW)(hb:Below w.heap.size w w'):BM D F w' g L W VL VW :=
 h.keep hb.size (fun k hk=>hb.block k (h.hD k hk).1) (fun k hk=>hb.block k (h.flt hk))
theorem BM.br(h:BM D F w g L W VL VW):BR w g L W:=by
 obtain⟨A,c,hv,_,_,hr⟩:=aC.of_own h.oL
 obtain⟨A',c',hv',_,_,hr'⟩:=aC.of_own h.oW
 refine⟨A,c,A',c',by rw[←hv,←hv'];exact h.blk,⟨hr.more (fun k hk=>(aD h.oL hk).2),fun c hc=>(h.inL c hc).more fun k hk=>(h.hD k hk).1⟩,⟨hr'.more (fun k hk=>(aD h.oW hk).2),fun c hc=>(h.inW c hc).more fun k hk=>(h.hD k hk).1⟩⟩
theorem BM.moreD{D':Nat→Prop}(h:BM D F w g L W VL VW)(hD:∀k,D k→D' k)(hD':∀k,D' k→k<w.heap.size∧¬F k):BM D' F w g L W VL VW :=
 ⟨h.blk,h.oL,h.oW,h.ne,h.hF,fun c hc=>(h.inL c hc).more hD,fun c hc=>(h.inW c hc).more hD,hD'⟩
theorem BM.setL(h:BM D F w g L W VL VW){V':Value}{L':List ChD}(hs:w.heap.size≤w'.heap.size)(hk:∀k,k<w.heap.size→VL.ownBlock≠some k→w'.heap[k]?=w.heap[k]?)
 (ho:w'.ownsRow 0 33 5 V' L'.length (aW L')) (hat:V'.ownBlock=VL.ownBlock∨∀k,V'.ownBlock=some k→w.heap.size≤k) (hin:∀c∈L',ChIn D w c) :
 BM D (fun k=>k=g∨V'.ownBlock=some k∨VW.ownBlock=some k) (w'.setCell ⟨g,0,none⟩ V') g L' W V' VW:=by
 have hg:w'.heap[g]?=w.heap[g]?:=hk g h.blk.lt h.neg.1;have hW:∀k,VW.ownBlock=some k→w'.heap[k]?=w.heap[k]?:=fun k e=>hk k (aD h.oW e).2 (fun e'=>h.ne k e' e)
 have hDk:∀k,D k→w'.heap[k]?=w.heap[k]?:=fun k hd=>hk k (h.hD k hd).1 (fun e=>(h.hD k hd).2 ((h.hF k).2 (.inr (.inl e))))
 have hB:Blk w' g 88 #[VL,VW]:=h.blk.keep hg;have hneg:V'.ownBlock≠some g:=dI ho hB (by decide);have hset:∀k,k≠g→(w'.setCell ⟨g,0,none⟩ V').heap[k]?=w'.heap[k]?:=fun k hk=>sU _ _ _ _ hk
 have hsz:(w'.setCell ⟨g,0,none⟩ V').heap.size=w'.heap.size:=by simp
 refine⟨hB.set_ 0 V',aT ho fun k hk=>hset k (fun e=>hneg (by rw[←e];exact hk)),aT (aT h.oW hW) fun k hk=>hset k (fun e=>h.neg.2 (by rw[←e];exact hk)),fun k e e'=>?_,fun k=>Iff.rfl,
  fun c hc=>((hin c hc).keep hDk).keep fun k hd=>hset k (fun e=>(h.hD k hd).2 ((h.hF k).2 (.inl e))),fun c hc=>((h.inW c hc).keep hDk).keep fun k hd=>hset k (fun e=>(h.hD k hd).2 ((h.hF k).2 (.inl e))),fun k hd=>⟨by rw[hsz];exact sD (h.hD k hd).1 hs,?_⟩⟩
 ·rcases hat with h1|h1
  ·exact h.ne k (h1▸e) e'
  ·have:=h1 k e;have:=(aD h.oW e').2;omega
 ·rintro(e|e|e)
  ·exact(h.hD k hd).2 ((h.hF k).2 (.inl e))
  ·rcases hat with h1|h1
   ·exact(h.hD k hd).2 ((h.hF k).2 (.inr (.inl (h1▸e))))
   ·have:=h1 k e;have:=(h.hD k hd).1;omega
  ·exact(h.hD k hd).2 ((h.hF k).2 (.inr (.inr e)))
theorem BM.setW(h:BM D F w g L W VL VW){V':Value}{W':List ChD}(hs:w.heap.size≤w'.heap.size)(hk:∀k,k<w.heap.size→VW.ownBlock≠some k→w'.heap[k]?=w.heap[k]?)
 (ho:w'.ownsRow 0 33 5 V' W'.length (aW W')) (hat:V'.ownBlock=VW.ownBlock∨∀k,V'.ownBlock=some k→w.heap.size≤k) (hin:∀c∈W',ChIn D w c) :
 BM D (fun k=>k=g∨VL.ownBlock=some k∨V'.ownBlock=some k) (w'.setCell ⟨g,1,none⟩ V') g L W' VL V':=by
 have hg:w'.heap[g]?=w.heap[g]?:=hk g h.blk.lt h.neg.2;have hL:∀k,VL.ownBlock=some k→w'.heap[k]?=w.heap[k]?:=fun k e=>hk k (aD h.oL e).2 (fun e'=>h.ne k e e')
 have hDk:∀k,D k→w'.heap[k]?=w.heap[k]?:=fun k hd=>hk k (h.hD k hd).1 (fun e=>(h.hD k hd).2 ((h.hF k).2 (.inr (.inr e))))
 have hB:Blk w' g 88 #[VL,VW]:=h.blk.keep hg;have hneg:V'.ownBlock≠some g:=dI ho hB (by decide);have hset:∀k,k≠g→(w'.setCell ⟨g,1,none⟩ V').heap[k]?=w'.heap[k]?:=fun k hk=>sU _ _ _ _ hk
 have hsz:(w'.setCell ⟨g,1,none⟩ V').heap.size=w'.heap.size:=by simp
 refine⟨hB.set_ 1 V',aT (aT h.oL hL) fun k hk=>hset k (fun e=>h.neg.1 (by rw[←e];exact hk)),aT ho fun k hk=>hset k (fun e=>hneg (by rw[←e];exact hk)),fun k e e'=>?_,fun k=>Iff.rfl,
  fun c hc=>((h.inL c hc).keep hDk).keep fun k hd=>hset k (fun e=>(h.hD k hd).2 ((h.hF k).2 (.inl e))),fun c hc=>((hin c hc).keep hDk).keep fun k hd=>hset k (fun e=>(h.hD k hd).2 ((h.hF k).2 (.inl e))),fun k hd=>⟨by rw[hsz];exact sD (h.hD k hd).1 hs,?_⟩⟩
 ·rcases hat with h1|h1
  ·exact h.ne k e (h1▸e')
  ·have:=h1 k e';have:=(aD h.oL e).2;omega
 ·rintro(e|e|e)
  ·exact(h.hD k hd).2 ((h.hF k).2 (.inl e))
  ·exact(h.hD k hd).2 ((h.hF k).2 (.inr (.inl e)))
  ·rcases hat with h1|h1
   ·exact(h.hD k hd).2 ((h.hF k).2 (.inr (.inr (h1▸e))))
   ·have:=h1 k e;have:=(h.hD k hd).1;omega
theorem cD{w:World}{k:Nat}{t:TypeId}{cs:Array Value}{n:Nat}(h:Blk w k t cs)(hn:cs.size=n):aC (fun x=>x=k) w n (some ⟨k,0,none⟩) 1 cs.toList:=by
 refine⟨by simp[hn],fun _=>⟨_,rfl,rfl,fun j u hu=>?_⟩⟩
 rw[addr0];have hj:cs[j]?=some u:=by simpa using hu
 obtain⟨hlt,e⟩:=vO.1 hj
 have:=h.cell j
 rw[hj]at this;exact this
theorem dY(L:List ChD):∀u∈aW L,u.oneCell'=true:=by
 intro u hu;obtain⟨r,_,h⟩:=vG.1 hu
 simp only[ChD.cells,sO,uB,or_false]at h;rcases h with rfl|rfl|rfl|rfl|rfl<;>rfl
theorem lB{w w':World}{o:Obj}{row:Option Nat}(hg:(w.alloc o).grownBy w' row):w.heap.size≤w'.heap.size∧∀k,k<w.heap.size→row≠some k→w'.heap[k]?=w.heap[k]?:=by
 refine⟨by have:=hg.size;rw[tB]at this;omega,fun k hk hn=>?_⟩
 exact(hg.block k (by rw[tB];omega) (fun e=>hn e.symm)).trans (sM w o k hk)
theorem grown_chg{w w':World}{o:Obj}{row:Option Nat}{F:Nat→Prop}(hg:(w.alloc o).grownBy w' row)(hF:∀k,row=some k→F k):Chg F w w':=by
 obtain⟨h1,h2⟩:=lB hg
 exact⟨hg.os,hg.tape,hg.output,h1,fun k hk hn=>h2 k hk (fun e=>hn (hF k e))⟩
theorem BM.pushW(h:BM D F w g L W VL VW){o:Obj}{v':Value}{c:ChD}(ho:w'.ownsRow 0 33 5 v' (W.length+1) (aW W++c.cells))(hg:(w.alloc o).grownBy w' VW.ownBlock)
 (hat:v'.ownBlock=VW.ownBlock∨v'.ownBlock=some (w.alloc o).heap.size) (hc:ChIn D w c) :
 ∃F',BM D F' (w'.setCell ⟨g,1,none⟩ v') g L (W++[c]) VL v'∧(∀k,F' k→F k∨w.heap.size≤k)∧Chg F w (w'.setCell ⟨g,1,none⟩ v'):=by
 obtain⟨h1,h2⟩:=lB hg
 have hat':v'.ownBlock=VW.ownBlock∨∀k,v'.ownBlock=some k→w.heap.size≤k:=by
  rcases hat with e|e
  ·exact .inl e
  ·refine .inr fun k hk=>?_
   rw[e,tB]at hk;simp only[tW]at hk;omega
 refine⟨_,h.setW h1 (fun k hk hn=>h2 k hk hn) (by rw[sF,gT];simpa[aW] using ho) hat' (fun x hx=>?_),fun k hk=>?_,(grown_chg hg fun k hk=>(h.hF k).2 (.inr (.inr hk))).setCell (.inl ((h.hF g).2 (.inl rfl))) _⟩
 ·rcases sG.1 hx with hx|hx
  ·exact h.inW x hx
  ·rw[sP.1 hx];exact hc
 ·rcases hk with e|e|e
  ·exact .inl ((h.hF k).2 (.inl e))
  ·exact .inl ((h.hF k).2 (.inr (.inl e)))
  ·rcases hat' with h3|h3
   ·exact .inl ((h.hF k).2 (.inr (.inr (h3▸e))))
   ·exact .inr (h3 k e)
theorem BM.pushL(h:BM D F w g L W VL VW){o:Obj}{v':Value}{c:ChD}(ho:w'.ownsRow 0 33 5 v' (L.length+1) (aW L++c.cells))(hg:(w.alloc o).grownBy w' VL.ownBlock)
 (hat:v'.ownBlock=VL.ownBlock∨v'.ownBlock=some (w.alloc o).heap.size) (hc:ChIn D w c) :
 ∃F',BM D F' (w'.setCell ⟨g,0,none⟩ v') g (L++[c]) W v' VW∧(∀k,F' k→F k∨w.heap.size≤k)∧Chg F w (w'.setCell ⟨g,0,none⟩ v'):=by
 obtain⟨h1,h2⟩:=lB hg
 have hat':v'.ownBlock=VL.ownBlock∨∀k,v'.ownBlock=some k→w.heap.size≤k:=by
  rcases hat with e|e
  ·exact .inl e
  ·refine .inr fun k hk=>?_
   rw[e,tB]at hk;simp only[tW]at hk;omega
 refine⟨_,h.setL h1 (fun k hk hn=>h2 k hk hn) (by rw[sF,gT];simpa[aW] using ho) hat' (fun x hx=>?_),fun k hk=>?_,(grown_chg hg fun k hk=>(h.hF k).2 (.inr (.inl hk))).setCell (.inl ((h.hF g).2 (.inl rfl))) _⟩
 ·rcases sG.1 hx with hx|hx
  ·exact h.inL x hx
  ·rw[sP.1 hx];exact hc
 ·rcases hk with e|e|e
  ·exact .inl ((h.hF k).2 (.inl e))
  ·rcases hat' with h3|h3
   ·exact .inl ((h.hF k).2 (.inr (.inl (h3▸e))))
   ·exact .inr (h3 k e)
  ·exact .inl ((h.hF k).2 (.inr (.inr e)))
end
end
section
open Go.RowKit
theorem id_one:∀ {K:List OpI},(K.map Prod.snd).Nodup→∀ {x y:OpI},x∈K→y∈K→x.2=y.2→x=y
 | [],_,_,_,hx,_,_=>by cases hx
 |z::K,hn,x,y,hx,hy,h=>by
  rw[tU,uI]at hn;rcases sO.1 hx with hx|hx<;>rcases sO.1 hy with hy|hy
  ·rw[hx,hy]
  ·exact absurd (sW.2 ⟨y,hy,h.symm.trans (congrArg Prod.snd hx)⟩) hn.1
  ·exact absurd (sW.2 ⟨x,hx,h.trans (congrArg Prod.snd hy)⟩) hn.1
  ·exact id_one hn.2 hx hy h
theorem lookP_perm{K K':List OpI}(hp:K.Perm K')(hn:(K.map Prod.snd).Nodup)(r:Rf):cX K r=cX K' r:=by
 unfold cX;cases h:K.find? (fun x=>decide (x.2=r)) with
 |none =>
  symm;rw[wP]at h ⊢;exact fun x hx=>h x (hp.mem_iff.2 hx)
 |some y =>
  have h1:=vE h;have h2:y.2=r:=by simpa using wW h
  cases h':K'.find? (fun x=>decide (x.2=r)) with
  |none=>exact absurd (by simpa using h2) (wP.1 h' y (hp.mem_iff.1 h1))
  |some z =>
   have h3:=vE h';have h4:z.2=r:=by simpa using wW h'
   rw[id_one hn h1 (hp.mem_iff.2 h3) (h2.trans h4.symm)]
theorem mayP_perm{K K':List OpI}(hp:K.Perm K')(hn:(K.map Prod.snd).Nodup)(x:OpI):cY x K=cY x K':=by
 have h:=lookP_perm hp hn;have h1:eS x K=eS x K':=by unfold eS;rw[h]
 have h2:dA x K=dA x K':=by unfold dA;rw[h]
 have h3:bJ x K=bJ x K':=by funext p;unfold bJ;rw[h]
 unfold cY;rw[h1,h2,h3]
theorem pT:∀(l:List OpI) {K K':List OpI},K.Perm K'→((K++l).map Prod.snd).Nodup→dD l K=dD l K'
 | [],_,_,_,_=>rfl
 |x::l,K,K',hp,hn=>by
  have hk:(K.map Prod.snd).Nodup:=by rw[tN]at hn;exact hn.sublist (List.sublist_append_left _ _)
  rw[dD,dD,mayP_perm hp hk,pT l (hp.append_right [x]) (by simpa using hn)]
def dO(L:List ChD)(r:Rf):List OpI:=match aV L r with|some c=>c.opsI|none=>[]
theorem dQ{L:List ChD}(hn:(aB L).Nodup){c:ChD}(hc:c∈L):aV L c.rf=some c:=by
 cases h:aV L c.rf with
 |none=>exact absurd (bX hc) (bW.1 h)
 |some d =>
  obtain⟨h1,h2⟩:=cK h
  congr 1;obtain⟨i,hi⟩:=wU hc
  obtain⟨j,hj⟩:=wU h1
  have e1:(aB L)[i]?=some c.rf:=by simp[aB,hi]
  have e2:(aB L)[j]?=some c.rf:=by simp[aB,hj,h2]
  obtain⟨l1,e1⟩:=sE.1 e1
  obtain⟨l2,e2⟩:=sE.1 e2
  have hij:i=j:=(List.getElem_inj hn).1 (e1.trans e2.symm);subst hij;exact(tK (hi.symm.trans hj)).symm
theorem iW{α:Type}: ∀ {a b:List α},a.Nodup→b.Nodup→(∀x,x∈a↔x∈b)→a.Perm b
 | [],b,_,_,h=>by
   cases b with
   |nil=>exact vF _
   |cons y b=>exact absurd ((h y).2 (tM ..)) (by simp)
 |x::a,b,ha,hb,h=>by
  obtain⟨s,t,rfl⟩:=wR ((h x).1 (tM ..))
  have hp:(s++x::t).Perm (x::(s++t)):=wL;have hb2:=hp.nodup_iff.1 hb;refine(List.Perm.cons x (iW (uI.1 ha).2 (uI.1 hb2).2 fun y=>?_)).trans hp.symm
  have hy:=(h y).trans hp.mem_iff;rw[sO,sO]at hy;constructor
  ·intro hm;rcases hy.1 (.inr hm) with e|e
   ·exact absurd (e▸hm) (uI.1 ha).1
   ·exact e
  ·intro hm;rcases hy.2 (.inr hm) with e|e
   ·exact absurd (e▸hm) (uI.1 hb2).1
   ·exact e
theorem dC{α β:Type}{f g:α→List β}: ∀ {l:List α},(∀x∈l,f x=g x)→l.flatMap f=l.flatMap g
 | [],_=>rfl
 |x::l,h=>by rw[tQ,tQ,h x (tM ..),dC fun y hy=>h y (uO _ hy)]
theorem pS{α β:Type}(f:α→List β){l m:List α}(h:l.Sublist m):(l.flatMap f).Sublist (m.flatMap f):=by
 induction h with
 |slnil=>exact List.Sublist.refl _
 |cons a h ih=>rw[tQ];exact ih.trans (List.sublist_append_right _ _)
 |cons_cons a h ih=>rw[tQ,tQ];exact(List.Sublist.refl _).append ih
theorem iQ{L:List ChD}(hn:(aB L).Nodup){S:List Rf}(hs:S.Nodup)(hsub:∀r∈S,r∈aB L):(S.flatMap (dO L)).Perm (bV L S):=by
 unfold bV;have e:(L.filter fun c=>decide (c.rf∈S)).flatMap ChD.opsI=((L.filter fun c=>decide (c.rf∈S)).map ChD.rf).flatMap (dO L):=by
  rw[List.flatMap_map];refine dC fun c hc=>?_
  unfold dO;rw[dQ hn (vT.1 hc).1]
 rw[e];refine List.Perm.flatMap_right _ (iW hs ?_ fun r=>?_)
 ·exact hn.sublist ((List.filter_sublist).map _)
 ·constructor
  ·intro hr;obtain⟨c,hc,rfl⟩:=sW.1 (hsub r hr)
   exact sW.2 ⟨c,vT.2 ⟨hc,by simpa using hr⟩,rfl⟩
  ·intro hr;obtain⟨c,hc,rfl⟩:=sW.1 hr
   simpa using (vT.1 hc).2
theorem kU{L:List ChD}(hb:Bk L){S:List Rf}(hs:S.Nodup)(hsub:∀r∈S,r∈aB L):((S.flatMap (dO L)).map Prod.snd).Nodup:=by
 rw[((iQ hb.nodup hs hsub).map Prod.snd).nodup_iff];refine hb.ids.sublist (List.Sublist.map _ ?_);unfold bV;exact pS _ List.filter_sublist
theorem fits_no1{L:List ChD}{c:ChD}{S:List Rf}(hS:∀r,r∈S↔r∈aP L c.deps){r:Rf}(hr:r∈S)(h1:r.1=c.a)(h2:c.s≤r.2):bR L c=false:=by
 unfold bR eO;have:eN c (aP L c.deps)=false:=by
  unfold eN;rw[List.all_eq_false];exact⟨r,(hS r).1 hr,by simp[h1,h2]⟩
 rw[this];rfl
theorem fits_no2{L:List ChD}{c:ChD}{S:List Rf}(hn:(aB L).Nodup)(hs:S.Nodup)(hS:∀r,r∈S↔r∈aP L c.deps){r:Rf}(hr:r∈S){x:OpI}(hx:x∈dO L r)(h:c.st≤x.2.1):bR L c=false:=by
 have e:bR L c=eO L c S:=(hX hS).symm;rw[e];unfold eO;have:(bV L S).all (fun x=>decide (x.2.1<c.st))=false:=by
  rw[List.all_eq_false];refine⟨x,(iQ hn hs fun r hr=>bL ((hS r).1 hr)).mem_iff.1 (vG.2 ⟨r,hr,hx⟩),?_⟩
  simp;omega
 rw[this];simp
theorem prevOk_mem(c:ChD)(S:List Rf):fX c S=!(decide (1<c.s)&&!decide ((c.a,c.s-1)∈S)):=by
 unfold fX;congr 3;rw[Bool.eq_iff_iff];simp only[wM,tJ,tL];constructor
 ·rintro⟨r,hr,h1,h2⟩;rw[←h1,←h2];exact hr
 ·intro h;exact⟨_,h,rfl,rfl⟩
theorem fits_yes{L:List ChD}{c:ChD}{S:List Rf}{K:List OpI}(hb:Bk L)(hs:S.Nodup)(hS:∀r,r∈S↔r∈aP L c.deps)(hK:K.Perm (S.flatMap (dO L)))
 (h1:∀r∈S,¬(r.1=c.a∧c.s≤r.2)) (h2:∀x∈K,x.2.1<c.st) :
 bR L c=(!(decide (1<c.s)&&!decide ((c.a,c.s-1)∈S))&&dD c.opsI K):=by
 have e:bR L c=eO L c S:=(hX hS).symm;have hsub:∀r∈S,r∈aB L:=fun r hr=>bL ((hS r).1 hr)
 have hp:=hK.trans (iQ hb.nodup hs hsub);rw[e];unfold eO;have e1:eN c S=true:=by
  unfold eN;rw[tR];intro r hr;have:=h1 r hr
  simp only[Bool.not_eq_true',Bool.and_eq_false_iff,decide_eq_false_iff_not];by_cases hh:r.1=c.a
  ·exact .inr fun h=>this ⟨hh,h⟩
  ·exact .inl hh
 have e2:(bV L S).all (fun x=>decide (x.2.1<c.st))=true:=by
  rw[tR];exact fun x hx=>sH (h2 x (hp.mem_iff.2 hx))
 have hids:((K++c.opsI).map Prod.snd).Nodup:=by
  rw[tN,uM];refine⟨(hK.map Prod.snd).nodup_iff.2 (kU hb hs hsub),fH _ _ _,fun a ha b hb' hab=>?_⟩
  obtain⟨x,hx,rfl⟩:=sW.1 ha
  obtain⟨y,hy,rfl⟩:=sW.1 hb'
  have q1:=h2 x hx;have q2:=(bQ hy).2.1;rw[hab]at q1;omega
 rw[e1,e2,prevOk_mem,pT c.opsI hp hids];simp
/-! ### what a change's ops keep to -/
theorem oR{o:OpD}(h:eP o=0):1≤o.k∧(o.k=2→o.vk=5∨o.vk=6):=by
 unfold eP opE at h;obtain⟨h1,h⟩:=aR h (by omega)
 obtain⟨h2,h⟩:=aR h (by omega)
 obtain⟨h3,h⟩:=aR h (by omega)
 by_cases h4:eQ o.l≠0
 ·rw[tA h4]at h;exact absurd h h4
 rw[sT h4]at h;refine⟨by omega,fun hk=>?_⟩
 unfold lS at h;obtain⟨_,h⟩:=aR h (by omega)
 obtain⟨_,h⟩:=aR h (by omega)
 obtain⟨h5,_⟩:=aR h (by omega)
 have h6:gG o.k o.vk o.va o.vb=true:=by
  cases hb:gG o.k o.vk o.va o.vb with
  |true=>rfl
  |false=>exact absurd hb h5
 rw[hk]at h6;unfold gG dE at h6;simp at h6;omega
theorem id64{a b:Int}(h:idB a b=true):eL (a,b):=by
 simp only[idB,bD,cJ,oU,iZ,wX,tJ,tL]at h;exact⟨by show _≤a∧a≤_;omega,by show _≤b∧b≤_;omega⟩
theorem opE_ids{o:OpD}(h:eP o=0):eL (o.on,o.oa)∧eL (o.en,o.ea)∧∀p∈o.l,eL p:=by
 unfold eP opE at h;obtain⟨h1,h⟩:=aR h (by omega)
 obtain⟨h2,h⟩:=aR h (by omega)
 have q1:idB o.on o.oa=true:=by
  cases hb:idB o.on o.oa with
  |true=>rfl
  |false=>exact absurd (.inr (.inr (.inl hb))) h1
 have q2:idB o.en o.ea=true:=by
  cases hb:idB o.en o.ea with
  |true=>rfl
  |false=>exact absurd (.inr (.inr (.inr hb))) h1
 refine⟨id64 q1,id64 q2,fun p hp=>?_⟩
 have q3:o.l.all (fun r=>cJ r.1 r.2)=true:=by
  cases hb:o.l.all (fun r=>cJ r.1 r.2) with
  |true=>rfl
  |false=>exact absurd hb h2
 have:=tR.1 q3 p hp
 exact id64 (by unfold idB;rw[this,Bool.or_true])
end
section
open Go.RowKit
def bE(L:List ChD):List OpI:=L.flatMap ChD.opsI
def iR(obj el:Rf)(x:OpI):Bool:=x.1.ins&&decide (fQ x=obj)&&decide (elP x=el)
def gK(K:List OpI)(obj el:Rf):List Rf:=(K.filter (iR obj el)).map Prod.snd
def kM(l:List Rf)(r:Rf):List Rf:=l.takeWhile (fun q=>aM r q)++r::l.dropWhile (fun q=>aM r q)
def eA(K:List OpI)(obj el:Rf):List Rf:=(gK K obj el).foldl kM []
def qB(l:List Rf):Prop:=l.Pairwise fun x y=>aM y x=true
def hY(K:List OpI)(obj:Rf):Nat→Rf→List Rf
 |0,_=>[]
 |n+1,el=>(eA K obj el).flatMap fun k=>k::hY K obj n k
theorem putD_mem{l:List Rf}{r q:Rf}: q∈kM l r↔q=r∨q∈l:=by
 unfold kM;rw[sG,sO];have:=uJ (p:=fun q=>aM r q) (l:=l)
 constructor
 ·rintro(h|h|h)
  ·exact .inr (by rw[←this];exact tI _ h)
  ·exact .inl h
  ·exact .inr (by rw[←this];exact tX _ h)
 ·rintro(h|h)
  ·exact .inr (.inl h)
  ·rw[←this]at h;rcases sG.1 h with h|h
   ·exact .inl h
   ·exact .inr (.inr h)
theorem putD_len(l:List Rf)(r:Rf):(kM l r).length=l.length+1:=by
 unfold kM;rw[sF,sV];have:=congrArg List.length (uJ (p:=fun q=>aM r q) (l:=l))
 rw[sF]at this;omega
theorem putD_fall{l:List Rf}{r:Rf}(h:qB l)(hm:r∉l):qB (kM l r):=by
 unfold kM;have hs:=uJ (p:=fun q=>aM r q) (l:=l);have h1:qB (l.takeWhile (fun q=>aM r q)):=h.sublist (List.takeWhile_sublist _);have h2:qB (l.dropWhile (fun q=>aM r q)):=h.sublist (List.dropWhile_sublist _);have h3:∀x∈l.dropWhile (fun q=>aM r q),aM x r=true:=by
  intro x hx;cases hd:l.dropWhile (fun q=>aM r q) with
  |nil=>rw[hd]at hx;cases hx
  |cons a t =>
   have ha:aM r a=false:=by
    have:=List.head_dropWhile_not (fun q=>aM r q) (l:=l) (by rw[hd];simp)
    simp only[hd,List.head_cons]at this;simpa using this
   have hal:a∈l:=by rw[←hs,hd];simp
   have har:aM a r=true:=by
    rcases hZ (a:=a) (b:=r) (fun e=>hm (e▸hal)) with h|h
    ·exact h
    ·rw[ha]at h;cases h
   rw[hd]at hx h2;rcases sO.1 hx with rfl|hx
   ·exact har
   ·exact fB ((uZ.1 h2).1 x hx) har
 rw[qB,List.pairwise_append];refine⟨h1,uZ.2 ⟨h3,h2⟩,fun a ha b hb=>?_⟩
 have har:aM r a=true:=lR (p:=fun q=>aM r q) ha;rcases sO.1 hb with rfl|hb
 ·exact har
 ·exact fB (h3 b hb) har
theorem putD_fold:∀(l out:List Rf),qB out→(out++l).Nodup→qB (l.foldl kM out)∧(∀q,q∈l.foldl kM out↔q∈out∨q∈l)∧(l.foldl kM out).length=out.length+l.length
 | [],out,h,_=>⟨h,fun q=>by simp,by simp⟩
 |r::l,out,h,hn=>by
  have hr:r∉out:=fun hm=>by
   rw[uM]at hn;exact hn.2.2 r hm r (tM ..) rfl
  have hn2:(kM out r++l).Nodup:=by
   rw[uM]at hn ⊢;obtain⟨a,b,c⟩:=hn
   rw[uI]at b;refine⟨(putD_fall h hr).imp (fun hx e=>by rw[e,dZ]at hx;cases hx),b.2,fun x hx y hy e=>?_⟩
   rcases putD_mem.1 hx with rfl|hx
   ·exact b.1 (e▸hy)
   ·exact c x hx y (uO _ hy) e
  obtain⟨a,b,c⟩:=putD_fold l (kM out r) (putD_fall h hr) hn2
  refine⟨a,fun q=>?_,by rw[vJ,c,putD_len,sV];omega⟩
  rw[vJ,b q,putD_mem,sO];constructor
  ·rintro((h|h)|h)
   ·exact .inr (.inl h)
   ·exact .inl h
   ·exact .inr (.inr h)
  ·rintro(h|h|h)
   ·exact .inl (.inr h)
   ·exact .inl (.inl h)
   ·exact .inr h
structure KTree(K:List OpI)(N:Int):Prop where
 nd:(K.map Prod.snd).Nodup
 up:∀x∈K,x.1.ins=true→(elP x).1<x.2.1
 pos:∀x∈K,1≤x.2.1
 top:∀x∈K,x.2.1≤N
section
variable{K:List OpI}{N:Int}{obj:Rf}
theorem kidIds_mem{el r:Rf}: r∈gK K obj el↔∃x∈K,iR obj el x=true∧x.2=r:=by
 unfold gK;rw[sW];constructor
 ·rintro⟨x,hx,e⟩
  obtain⟨h1,h2⟩:=vT.1 hx
  exact⟨x,h1,h2,e⟩
 ·rintro⟨x,h1,h2,e⟩
  exact⟨x,vT.2 ⟨h1,h2⟩,e⟩
theorem iE{el:Rf}{x:OpI}: iR obj el x=true↔x.1.ins=true∧fQ x=obj∧elP x=el:=by
 unfold iR;simp[and_assoc]
theorem KTree.nodup(h:KTree K N)(el:Rf):(gK K obj el).Nodup:=h.nd.sublist (List.filter_sublist.map _)
theorem KTree.kids(h:KTree K N)(el:Rf):qB (eA K obj el)∧(∀q,q∈eA K obj el↔q∈gK K obj el)∧(eA K obj el).length=(gK K obj el).length:=by
 obtain⟨a,b,c⟩:=putD_fold (gK K obj el) [] List.Pairwise.nil (by rw[vR];exact h.nodup el)
 exact⟨a,fun q=>by unfold eA;rw[b q];simp,by unfold eA;rw[c];simp⟩
theorem kidIds_len(el:Rf):(gK K obj el).length≤K.length:=by
 unfold gK;rw[tF];exact wD _ _
theorem KTree.kid(h:KTree K N){el k:Rf}(hk:k∈eA K obj el):el.1<k.1∧k.1≤N∧1≤k.1∧∃x∈K,iR obj el x=true∧x.2=k:=by
 obtain⟨x,hx,hi,rfl⟩:=kidIds_mem.1 (((h.kids el).2.1 k).1 hk)
 obtain⟨h1,h2,h3⟩:=iE.1 hi
 exact⟨by rw[←h3];exact h.up x hx h1,h.top x hx,h.pos x hx,x,hx,hi,rfl⟩
theorem KTree.stable(h:KTree K N):∀(n m:Nat) (el:Rf),N-el.1<n→N-el.1<m→hY K obj n el=hY K obj m el
 |0,m,el,h1,_=>by
  have hk:eA K obj el=[]:=vW.2 fun k hk=>by have:=h.kid hk;omega
  cases m with
  |zero=>rfl
  |succ m=>simp[hY,hk]
 |n+1,0,el,_,h2=>by
  have hk:eA K obj el=[]:=vW.2 fun k hk=>by have:=h.kid hk;omega
  simp[hY,hk]
 |n+1,m+1,el,h1,h2=>by
  unfold hY;exact dC fun k hk=>by
   have:=h.kid hk
   rw[KTree.stable h n m k (by omega) (by omega)]
def jS(K:List OpI)(obj:Rf)(N:Int)(el:Rf):List Rf:=hY K obj ((N-el.1).toNat+1) el
theorem KTree.sub_eq(h:KTree K N){n:Nat}{el:Rf}(hn:N-el.1<n):hY K obj n el=jS K obj N el:=h.stable _ _ _ hn (by omega)
theorem KTree.sub(h:KTree K N)(el:Rf):jS K obj N el=(eA K obj el).flatMap fun k=>k::jS K obj N k:=by
 show hY K obj ((N-el.1).toNat+1) el=_;unfold hY;exact dC fun k hk=>by
  have:=h.kid hk
  rw[h.sub_eq (by omega)]
def qN(K:List OpI)(obj:Rf)(N:Int)(n:Rf):List Rf:=if n=(0,0) then jS K obj N n else n::jS K obj N n
theorem totE_root{n:Rf}(hr:n=((0,0):Rf)):qN K obj N n=jS K obj N n:=by unfold qN;rw[tA hr]
theorem mT{n:Rf}(hr:n≠((0,0):Rf)):qN K obj N n=n::jS K obj N n:=by unfold qN;rw[sT hr]
structure ElI(K:List OpI)(obj:Rf)(N:Int)(out stack:List Rf):Prop where
 eq:out++stack.reverse.flatMap (qN K obj N)=jS K obj N (0,0)
 nd:(out++stack).Nodup
 nr:((0,0):Rf)∉out
 par:∀y∈out++stack,y≠(0,0)→∃x∈K,x.2=y∧iR obj (elP x) x=true∧(elP x∈out∨elP x=(0,0)∧((0,0):Rf)∉stack)
theorem ElI.start:ElI K obj N [] [(0,0)] :=
 ⟨by simp[qN],by simp,by simp,fun y hy hn=>by simp at hy;exact(hn hy).elim⟩
theorem ElI.len{out stack:List Rf}(h:ElI K obj N out stack):out.length+stack.length≤K.length+1:=by
 have:=kR (m:=(0,0)::K.map Prod.snd) h.nd fun y hy=>by
  by_cases e:y=(0,0)
  ·rw[e];exact tM ..
  ·obtain⟨x,hx,rfl,-⟩:=h.par y hy e
   exact uO _ (vQ hx)
 simpa using this
theorem ElI.step(hK:KTree K N){out S T:List Rf}{n:Rf}(h:ElI K obj N out (S++[n]))(hT:T.reverse=eA K obj n):ElI K obj N (if n=(0,0) then out else out++[n]) (S++T):=by
 have hTm:∀t,t∈T↔t∈eA K obj n:=fun t=>by rw[←hT,uN]
 have hkid:∀t∈T,n.1<t.1∧t.1≤N∧1≤t.1∧∃x∈K,iR obj n x=true∧x.2=t:=fun t ht=>hK.kid ((hTm t).1 ht)
 have hT0:∀t∈T,t≠(0,0):=fun t ht e=>by have:=(hkid t ht).2.2.1;rw[e]at this;simp at this
 have hTn:T.Nodup:=by
  have h1:(eA K obj n).Nodup:=(hK.kids n).1.imp fun hx e=>by rw[e,dZ]at hx;cases hx
  rw[←hT]at h1;exact(List.reverse_perm T).nodup_iff.1 h1
 have hnS:n∉out∧n∉S∧(out++S).Nodup:=by
  have h1:=h.nd;rw[←sX,uM]at h1;obtain⟨a,-,c⟩:=h1
  exact⟨fun hm=>c n (tI _ hm) n (by simp) rfl,fun hm=>c n (tX _ hm) n (by simp) rfl,a⟩
 have huniq:∀ {x x':OpI},x∈K→x'∈K→x.2=x'.2→x=x':=fun a b c=>id_one hK.nd a b c
 have hfresh:∀t∈T,t∉out∧t∉S:=fun t ht=>by
  obtain⟨x',hx',hi',e'⟩:=(hkid t ht).2.2.2
  have key:t∉out++(S++[n])∨t=n:=by
   by_cases hm:t∈out++(S++[n])
   ·obtain⟨x,hx,e,hi,hp⟩:=h.par t hm (hT0 t ht)
    obtain rfl:=huniq hx hx' (e.trans e'.symm);have en:elP x=n:=(iE.1 hi').2.2;rw[en]at hp;rcases hp with hp|⟨hp,hq⟩
    ·exact(hnS.1 hp).elim
    ·exact(hq (by rw[←hp];simp)).elim
   ·exact .inl hm
  rcases key with h1|h1
  ·exact⟨fun hm=>h1 (tI _ hm),fun hm=>h1 (tX _ (tI _ hm))⟩
  ·have:=(hkid t ht).1
   rw[h1]at this;omega
 have hflat:(S++T).reverse.flatMap (qN K obj N)=jS K obj N n++S.reverse.flatMap (qN K obj N):=by
  rw[vP,uC,hT,hK.sub n];congr 1;exact dC fun k hk=>mT (hT0 k ((hTm k).2 hk))
 have hS0:n=(0,0)→((0,0):Rf)∉S:=fun e=>by rw[←e];exact hnS.2.1
 by_cases hr:n=(0,0)
 ·rw[tA hr];refine⟨?_,?_,h.nr,fun y hy hy0=>?_⟩
  ·rw[hflat,←h.eq,vP,List.reverse_cons,List.reverse_nil,vR,uC];simp[totE_root hr]
  ·rw[←sX,uM];exact⟨hnS.2.2,hTn,fun a ha b hb e=>by
    subst e;rcases sG.1 ha with ha|ha
    ·exact(hfresh a hb).1 ha
    ·exact(hfresh a hb).2 ha⟩
  ·have hns:((0,0):Rf)∉S++T:=fun hm=>by
    rcases sG.1 hm with hm|hm
    ·exact hS0 hr hm
    ·exact hT0 _ hm rfl
   rcases sG.1 hy with hy1|hy1
   ·obtain⟨x,hx,e,hi,hp⟩:=h.par y (tI _ hy1) hy0
    exact⟨x,hx,e,hi,hp.imp id fun hp=>⟨hp.1,hns⟩⟩
   ·rcases sG.1 hy1 with hy2|hy2
    ·obtain⟨x,hx,e,hi,hp⟩:=h.par y (tX _ (tI _ hy2)) hy0
     exact⟨x,hx,e,hi,hp.imp id fun hp=>⟨hp.1,hns⟩⟩
    ·obtain⟨x,hx,hi,e⟩:=(hkid y hy2).2.2.2
     have en:elP x=n:=(iE.1 hi).2.2;exact⟨x,hx,e,by rw[en];exact hi,.inr ⟨en.trans hr,hns⟩⟩
 ·rw[sT hr];refine⟨?_,?_,?_,fun y hy hy0=>?_⟩
  ·rw[hflat,←h.eq,vP,List.reverse_cons,List.reverse_nil,vR,uC];simp[mT hr]
  ·have h1:((out++[n])++S).Nodup:=by
    have h2:=h.nd;rw[←sX]at h2;refine(List.Perm.nodup_iff ?_).1 h2
    rw[sX,sX];exact List.Perm.append_left _ List.perm_append_comm
   rw[←sX,uM];refine⟨h1,hTn,fun a ha b hb e=>?_⟩
   subst e;rcases sG.1 ha with ha|ha
   ·rcases sG.1 ha with ha|ha
    ·exact(hfresh a hb).1 ha
    ·have:=(hkid a hb).1
     rw[sP.1 ha]at this;omega
   ·exact(hfresh a hb).2 ha
  ·intro hm;rcases sG.1 hm with hm|hm
   ·exact h.nr hm
   ·exact hr (sP.1 hm).symm
  ·have hold:∀y∈out++(S++[n]),y≠(0,0)→∃x∈K,x.2=y∧iR obj (elP x) x=true∧(elP x∈out++[n]∨elP x=(0,0)∧((0,0):Rf)∉S++T):=fun y hy hy0=>by
    obtain⟨x,hx,e,hi,hp⟩:=h.par y hy hy0
    refine⟨x,hx,e,hi,hp.imp (tI _) fun hp=>⟨hp.1,fun hm=>?_⟩⟩
    rcases sG.1 hm with hm|hm
    ·exact hp.2 (tI _ hm)
    ·exact hT0 _ hm rfl
   rcases sG.1 hy with hy1|hy1
   ·rcases sG.1 hy1 with hy2|hy2
    ·exact hold y (tI _ hy2) hy0
    ·exact hold y (tX _ (tX _ hy2)) hy0
   ·rcases sG.1 hy1 with hy2|hy2
    ·exact hold y (tX _ (tI _ hy2)) hy0
    ·obtain⟨x,hx,hi,e⟩:=(hkid y hy2).2.2.2
     have en:elP x=n:=(iE.1 hi).2.2;exact⟨x,hx,e,by rw[en];exact hi,.inl (by rw[en];simp)⟩
theorem ElI.done{out:List Rf}(h:ElI K obj N out []):out=jS K obj N (0,0):=by have:=h.eq;simpa using this
theorem ElI.ends(hK:KTree K N):∀(m:Nat) {out stack:List Rf},ElI K obj N out stack→(stack.reverse.flatMap (qN K obj N)).length+(if (0,0)∈stack then 1 else 0)≤m→ElI K obj N (jS K obj N (0,0)) []
 |m,out,stack,h,hm=>by
  rcases wE stack with rfl|⟨S,n,rfl⟩
  ·rw[←h.done];exact h
  ·rw[wF]at h hm;have hs:=h.step hK (T:=(eA K obj n).reverse) (by simp);have hflat:(S++(eA K obj n).reverse).reverse.flatMap (qN K obj N)=jS K obj N n++S.reverse.flatMap (qN K obj N):=by
    rw[vP,uC,List.reverse_reverse,hK.sub n];congr 1;exact dC fun k hk=>mT (fun e=>by have:=(hK.kid hk).2.2.1;rw[e]at this;simp at this)
   have h0:(0,0)∈S++(eA K obj n).reverse→((0,0):Rf)∈S:=fun hm=>by
    rcases sG.1 hm with hm|hm
    ·exact hm
    ·have:=(hK.kid (uN.1 hm)).2.2.1;simp at this
   rw[vP,List.reverse_cons,List.reverse_nil,vR,uC]at hm;simp only[tQ,List.flatMap_nil,uW,sF]at hm;have hn1:n∉S:=by
    have h1:=h.nd;rw[←sX,uM]at h1;exact fun hm=>h1.2.2 n (tX _ hm) n (by simp) rfl
   cases m with
   |zero =>
    exfalso;by_cases hr:n=(0,0)
    ·rw[tA (by rw[hr];simp)]at hm;omega
    ·rw[mT hr]at hm;simp at hm
   |succ m =>
    refine ElI.ends hK m hs ?_;rw[hflat,sF];by_cases hr:n=(0,0)
    ·rw[tA (by rw[hr];simp),totE_root hr]at hm;rw[sT (fun hx=>hn1 (by rw[hr];exact h0 hx))];omega
    ·rw[mT hr,sV]at hm;by_cases hx:((0,0):Rf)∈S
     ·rw[tA (tI _ hx)]at hm;split<;>omega
     ·rw[sT (fun hy=>hx (h0 hy))];omega
theorem KTree.all(h:KTree K N):(jS K obj N (0,0)).Nodup∧(jS K obj N (0,0)).length≤K.length+1∧∀y∈jS K obj N (0,0),∃x∈K,x.2=y∧x.1.ins=true∧fQ x=obj:=by
 have hd:=ElI.ends h _ (ElI.start (K:=K) (obj:=obj) (N:=N)) (sB _);have h1:=hd.len;refine⟨by simpa using hd.nd,by simpa using h1,fun y hy=>?_⟩
 have hy0:y≠(0,0):=fun e=>hd.nr (e▸hy)
 obtain⟨x,hx,e,hi,-⟩:=hd.par y (by simpa using hy) hy0
 exact⟨x,hx,e,(iE.1 hi).1,(iE.1 hi).2.1⟩
end
end
section
theorem nJ:(Tryz.prog.info? 115).map (·.size)=some 15:=by kernel_rfl
theorem hU:(Tryz.prog.info? 48).map (fun i=>(i.zero,i.size,i.bytes))=some (some (.agg #[.int .i64 0,.int .i64 0]),2,16):=by kernel_rfl
theorem pP{K:List OpI}{obj el:Rf}{i:Nat}{x:OpI}(h:K[i]?=some x):gK (K.take (i+1)) obj el=gK (K.take i) obj el++if iR obj el x then [x.2] else []:=by
 unfold gK;rw[sQ,h,wQ,tN];cases hk:iR obj el x<;>simp[hk]
def dP(K:List OpI)(obj el:Rf)(i:Nat):List Rf:=(gK (K.take i) obj el).foldl kM []
theorem kidsG_yes{K:List OpI}{obj el:Rf}{i:Nat}{x:OpI}(h:K[i]?=some x)(hk:iR obj el x=true):dP K obj el (i+1)=kM (dP K obj el i) x.2:=by
 unfold dP;rw[pP h,tA hk,wJ];rfl
theorem kidsG_no{K:List OpI}{obj el:Rf}{i:Nat}{x:OpI}(h:K[i]?=some x)(hk:iR obj el x=false):dP K obj el (i+1)=dP K obj el i:=by
 unfold dP;rw[pP h,hk];simp
theorem kL:∀(l out:List Rf),(l.foldl kM out).length=out.length+l.length
 | [],out=>by simp
 |r::l,out=>by rw[vJ,kL l,putD_len,sV];omega
theorem kidsG_len(K:List OpI)(obj el:Rf)(i:Nat):(dP K obj el i).length≤i:=by
 unfold dP;rw[kL];have:=kidIds_len (K:=K.take i) (obj:=obj) el
 rw[tD]at this;simp only[vU];omega
theorem putD_at{l:List Rf}{r:Rf}{k:Nat}(hk:k≤l.length)(h1:∀x∈l.take k,aM r x=true)(h2:∀x,l[k]?=some x→aM r x=false):kM l r=l.take k++r::l.drop k:=by
 unfold kM;obtain⟨e1,e2⟩:=fL (fun x=>aM r x) l k hk h1 h2
 rw[e1,e2]
theorem kN{w:World}{D:Nat→Prop}{A:Option Addr}{n:Nat}{K:List OpI}(h:aC D w 15 A n (bS K))(hn:0<n){i:Nat}{x:OpI}(hx:K[i]?=some x):
 ∃b o,A=some ⟨b,o,none⟩∧D b∧∀V:World,V.heap[b]?=w.heap[b]?→V.rangeAt b (o+i*15) [.int .i64 x.1.k,.int .i64 x.1.on,.int .i64 x.1.oa,.string x.1.key,.int .i64 x.1.en,.int .i64 x.1.ea,.bool x.1.ins,.int .i64 x.1.vk,.int .i64 x.1.vn,.string x.1.vt,.int .i64 x.1.va,.int .i64 x.1.vb,.slice x.1.A x.1.l.length x.1.c,.int .i64 x.2.1,.int .i64 x.2.2]:=by
 obtain⟨b,o,rfl,hb,hc⟩:=h.at_ hn (by omega)
 refine⟨b,o,rfl,hb,fun V hv j u hj=>?_⟩
 have hj15:j<15:=(sE.1 hj).1;have h1:=kO hx j hj15;have h2:(qC x)[j]?=some u:=hj;rw[h2]at h1;have h3:=hc _ _ h1;rw[←tY]at h3;exact(sK hv).trans h3
def pD(A:Option Addr)(c nK:Nat)(o1 o2:Int)(k:Rf)(S:List Rf)(w:World):Prop :=
 Calls Tryz.prog 101 #[.agg #[.slice A nK c],.agg #[.int .i64 o1,.int .i64 o2],.agg #[.int .i64 k.1,.int .i64 k.2]] w fun e w'=>∃v,e=.returned v∧w'.ownsRow w.heap.size 48 2 v S.length (aF S)∧Below w.heap.size w w'
theorem beh_step(K:List OpI)(o1 o2 e1 e2:Int)(A:Option Addr)(c:Nat)(f:Rf→List Rf)(w:World)(hr:aC (fun k=>k<w.heap.size) w 15 A K.length (bS K))(hl:K.length≤100000)
 (hIH:∀k∈eA K (o1,o2) (e1,e2),∀V,Below w.heap.size w V→pD A c K.length o1 o2 k (f k) V) (hM:((eA K (o1,o2) (e1,e2)).flatMap fun k=>k::f k).length≤1000000) :
 pD A c K.length o1 o2 (e1,e2) ((eA K (o1,o2) (e1,e2)).flatMap fun k=>k::f k) w:=by
 unfold pD;obtain⟨nK,hnK⟩:∃n,K.length=n:=⟨_,rfl⟩
 have HNK:=Hi hnK;rw[hnK]at hr hl hIH ⊢;have HIH:=Hi hIH;have HMM:=Hi hM;have HRK:=Hi hr;have hb1:Below w.heap.size w (w.alloc (.cells #[.slice A nK c] 58)):=(sA _ w).alloc (sB _) _;have h1:=Blk.new w 58 #[.slice A nK c];have hb2:Below w.heap.size w ((w.alloc (.cells #[.slice A nK c] 58)).alloc (.cells #[.int .i64 o1,.int .i64 o2] 48)):=hb1.alloc hb1.size _;have h2:=Blk.new (w.alloc (.cells #[.slice A nK c] 58)) 48 #[.int .i64 o1,.int .i64 o2];have hb3:Below w.heap.size w (((w.alloc (.cells #[.slice A nK c] 58)).alloc (.cells #[.int .i64 o1,.int .i64 o2] 48)).alloc (.cells #[.int .i64 e1,.int .i64 e2] 48)):=hb2.alloc hb2.size _;have h3:=Blk.new ((w.alloc (.cells #[.slice A nK c] 58)).alloc (.cells #[.int .i64 o1,.int .i64 o2] 48)) 48 #[.int .i64 e1,.int .i64 e2];have H1:=Hi ((h1.keep (sM _ (.cells #[.int .i64 o1,.int .i64 o2] 48) _ h1.lt)).keep (sM _ (.cells #[.int .i64 e1,.int .i64 e2] 48) _ (by rw[tB];have:=h1.lt;omega)));have H2:=Hi (h2.keep (sM _ (.cells #[.int .i64 e1,.int .i64 e2] 48) _ h2.lt));have H3:=Hi h3;have HB3:=Hi hb3;rw[tB]at H2;rw[tB,tB]at H3;clear hr hIH hM hnK hb1 hb2 hb3 h1 h2 h3;go_enter Tryz.func101,Tryz.ntmps101;go_upto_region 3 with fail
 generalize ((w.alloc (.cells #[.slice A nK c] 58)).alloc (.cells #[.int .i64 o1,.int .i64 o2] 48)).alloc (.cells #[.int .i64 e1,.int .i64 e2] 48)=w3 at H1 H2 H3 HB3 ⊢;obtain⟨B,hB⟩:∃B,w.heap.size=B:=⟨_,rfl⟩
 have HBB:=Hi hB;rw[hB]at H1 H2 H3 HB3 ⊢;clear hB;go_loopw [7,8,9,10,11] (fun s7 s8 _ _ _ wr=>∃(i:Nat) (v7:Value),v7=s7∧s8=.int .i64 i∧i≤nK∧Hid (wr.ownsRow w3.heap.size 48 2 v7 (dP K (o1,o2) (e1,e2) i).length (aF (dP K (o1,o2) (e1,e2) i)))∧Hid (Below w3.heap.size w3 wr)) (fun _ s8 _ _ _ _=>nK-(intOf s8).toNat)
 case atStart=>exact⟨0,_,rfl,rfl,by omega,bB _ _ _ _,sA _ _⟩
 case round =>
  obtain⟨i,v7,rfl,rfl,hi,HO,HW⟩:=hrel
  have q3:=cZ (H1.o.keep (HW.o.block _ H1.o.lt)) 0 rfl;by_cases hlt:i<nK
  ·obtain⟨x,hx⟩:∃x,K[i]?=some x:=⟨_,sC (by rw[HNK.o];exact hlt)⟩
   obtain⟨b,o,rfl,hbl,hrg⟩:=kN HRK.o (by omega) hx
   have hbw:b<w3.heap.size:=sD hbl HB3.o.size;have HRG:Hid (wr.rangeAt b (o+i*15) [.int .i64 x.1.k,.int .i64 x.1.on,.int .i64 x.1.oa,.string x.1.key,.int .i64 x.1.en,.int .i64 x.1.ea,.bool x.1.ins,.int .i64 x.1.vk,.int .i64 x.1.vn,.string x.1.vt,.int .i64 x.1.va,.int .i64 x.1.vb,.slice x.1.A x.1.l.length x.1.c,.int .i64 x.2.1,.int .i64 x.2.2]):=hrg wr ((HW.o.block _ hbw).trans (HB3.o.block _ (by rw[←HBB.o];exact hbl)));have HXM:=Hi hx;have HLT:=Hi hlt;have hkl:(dP K (o1,o2) (e1,e2) i).length≤100000:=by have:=kidsG_len K (o1,o2) (e1,e2) i;omega
   obtain⟨l,hkg⟩:∃l,dP K (o1,o2) (e1,e2) i=l:=⟨_,rfl⟩
   have HKG:=Hi hkg;rw[hkg]at HO hkl;clear hx hbl hrg hbw hkg;go_upto_block 1 with fail
   go_cut [7] (fun s7 wc=>∃v7,v7=s7∧Hid (wc.ownsRow w3.heap.size 48 2 v7 (dP K (o1,o2) (e1,e2) (i+1)).length (aF (dP K (o1,o2) (e1,e2) (i+1))))∧Hid (Below w3.heap.size w3 wc))
   case first =>
    have HX:=Hi (Blk.new wr 115 #[.int .i64 x.1.k,.int .i64 x.1.on,.int .i64 x.1.oa,.string x.1.key,.int .i64 x.1.en,.int .i64 x.1.ea,.bool x.1.ins,.int .i64 x.1.vk,.int .i64 x.1.vn,.string x.1.vt,.int .i64 x.1.va,.int .i64 x.1.vb,.slice x.1.A x.1.l.length x.1.c,.int .i64 x.2.1,.int .i64 x.2.2]);have hba:Below wr.heap.size wr (wr.alloc (.cells #[.int .i64 x.1.k,.int .i64 x.1.on,.int .i64 x.1.oa,.string x.1.key,.int .i64 x.1.en,.int .i64 x.1.ea,.bool x.1.ins,.int .i64 x.1.vk,.int .i64 x.1.vn,.string x.1.vt,.int .i64 x.1.va,.int .i64 x.1.vb,.slice x.1.A x.1.l.length x.1.c,.int .i64 x.2.1,.int .i64 x.2.2] 115)):=(sA _ wr).alloc (sB _) _;have HO2:=Hi (aO HO.o hba);have HW2:Hid (Below w3.heap.size w3 (wr.alloc (.cells #[.int .i64 x.1.k,.int .i64 x.1.on,.int .i64 x.1.oa,.string x.1.key,.int .i64 x.1.en,.int .i64 x.1.ea,.bool x.1.ins,.int .i64 x.1.vk,.int .i64 x.1.vn,.string x.1.vt,.int .i64 x.1.va,.int .i64 x.1.vb,.slice x.1.A x.1.l.length x.1.c,.int .i64 x.2.1,.int .i64 x.2.2] 115))):=HW.o.alloc HW.o.size _;clear HO HW hba;go_upto_region 6 with(refine wpList_load_mid rfl 115 (.tmp 24) rfl b (o+i*15) rfl [.int .i64 x.1.k,.int .i64 x.1.on,.int .i64 x.1.oa,.string x.1.key,.int .i64 x.1.en,.int .i64 x.1.ea,.bool x.1.ins,.int .i64 x.1.vk,.int .i64 x.1.vn,.string x.1.vt,.int .i64 x.1.va,.int .i64 x.1.vb,.slice x.1.A x.1.l.length x.1.c,.int .i64 x.2.1,.int .i64 x.2.2] _ HRG.o Tryz.underlying115 rfl nJ ?_)
    generalize wr.alloc (.cells #[.int .i64 x.1.k,.int .i64 x.1.on,.int .i64 x.1.oa,.string x.1.key,.int .i64 x.1.en,.int .i64 x.1.ea,.bool x.1.ins,.int .i64 x.1.vk,.int .i64 x.1.vn,.string x.1.vt,.int .i64 x.1.va,.int .i64 x.1.vb,.slice x.1.A x.1.l.length x.1.c,.int .i64 x.2.1,.int .i64 x.2.2] 115)=wa at HX HO2 HW2 ⊢;generalize wr.heap.size=qo at HX ⊢;obtain⟨p2,p3⟩:=ce2 (H2.o.keep (HW2.o.block _ H2.o.lt))
    obtain⟨p4,p5⟩:=ce2 (H3.o.keep (HW2.o.block _ H3.o.lt))
    have x1:=cZ HX.o 1 rfl;have x2:=cZ HX.o 2 rfl;have x4:=cZ HX.o 4 rfl;have x5:=cZ HX.o 5 rfl;have x6:=cZ HX.o 6 rfl;have E1:=fun w=>kC x.1.on x.1.oa o1 o2 w
    have E2:=fun w=>kC x.1.en x.1.ea e1 e2 w
    have hki:iR (o1,o2) (e1,e2) x=(x.1.ins&&(x.1.on == o1&&x.1.oa == o2)&&(x.1.en == e1&&x.1.ea == e2)):=by
     unfold iR fQ elP;rw[gR,gR]
    obtain⟨ib,hib⟩:∃b,x.1.ins=b:=⟨_,rfl⟩
    obtain⟨b1,hb1⟩:∃b,(x.1.on == o1&&x.1.oa == o2)=b:=⟨_,rfl⟩
    obtain⟨b2,hb2⟩:∃b,(x.1.en == e1&&x.1.ea == e2)=b:=⟨_,rfl⟩
    rw[hib]at x6;rw[hb1]at E1;rw[hb2]at E2;rw[hib,hb1,hb2]at hki;have HKI:=Hi hki;clear hki hib hb1 hb2;by_cases hall:(ib&&b1&&b2)=true
    ·have HYES:=Hi (kidsG_yes HXM.o (HKI.o.trans hall));rw[HKG.o]at HYES;simp only[tJ]at hall;obtain⟨⟨rfl,rfl⟩,rfl⟩:=hall
     go_upto_region 7 with fail
     clear p2 p3 p4 p5 x1 x2 x4 x5 x6 E1 E2;obtain⟨m,hm⟩:∃m,l.length=m:=⟨_,rfl⟩
     have HN:=Hi hm;rcases HO2.o.2 with⟨hv7,h0⟩|⟨g,cap,cur,hv7,-,-,hcap,-,-,-⟩
     ·have hl0:l=[]:=uK.1 h0;subst hl0 hv7;go_upto_region 8 with fail
      go_loopw [10] (fun s10 wr=>s10=.int .i64 0∧Hid (Below wa.heap.size wa wr)) (fun _ _=>0)
      case atStart=>exact⟨rfl,sA _ _⟩
      case round =>
       obtain⟨rfl,HI⟩:=hrel
       go_wp2_with fail
       go_quiet (fail)
       change Exit.then _ _ _ _ (wr.drewN nq);have HIX:Hid (Below wa.heap.size wa (wr.drewN nq)):=aH HI.o nq;generalize wr.drewN nq=w5 at HIX ⊢;have HBX:=Hi (HX.o.keep (HIX.o.block _ HX.o.lt));have HWX:Hid (Below w3.heap.size w3 w5):=HW2.o.trans (HIX.o.mono HW2.o.size);have HRW:Hid (aC (fun x=>x<w5.heap.size) w5 2 none 0 (aF [])):=aC.none_;have HPD:Hid (dP K (o1,o2) (e1,e2) (i+1)=([]:List Rf).take 0++x.2::([]:List Rf).drop 0):=by show _=_;rw[HYES.o];rfl
       have HN0:Hid (([]:List Rf).length=0):=rfl;have hk:0≤0:=sB _;have hnc:0≤0:=sB _;clear HI HIX HX HO2 HW2 HN hm h0;have HN:=HN0;clear HN0;obtain⟨i0,hi,hz0,hz1,hz2⟩:=info_parts hU
       have HB4:Hid (Below w5.heap.size w5 w5):=sA _ _;have HO4:Hid (w5.ownsRow w5.heap.size 48 2 (.slice none 0 0) 0 (aF [])):=bB _ _ _ _;have hQ4:=HBX.o;have z13:=cZ hQ4 13 rfl;have z14:=cZ hQ4 14 rfl;clear hQ4;go_wp2_with (at_builtin;refine aX 51 48 (.agg #[.int .i64 0,.int .i64 0]) 2 16 Tryz.underlying51 hU rfl (by omega) rfl (.tmp 63) (.tmp 66) rfl (w5.heap.size) (.slice none 0 0) (0) (aF []) rfl (HO4.o.alloc _) (w5.heap.size) 1 ([.int .i64 x.2.1,.int .i64 x.2.2]) rfl ?d1 ?d2 ?d3 ?d4 ?d5 ?d6 ?_)
       try case d1=>rfl
       try case d2=>intro j u hj;exact dN _ _ _ hj
       try case d3=>first|exact aY [x.2]|exact⟨rfl,rfl⟩|rfl
       try case d4=>omega
       try case d5=>omega
       try case d6=>first|(have:=HB4.o.size;simp;omega)|(simp;done)
       intro v1 w1 hown1 hg1 hat1;have hb1:Below (w5.heap.size) w5 w1:=(HB4.o.alloc HB4.o.size _).grown hg1 (by have:=HB4.o.size;first|(simp;omega)|(simp;done)) (fun g hg=>(aD (HO4.o) hg).1);clear hat1 hg1;clear z13 z14;have HO5:=Hi hown1;have HB5:=Hi hb1;have HC2:Hid (aC (fun x=>x<w1.heap.size) w1 2 none (0-0) (aF (([]:List Rf).drop 0))):=by
        have:=(aA HRW.o HB5.o).cut (cap:=0) hk hnc
        rw[iB]at this;have e0:(if 0=0 then (none:Option Addr) else none.map (fun x:Addr=>x.add (0*2)))=none:=by split<;>rfl
        rw[e0]at this;exact this
       have HC:=HC2;clear hown1 hb1 HO4 HB4 HRW HBX;go_wp2_with (at_builtin;refine aG _ rfl (.tmp 68) (.tmp 71) _ rfl (w5.heap.size) 48 i0 _ 2 16 Tryz.underlying51 hi hz0 hz1 hz2 rfl (by omega) (v1) (0+1) (aF (([]:List Rf).take 0)++[.int .i64 x.2.1,.int .i64 x.2.2]) rfl (HO5.o) _ (_) (_) (_) (aF (([]:List Rf).drop 0)) rfl ((by simpa using HC2.o)) (aY _) ?c1 ?c2 ?c3 ?_)
       try case c1=>simp only[maxLen];omega
       try case c2=>omega
       try case c3=>exact HB5.o.size
       intro v6 w6 ho6 hg6 _;have HB6:Hid (Below w5.heap.size w5 w6):=HB5.o.grown hg6 HB5.o.size (fun g hg=>(aD HO5.o hg).1);have HO6:Hid (w6.ownsRow w5.heap.size 48 2 v6 (([]:List Rf).take 0++x.2::([]:List Rf).drop 0).length (aF (([]:List Rf).take 0++x.2::([]:List Rf).drop 0))):=by
        have e1:(([]:List Rf).take 0++x.2::([]:List Rf).drop 0).length=0+1+(0-0):=by simp only[sF,tD,sV,uG];have:=HN.o;omega
        have e2:aF (([]:List Rf).take 0++x.2::([]:List Rf).drop 0)=aF (([]:List Rf).take 0)++[.int .i64 x.2.1,.int .i64 x.2.2]++aF (([]:List Rf).drop 0):=by rw[bH,sX];rfl
        show World.ownsRow _ _ _ _ _ _ _;rw[e1,e2];simpa using ho6
       clear ho6 hg6 HC HO5 HB5;have HOF:Hid (w6.ownsRow w3.heap.size 48 2 v6 (dP K (o1,o2) (e1,e2) (i+1)).length (aF (dP K (o1,o2) (e1,e2) (i+1)))):=by
        show World.ownsRow _ _ _ _ _ _ _;rw[HPD.o];exact bG HO6.o fun g hg=>sY HWX.o.size (aD HO6.o hg).1
       have HWF:Hid (Below w3.heap.size w3 w6):=HWX.o.trans (HB6.o.mono HWX.o.size);clear HO6 HB6 HPD HWX;go_wp2_with fail
       go_meet
       case rel=>exact⟨v6,rfl,HOF,HWF⟩
     ·subst hv7;rw[hm]at HO2 hcap ⊢;have HR7:Hid (aC (fun k=>k<wa.heap.size) wa 2 (some ⟨g,0,none⟩) m (aF l)):=by
       obtain⟨A7,c7,hv,-,-,hr7⟩:=aC.of_own HO2.o
       simp only[tS,true_and]at hv;rw[hv.1];exact hr7.more fun k hk=>(aD HO2.o hk).2
      have hm5:m≤100000:=by rw[←hm];exact hkl
      clear HO2 hkl hm;go_upto_region 8 with fail
      go_loopw [10] (fun s10 wr=>∃k:Nat,s10=.int .i64 k∧k≤m∧Hid (∀y∈l.take k,aM x.2 y=true)∧Hid (Below wa.heap.size wa wr)) (fun s10 _=>m-(intOf s10).toNat)
      case atStart=>exact⟨0,rfl,by omega,by show ∀y∈_,_;simp,sA _ _⟩
      case round =>
       obtain⟨k,rfl,hk,HI0,HI⟩:=hrel
       by_cases hlk:k<m
       ·obtain⟨y,hy⟩:∃y,l[k]?=some y:=⟨_,sC (by rw[HN.o];exact hlk)⟩
        obtain⟨b1,oo1,hA,-,hc1⟩:=(aA HR7.o HI.o).at_ (by omega) (by omega)
        simp only[tW,Addr.mk.injEq,and_true]at hA;obtain⟨rfl,rfl⟩:=hA
        have y1:wr.cell? ⟨g,k*2,none⟩=some (.int .i64 y.1):=by have:=hc1 _ _ (aN hy).1;rwa [uX]at this
        have y2:wr.cell? ⟨g,k*2+1,none⟩=some (.int .i64 y.2):=by have:=hc1 _ _ (aN hy).2;rwa [uX]at this
        have hX2:=HX.o.keep (HI.o.block _ HX.o.lt);have x13:=cZ hX2 13 rfl;have x14:=cZ hX2 14 rfl;have g1:decide ((k:Int)<m)=true:=sH (by omega);have HY:=Hi hy;have HLK:=Hi hlk;have C3:=kK x.2.1 x.2.2 y.1 y.2 wr.drew;rw[show fC x.2.1 x.2.2 y.1 y.2=aM x.2 y from rfl]at C3;clear hc1 hy hX2;go_wp2_with fail
        refine wp_region_still_tail 11 (by kernel_rfl) (by kernel_rfl) ?_;simp only[tE,tO,tG,tT];repeat (first|(refine aQ rfl (fun K hK=>?_);go_simp;refine hK _ ?_;clear hK K)|(refine wpStill_skip rfl ?_;go_frame))
        refine wpStill_nil ?_;change wpList _ _ _ _ _ wr.drew;have HI2:Hid (Below wa.heap.size wa wr.drew):=HI.o.drew;generalize wr.drew=w4 at HI2 C3 ⊢;clear y1 y2 x13 x14 HI;go_wp2_with fail
        go_at_call 61;refine C3.mono ?_;rintro e w5 ⟨rfl,hb⟩;have HI3:Hid (Below wa.heap.size wa w5):=HI2.o.trans (hb.mono HI2.o.size);clear hb HI2 C3;cases ha:aM x.2 y with
        |true =>
         have HIN:Hid (∀z∈l.take (k+1),aM x.2 z=true):=by
          intro z hz;rw[sQ,HY.o]at hz;rcases sG.1 hz with hz|hz
          ·exact HI0.o z hz
          ·simp at hz;rw[hz];exact ha
         clear ha;go_wp2_with fail
         go_roundw
         case rel=>exact⟨k+1,by go_num,by have:=HLK.o;omega,HIN,HI3⟩
         case measure=>have:=HLK.o;simp[intOf];omega
        |false =>
         have HPD:Hid (dP K (o1,o2) (e1,e2) (i+1)=l.take k++x.2::l.drop k):=by
          show _=_;rw[HYES.o];exact putD_at (by rw[HN.o];exact hk) HI0.o (fun z hz=>by rw[HY.o]at hz;cases hz;exact ha)
         have HBX:=Hi (HX.o.keep (HI3.o.block _ HX.o.lt));have HWX:Hid (Below w3.heap.size w3 w5):=HW2.o.trans (HI3.o.mono HW2.o.size);have HRW:=Hi (aA HR7.o HI3.o);have hnc:=hcap;clear ha HI3 HY HX HW2 HR7 HI0 HYES;obtain⟨i0,hi,hz0,hz1,hz2⟩:=info_parts hU
         have HT:Hid (aC (fun x=>x<w5.heap.size) w5 2 (some ⟨g,0,none⟩) k (aF (l.take k))):=by have:=HRW.o.take hk;rwa [jF]at this
         go_wp2_with (at_builtin;refine aG _ rfl (.tmp 58) (.tmp 61) _ rfl (w5.heap.size) 48 i0 _ 2 16 Tryz.underlying51 hi hz0 hz1 hz2 rfl (by omega) (.slice none 0 0) (0) (aF []) rfl (bB _ _ _ _) _ (some ⟨g,0,none⟩) (k) (cap) (aF (l.take k)) rfl (HT.o) (aY _) ?c1 ?c2 ?c3 ?_)
         try case c1=>simp only[maxLen];omega
         try case c2=>omega
         try case c3=>exact sB _
         intro v4 w4 ho4 hg4 _;have HB4:Hid (Below w5.heap.size w5 w4):=(sA _ w5).grown hg4 (sB _) (fun g e=>by cases e);replace ho4:w4.ownsRow w5.heap.size 48 2 v4 k (aF (l.take k)):=by simpa[aF] using ho4
         have HO4:=Hi ho4;have hQ4:=HBX.o.keep (HB4.o.block _ HBX.o.lt);have z13:=cZ hQ4 13 rfl;have z14:=cZ hQ4 14 rfl;clear ho4 hg4 hQ4;go_wp2_with (at_builtin;refine aX 51 48 (.agg #[.int .i64 0,.int .i64 0]) 2 16 Tryz.underlying51 hU rfl (by omega) rfl (.tmp 63) (.tmp 66) rfl (w5.heap.size) (v4) (k) (aF (l.take k)) rfl (HO4.o.alloc _) (w4.heap.size) 1 ([.int .i64 x.2.1,.int .i64 x.2.2]) rfl ?d1 ?d2 ?d3 ?d4 ?d5 ?d6 ?_)
         try case d1=>rfl
         try case d2=>intro j u hj;exact dN _ _ _ hj
         try case d3=>first|exact aY [x.2]|exact⟨rfl,rfl⟩|rfl
         try case d4=>omega
         try case d5=>omega
         try case d6=>first|(have:=HB4.o.size;simp;omega)|(simp;done)
         intro v1 w1 hown1 hg1 hat1;have hb1:Below (w5.heap.size) w5 w1:=(HB4.o.alloc HB4.o.size _).grown hg1 (by have:=HB4.o.size;first|(simp;omega)|(simp;done)) (fun g hg=>(aD (HO4.o) hg).1);clear hat1 hg1;clear z13 z14;have HO5:=Hi hown1;have HB5:=Hi hb1;have HC:Hid (aC (fun x=>x<w1.heap.size) w1 2 (if cap=k then some ⟨g,0,none⟩ else Option.map (fun x:Addr=>x.add (k*2)) (some ⟨g,0,none⟩)) (m-k) (aF (l.drop k))):=by
          have:=(aA HRW.o HB5.o).cut (cap:=cap) hk hnc
          rwa [iB]at this
         clear hown1 hb1 HO4 HB4 HRW HT HBX;by_cases hck:cap=k
         ·rw[tA hck]at HC;go_wp2_with (at_builtin;refine aG _ rfl (.tmp 68) (.tmp 71) _ rfl (w5.heap.size) 48 i0 _ 2 16 Tryz.underlying51 hi hz0 hz1 hz2 rfl (by omega) (v1) (k+1) (aF (l.take k)++[.int .i64 x.2.1,.int .i64 x.2.2]) rfl (HO5.o) _ (_) (_) (_) (aF (l.drop k)) rfl ((by simpa using HC.o)) (aY _) ?c1 ?c2 ?c3 ?_)
          try case c1=>simp only[maxLen];omega
          try case c2=>omega
          try case c3=>exact HB5.o.size
          intro v6 w6 ho6 hg6 _;have HB6:Hid (Below w5.heap.size w5 w6):=HB5.o.grown hg6 HB5.o.size (fun g hg=>(aD HO5.o hg).1);have HO6:Hid (w6.ownsRow w5.heap.size 48 2 v6 (l.take k++x.2::l.drop k).length (aF (l.take k++x.2::l.drop k))):=by
           have e1:(l.take k++x.2::l.drop k).length=k+1+(m-k):=by simp only[sF,tD,sV,uG];have:=HN.o;omega
           have e2:aF (l.take k++x.2::l.drop k)=aF (l.take k)++[.int .i64 x.2.1,.int .i64 x.2.2]++aF (l.drop k):=by rw[bH,sX];rfl
           show World.ownsRow _ _ _ _ _ _ _;rw[e1,e2];simpa using ho6
          clear ho6 hg6 HC HO5 HB5;have HOF:Hid (w6.ownsRow w3.heap.size 48 2 v6 (dP K (o1,o2) (e1,e2) (i+1)).length (aF (dP K (o1,o2) (e1,e2) (i+1)))):=by
           show World.ownsRow _ _ _ _ _ _ _;rw[HPD.o];exact bG HO6.o fun g hg=>sY HWX.o.size (aD HO6.o hg).1
          have HWF:Hid (Below w3.heap.size w3 w6):=HWX.o.trans (HB6.o.mono HWX.o.size);clear HO6 HB6 HPD HWX;go_wp2_with fail
          go_meet
          case rel=>exact⟨v6,rfl,HOF,HWF⟩
         ·rw[sT hck]at HC;have HC2:Hid (aC (fun x=>x<w1.heap.size) w1 2 (some ⟨g,k*2,none⟩) (m-k) (aF (l.drop k))):=by have:=HC.o;rw[vC,addr0]at this;exact this
          go_wp2_with (at_builtin;refine aG _ rfl (.tmp 68) (.tmp 71) _ rfl (w5.heap.size) 48 i0 _ 2 16 Tryz.underlying51 hi hz0 hz1 hz2 rfl (by omega) (v1) (k+1) (aF (l.take k)++[.int .i64 x.2.1,.int .i64 x.2.2]) rfl (HO5.o) _ (_) (_) (_) (aF (l.drop k)) rfl ((by simpa using HC2.o)) (aY _) ?c1 ?c2 ?c3 ?_)
          try case c1=>simp only[maxLen];omega
          try case c2=>omega
          try case c3=>exact HB5.o.size
          intro v6 w6 ho6 hg6 _;have HB6:Hid (Below w5.heap.size w5 w6):=HB5.o.grown hg6 HB5.o.size (fun g hg=>(aD HO5.o hg).1);have HO6:Hid (w6.ownsRow w5.heap.size 48 2 v6 (l.take k++x.2::l.drop k).length (aF (l.take k++x.2::l.drop k))):=by
           have e1:(l.take k++x.2::l.drop k).length=k+1+(m-k):=by simp only[sF,tD,sV,uG];have:=HN.o;omega
           have e2:aF (l.take k++x.2::l.drop k)=aF (l.take k)++[.int .i64 x.2.1,.int .i64 x.2.2]++aF (l.drop k):=by rw[bH,sX];rfl
           show World.ownsRow _ _ _ _ _ _ _;rw[e1,e2];simpa using ho6
          clear ho6 hg6 HC HO5 HB5;have HOF:Hid (w6.ownsRow w3.heap.size 48 2 v6 (dP K (o1,o2) (e1,e2) (i+1)).length (aF (dP K (o1,o2) (e1,e2) (i+1)))):=by
           show World.ownsRow _ _ _ _ _ _ _;rw[HPD.o];exact bG HO6.o fun g hg=>sY HWX.o.size (aD HO6.o hg).1
          have HWF:Hid (Below w3.heap.size w3 w6):=HWX.o.trans (HB6.o.mono HWX.o.size);clear HO6 HB6 HPD HWX;go_wp2_with fail
          go_meet
          case rel=>exact⟨v6,rfl,HOF,HWF⟩
       ·have g1:decide ((k:Int)<m)=false:=sI (by omega);have hkm:m=k:=by omega
        subst hkm;have HPD:Hid (dP K (o1,o2) (e1,e2) (i+1)=l.take m++x.2::l.drop m):=by
         show _=_;rw[HYES.o];exact putD_at (by rw[HN.o];exact sB _) HI0.o (fun z hz=>by rw[vA (by rw[HN.o];exact sB _)]at hz;cases hz)
        go_wp2_with fail
        go_quiet (fail)
        change Exit.then _ _ _ _ (wr.drewN nq);have HI3:Hid (Below wa.heap.size wa (wr.drewN nq)):=aH HI.o nq;generalize wr.drewN nq=w5 at HI3 ⊢;have HBX:=Hi (HX.o.keep (HI3.o.block _ HX.o.lt));have HWX:Hid (Below w3.heap.size w3 w5):=HW2.o.trans (HI3.o.mono HW2.o.size);have HRW:=Hi (aA HR7.o HI3.o);have hnc:=hcap;clear HI HI3 HX HW2 HR7 HI0 HYES;obtain⟨i0,hi,hz0,hz1,hz2⟩:=info_parts hU
        have HT:Hid (aC (fun x=>x<w5.heap.size) w5 2 (some ⟨g,0,none⟩) m (aF (l.take m))):=by have:=HRW.o.take hk;rwa [jF]at this
        go_wp2_with (at_builtin;refine aG _ rfl (.tmp 58) (.tmp 61) _ rfl (w5.heap.size) 48 i0 _ 2 16 Tryz.underlying51 hi hz0 hz1 hz2 rfl (by omega) (.slice none 0 0) (0) (aF []) rfl (bB _ _ _ _) _ (some ⟨g,0,none⟩) (m) (cap) (aF (l.take m)) rfl (HT.o) (aY _) ?c1 ?c2 ?c3 ?_)
        try case c1=>simp only[maxLen];omega
        try case c2=>omega
        try case c3=>exact sB _
        intro v4 w4 ho4 hg4 _;have HB4:Hid (Below w5.heap.size w5 w4):=(sA _ w5).grown hg4 (sB _) (fun g e=>by cases e);replace ho4:w4.ownsRow w5.heap.size 48 2 v4 m (aF (l.take m)):=by simpa[aF] using ho4
        have HO4:=Hi ho4;have hQ4:=HBX.o.keep (HB4.o.block _ HBX.o.lt);have z13:=cZ hQ4 13 rfl;have z14:=cZ hQ4 14 rfl;clear ho4 hg4 hQ4;go_wp2_with (at_builtin;refine aX 51 48 (.agg #[.int .i64 0,.int .i64 0]) 2 16 Tryz.underlying51 hU rfl (by omega) rfl (.tmp 63) (.tmp 66) rfl (w5.heap.size) (v4) (m) (aF (l.take m)) rfl (HO4.o.alloc _) (w4.heap.size) 1 ([.int .i64 x.2.1,.int .i64 x.2.2]) rfl ?d1 ?d2 ?d3 ?d4 ?d5 ?d6 ?_)
        try case d1=>rfl
        try case d2=>intro j u hj;exact dN _ _ _ hj
        try case d3=>first|exact aY [x.2]|exact⟨rfl,rfl⟩|rfl
        try case d4=>omega
        try case d5=>omega
        try case d6=>first|(have:=HB4.o.size;simp;omega)|(simp;done)
        intro v1 w1 hown1 hg1 hat1;have hb1:Below (w5.heap.size) w5 w1:=(HB4.o.alloc HB4.o.size _).grown hg1 (by have:=HB4.o.size;first|(simp;omega)|(simp;done)) (fun g hg=>(aD (HO4.o) hg).1);clear hat1 hg1;clear z13 z14;have HO5:=Hi hown1;have HB5:=Hi hb1;have HC:Hid (aC (fun x=>x<w1.heap.size) w1 2 (if cap=m then some ⟨g,0,none⟩ else Option.map (fun x:Addr=>x.add (m*2)) (some ⟨g,0,none⟩)) (m-m) (aF (l.drop m))):=by
         have:=(aA HRW.o HB5.o).cut (cap:=cap) hk hnc
         rwa [iB]at this
        clear hown1 hb1 HO4 HB4 HRW HT HBX;by_cases hck:cap=m
        ·rw[tA hck]at HC;go_wp2_with (at_builtin;refine aG _ rfl (.tmp 68) (.tmp 71) _ rfl (w5.heap.size) 48 i0 _ 2 16 Tryz.underlying51 hi hz0 hz1 hz2 rfl (by omega) (v1) (m+1) (aF (l.take m)++[.int .i64 x.2.1,.int .i64 x.2.2]) rfl (HO5.o) _ (_) (_) (_) (aF (l.drop m)) rfl ((by simpa using HC.o)) (aY _) ?c1 ?c2 ?c3 ?_)
         try case c1=>simp only[maxLen];omega
         try case c2=>omega
         try case c3=>exact HB5.o.size
         intro v6 w6 ho6 hg6 _;have HB6:Hid (Below w5.heap.size w5 w6):=HB5.o.grown hg6 HB5.o.size (fun g hg=>(aD HO5.o hg).1);have HO6:Hid (w6.ownsRow w5.heap.size 48 2 v6 (l.take m++x.2::l.drop m).length (aF (l.take m++x.2::l.drop m))):=by
          have e1:(l.take m++x.2::l.drop m).length=m+1+(m-m):=by simp only[sF,tD,sV,uG];have:=HN.o;omega
          have e2:aF (l.take m++x.2::l.drop m)=aF (l.take m)++[.int .i64 x.2.1,.int .i64 x.2.2]++aF (l.drop m):=by rw[bH,sX];rfl
          show World.ownsRow _ _ _ _ _ _ _;rw[e1,e2];simpa using ho6
         clear ho6 hg6 HC HO5 HB5;have HOF:Hid (w6.ownsRow w3.heap.size 48 2 v6 (dP K (o1,o2) (e1,e2) (i+1)).length (aF (dP K (o1,o2) (e1,e2) (i+1)))):=by
          show World.ownsRow _ _ _ _ _ _ _;rw[HPD.o];exact bG HO6.o fun g hg=>sY HWX.o.size (aD HO6.o hg).1
         have HWF:Hid (Below w3.heap.size w3 w6):=HWX.o.trans (HB6.o.mono HWX.o.size);clear HO6 HB6 HPD HWX;go_wp2_with fail
         go_meet
         case rel=>exact⟨v6,rfl,HOF,HWF⟩
        ·rw[sT hck]at HC;have HC2:Hid (aC (fun x=>x<w1.heap.size) w1 2 (some ⟨g,m*2,none⟩) (m-m) (aF (l.drop m))):=by have:=HC.o;rw[vC,addr0]at this;exact this
         go_wp2_with (at_builtin;refine aG _ rfl (.tmp 68) (.tmp 71) _ rfl (w5.heap.size) 48 i0 _ 2 16 Tryz.underlying51 hi hz0 hz1 hz2 rfl (by omega) (v1) (m+1) (aF (l.take m)++[.int .i64 x.2.1,.int .i64 x.2.2]) rfl (HO5.o) _ (_) (_) (_) (aF (l.drop m)) rfl ((by simpa using HC2.o)) (aY _) ?c1 ?c2 ?c3 ?_)
         try case c1=>simp only[maxLen];omega
         try case c2=>omega
         try case c3=>exact HB5.o.size
         intro v6 w6 ho6 hg6 _;have HB6:Hid (Below w5.heap.size w5 w6):=HB5.o.grown hg6 HB5.o.size (fun g hg=>(aD HO5.o hg).1);have HO6:Hid (w6.ownsRow w5.heap.size 48 2 v6 (l.take m++x.2::l.drop m).length (aF (l.take m++x.2::l.drop m))):=by
          have e1:(l.take m++x.2::l.drop m).length=m+1+(m-m):=by simp only[sF,tD,sV,uG];have:=HN.o;omega
          have e2:aF (l.take m++x.2::l.drop m)=aF (l.take m)++[.int .i64 x.2.1,.int .i64 x.2.2]++aF (l.drop m):=by rw[bH,sX];rfl
          show World.ownsRow _ _ _ _ _ _ _;rw[e1,e2];simpa using ho6
         clear ho6 hg6 HC HO5 HB5;have HOF:Hid (w6.ownsRow w3.heap.size 48 2 v6 (dP K (o1,o2) (e1,e2) (i+1)).length (aF (dP K (o1,o2) (e1,e2) (i+1)))):=by
          show World.ownsRow _ _ _ _ _ _ _;rw[HPD.o];exact bG HO6.o fun g hg=>sY HWX.o.size (aD HO6.o hg).1
         have HWF:Hid (Below w3.heap.size w3 w6):=HWX.o.trans (HB6.o.mono HWX.o.size);clear HO6 HB6 HPD HWX;go_wp2_with fail
         go_meet
         case rel=>exact⟨v6,rfl,HOF,HWF⟩
    ·have HNO:=Hi (kidsG_no HXM.o (HKI.o.trans (by simpa using hall)));rw[HKG.o]at HNO;have HO3:Hid (wa.ownsRow w3.heap.size 48 2 v7 (dP K (o1,o2) (e1,e2) (i+1)).length (aF (dP K (o1,o2) (e1,e2) (i+1)))):=by show World.ownsRow _ _ _ _ _ _ _;rw[HNO.o];exact HO2.o
     cases ib<;>cases b1<;>cases b2<;>first
      |exact absurd rfl hall
      |(clear hall;go_wp2_with fail
        go_meet
        case rel=>exact⟨v7,rfl,HO3,HW2⟩)
   case rest =>
    obtain⟨v8,rfl,HO3,HW3⟩:=hcut
    clear HO HW q3 HRG;go_wp2_with fail
    go_roundw
    case rel=>exact⟨i+1,v8,rfl,by go_num,by have:=HLT.o;omega,HO3,HW3⟩
    case measure=>have:=HLT.o;simp[intOf];omega
  ·have hin:i=nK:=by omega
   have HKP:Hid (dP K (o1,o2) (e1,e2) i=eA K (o1,o2) (e1,e2)):=by show _=_;unfold dP eA;rw[sL (by rw[HNK.o];omega)]
   rw[HKP.o]at HO;have hkl:(eA K (o1,o2) (e1,e2)).length≤100000:=by have:=kidsG_len K (o1,o2) (e1,e2) i;rw[HKP.o]at this;omega
   clear hin HKP;obtain⟨l,hl0⟩:∃l,eA K (o1,o2) (e1,e2)=l:=⟨_,rfl⟩
   have HLE:=Hi hl0;rw[hl0]at HO hkl;clear hl0;obtain⟨A7,c7,rfl,-,-,hr7⟩:=aC.of_own HO.o
   have HR7:Hid (aC (fun k=>k<wr.heap.size) wr 2 A7 l.length (aF l)):=hr7.more fun k hk=>(aD HO.o hk).2
   obtain⟨m,hm⟩:∃m,l.length=m:=⟨_,rfl⟩
   have HN:=Hi hm;rw[hm]at HR7 hkl ⊢;have HFL:Hid (∀j,((l.take j).flatMap fun k=>k::f k).length≤1000000):=fun j=>by
    have h1:=(pS (fun k=>k::f k) (List.take_sublist j l)).length_le;have h2:=HMM.o;rw[HLE.o]at h2;omega
   clear hr7 HO hm;obtain⟨wo,hwo⟩:∃wo,wo=wr:=⟨_,rfl⟩
   subst hwo;go_upto_region 16 with fail
   go_loopw [12,13] (fun s12 s13 wr=>∃(j:Nat) (v12:Value),v12=s12∧s13=.int .i64 j∧j≤m∧Hid (wr.ownsRow wo.heap.size 48 2 v12 ((l.take j).flatMap fun k=>k::f k).length (aF ((l.take j).flatMap fun k=>k::f k)))∧Hid (Below wo.heap.size wo wr)) (fun _ s13 _=>m-(intOf s13).toNat)
   case atStart=>exact⟨0,_,rfl,rfl,by omega,bB _ _ _ _,sA _ _⟩
   case round =>
    clear q3;obtain⟨j,v12,rfl,rfl,hj,HO,HI⟩:=hrel
    by_cases hlj:j<m
    ·obtain⟨x,hx⟩:∃x,l[j]?=some x:=⟨_,sC (by rw[HN.o];exact hlj)⟩
     obtain⟨b1,oo1,hA7,hbl1,hc1⟩:=HR7.o.at_ (by omega) (by omega)
     have HX:Hid (∀V,Below wo.heap.size wo V→V.cell? ⟨b1,oo1+j*2,none⟩=some (.int .i64 x.1)∧V.cell? ⟨b1,oo1+j*2+1,none⟩=some (.int .i64 x.2)):=fun V hv=>⟨(sK (hv.block _ hbl1)).trans (hc1 _ _ (aN hx).1),(sK (hv.block _ hbl1)).trans (hc1 _ _ (aN hx).2)⟩
     have HTK:Hid ((l.take (j+1)).flatMap (fun k=>k::f k)=(l.take j).flatMap (fun k=>k::f k)++x::f x):=by
      show _=_;rw[sQ,hx,uC];simp
     have HXM:Hid (x∈eA K (o1,o2) (e1,e2)):=by show _∈_;rw[HLE.o];exact sJ hx
     have HLJ:=Hi hlj;have hf1:=HFL.o (j+1);rw[HTK.o,sF,sV]at hf1;subst hA7;clear hx hbl1 hc1;obtain⟨S,hS⟩:∃S,(l.take j).flatMap (fun k=>k::f k)=S:=⟨_,rfl⟩
     have HSS:=Hi hS;rw[hS]at HO hf1;clear hS;have x1:=(HX.o wr HI.o).1;have x2:=(HX.o wr HI.o).2;have HWr:Hid (Below w.heap.size w wr):=by
      have h1:Below w.heap.size w wo:=by rw[HBB.o];exact HB3.o.trans (HW.o.mono (by rw[←HBB.o];exact HB3.o.size))
      exact h1.trans (HI.o.mono h1.size)
     obtain⟨nS,hnS⟩:∃n,S.length=n:=⟨_,rfl⟩
     have HNS:=Hi hnS;rw[hnS]at HO hf1;clear hnS;go_wp2_with (at_builtin;refine aX 51 48 (.agg #[.int .i64 0,.int .i64 0]) 2 16 Tryz.underlying51 hU rfl (by omega) rfl (.tmp 79) (.tmp 84) rfl (wo.heap.size) (_) (nS) (aF S) rfl (HO.o.alloc _) (wr.heap.size) 1 ([.int .i64 x.1,.int .i64 x.2]) rfl ?c1 ?c2 ?c3 ?c4 ?c5 ?c6 ?_)
     try case c1=>rfl
     try case c2=>intro j u hj;exact dN _ _ _ hj
     try case c3=>first|exact aY [x]|exact⟨rfl,rfl⟩|rfl
     try case c4=>omega
     try case c5=>omega
     try case c6=>first|(have:=HI.o.size;simp;omega)|(simp;done)
     intro v1 w1 hown1 hg1 hat1;have hb1:Below (wo.heap.size) wo w1:=(HI.o.alloc HI.o.size _).grown hg1 (by have:=HI.o.size;first|(simp;omega)|(simp;done)) (fun g hg=>(aD (HO.o) hg).1);clear hat1 hg1 x1 x2;have HO1:=Hi hown1;have HI1:=Hi hb1;have HW1:Hid (Below w3.heap.size w3 w1):=HW.o.trans (hb1.mono HW.o.size);have HWw:Hid (Below w.heap.size w w1):=by
      have h1:Below w.heap.size w wo:=by rw[HBB.o];exact HB3.o.trans (HW.o.mono (by rw[←HBB.o];exact HB3.o.size))
      exact h1.trans (hb1.mono h1.size)
     clear hown1 hb1 HO HI HWr;obtain⟨A1,c1,hv1,-,-,-⟩:=aC.of_own HO1.o
     subst hv1;have x1:=(HX.o w1 HI1.o).1;have x2:=(HX.o w1 HI1.o).2;have p0:=cZ (H1.o.keep (HW1.o.block _ H1.o.lt)) 0 rfl;obtain⟨p2,p3⟩:=ce2 (H2.o.keep (HW1.o.block _ H2.o.lt))
     have C3:=HIH.o x HXM.o w1.drew HWw.o.drew;unfold pD at C3;go_upto_region 19 with fail
     refine eB 7 ((.slice A1 (nS+1) c1)) (by kernel_rfl) (by kernel_rfl) (fun _ _ _ h=>h) (Or.inl ⟨by rfl,?_⟩) ?_
     ·(intro w;go_simp;try with_reducible rfl)
     simp only[tE,tO,tG,tT];go_frame;repeat (first|(refine aQ rfl (fun K hK=>?_);go_simp;refine hK _ ?_;clear hK K)|(refine wpStill_skip rfl ?_;go_frame))
     refine wpStill_nil ?_;change wpList _ _ _ _ _ w1.drew;have HO2:Hid (w1.drew.ownsRow wo.heap.size 48 2 (.slice A1 (nS+1) c1) (nS+1) (aF S++[.int .i64 x.1,.int .i64 x.2])):=HO1.o.drew;have HI2:Hid (Below wo.heap.size wo w1.drew):=HI1.o.drew;clear x1 x2 p0 p2 p3 HO1 HI1 HW1 HWw;generalize w1.drew=w2 at HO2 HI2 C3 ⊢;go_wp2_with fail
     go_at_call 101;refine C3.mono ?_;rintro e w5 ⟨v5,rfl,ho5,hb5⟩;obtain⟨A5,c5,hv5,-,-,hr5⟩:=aC.of_own ho5
     subst hv5;have HR5:Hid (aC (fun k=>k<w5.heap.size) w5 2 A5 (f x).length (aF (f x))):=hr5.more fun k hk=>(aD ho5 hk).2
     have HO5:=Hi (aO HO2.o hb5);have HI5:Hid (Below wo.heap.size wo w5):=HI2.o.trans (hb5.mono HI2.o.size);have hbs:=HI5.o.size;clear C3 ho5 hb5 hr5 HO2 HI2;obtain⟨nf,hnf⟩:∃n,(f x).length=n:=⟨_,rfl⟩
     have HNF:=Hi hnf;rw[hnf]at HR5 hf1 ⊢;clear hnf;obtain⟨i0,hi0,hz0,hz1,hz2⟩:=info_parts hU
     have hi:=hi0;go_wp2_with (at_builtin;refine aG _ rfl (.tmp 86) (.tmp 93) _ rfl (wo.heap.size) 48 i0 _ 2 16 Tryz.underlying51 hi hz0 hz1 hz2 rfl (by omega) (.slice A1 (nS+1) c1) (nS+1) (aF S++[Value.int .i64 x.1,Value.int .i64 x.2]) rfl (HO5.o) _ (A5) (nf) (c5) (aF (f x)) rfl (HR5.o) (aY _) ?c1 ?c2 ?c3 ?_)
     try case c1=>simp only[maxLen];omega
     try case c2=>omega
     try case c3=>exact hbs
     intro v6 w6 ho6 hg6 _;have HI6:Hid (Below wo.heap.size wo w6):=HI5.o.grown hg6 HI5.o.size (fun g hg=>(aD HO5.o hg).1);have HO6:Hid (w6.ownsRow wo.heap.size 48 2 v6 ((l.take (j+1)).flatMap fun k=>k::f k).length (aF ((l.take (j+1)).flatMap fun k=>k::f k))):=by
      have e1:(S++x::f x).length=nS+1+nf:=by rw[sF,sV,HNS.o,HNF.o];omega
      have e2:aF (S++x::f x)=aF S++[.int .i64 x.1,.int .i64 x.2]++aF (f x):=by rw[bH,sX];rfl
      show World.ownsRow _ _ _ _ _ _ _;rw[HTK.o,HSS.o,e1,e2];simpa using ho6
     clear ho6 hg6 HO5 HI5 HR5 hbs;go_wp2_with fail
     go_roundw
     case rel=>exact⟨j+1,v6,rfl,by go_num,by have:=HLJ.o;omega,HO6,HI6⟩
     case measure=>have:=HLJ.o;simp[intOf];omega
    ·have hjm:j=m:=by omega
     have HOF:Hid (wr.ownsRow w.heap.size 48 2 v12 (l.flatMap fun k=>k::f k).length (aF (l.flatMap fun k=>k::f k))):=by
      have h1:=HO.o;rw[sL (by rw[HN.o];omega)]at h1;exact bG h1 fun g hg=>by
       have h2:=(aD h1 hg).1;have h3:=HW.o.size;have h4:=HB3.o.size;have h5:=HBB.o;omega
     have HWF:Hid (Below w.heap.size w wr):=by
      have h1:Below w.heap.size w wo:=by rw[HBB.o];exact HB3.o.trans (HW.o.mono (by rw[←HBB.o];exact HB3.o.size))
      exact h1.trans (HI.o.mono h1.size)
     clear HO HI hjm;go_wp2_with fail
     go_ret;exact⟨v12,rfl,by rw[HLE.o];exact HOF.o,HWF.o⟩
theorem flat_part{α β:Type}(f:α→List β){l:List α}{k:α}(h:k∈l):(f k).Sublist (l.flatMap f):=by
 obtain⟨p,q,rfl⟩:=wR h
 rw[uC,tQ];exact(List.sublist_append_left _ _).trans (List.sublist_append_right _ _)
theorem behE_any{K:List OpI}{N:Int}(hK:KTree K N)(o1 o2:Int)(A:Option Addr)(c M:Nat)(hl:K.length≤100000)(hM:M≤1000000):∀(n:Nat) (e:Rf) (w:World),N-e.1<n→aC (fun k=>k<w.heap.size) w 15 A K.length (bS K)→(hY K (o1,o2) n e).length≤M→pD A c K.length o1 o2 e (hY K (o1,o2) n e) w
 |0,e,w,h1,hr,h2=>by
  have hk:eA K (o1,o2) e=[]:=vW.2 fun k hk=>by have:=hK.kid hk;omega
  have:=beh_step K o1 o2 e.1 e.2 A c (fun _=>[]) w hr hl (fun k hk'=>by rw[hk]at hk';cases hk') (by rw[hk];simp)
  rw[hk]at this;exact this
 |n+1,e,w,h1,hr,h2=>by
  have hsub:∀k∈eA K (o1,o2) e,(hY K (o1,o2) n k).length≤M:=fun k hk=>by
   have h3:(k::hY K (o1,o2) n k).Sublist (hY K (o1,o2) (n+1) e):=by
    show(k::hY K (o1,o2) n k).Sublist ((eA K (o1,o2) e).flatMap fun k=>k::hY K (o1,o2) n k)
    exact flat_part (fun k=>k::hY K (o1,o2) n k) hk
   have:=h3.length_le
   simp only[sV]at this;omega
  have:=beh_step K o1 o2 e.1 e.2 A c (hY K (o1,o2) n) w hr hl (fun k hk V hV=>by
   have h3:=hK.kid hk;exact behE_any hK o1 o2 A c M hl hM n k V (by omega) (aA hr hV) (hsub k hk)) (by
   have h4:hY K (o1,o2) (n+1) e=(eA K (o1,o2) e).flatMap fun k=>k::hY K (o1,o2) n k:=rfl
   rw[h4]at h2;exact sY h2 hM)
  exact this
end
section
open Go.RowKit
theorem deps_i64:∀ {p:Int} {l:List Rf},cF p l=0→∀d∈l,eL d
 |_,[],_,_,h=>by cases h
 |p,r::l,h,d,hd=>by
  unfold cF at h;by_cases h1:dT r=false
  ·rw[tA h1]at h;cases h
  rw[sT h1]at h;by_cases h2:r.1≤p
  ·rw[tA h2]at h;cases h
  rw[sT h2]at h;rcases sO.1 hd with rfl|hd
  ·have:=eU (by cases hh:dT d with|true=>rfl|false=>exact absurd hh h1)
   exact⟨by omega,by omega⟩
  ·exact deps_i64 h d hd
theorem err_deps{c:ChD}(h:c.err=0):∀d∈c.deps,eL d:=by
 unfold ChD.err dK at h;obtain⟨h1,h⟩:=aR h (by omega)
 obtain⟨h2,h⟩:=aR h (by omega)
 by_cases h3:cF 0 c.deps≠0
 ·rw[tA h3]at h;exact absurd h h3
 exact deps_i64 (p:=0) (Decidable.not_not.1 h3)
end
section
theorem sElems_any{K:List OpI}{N:Int}(hK:KTree K N)(o1 o2:Int)(A:Option Addr)(c n:Nat)(w:World)(hr:aC (fun k=>k<w.heap.size) w 15 A K.length (bS K))(hl:K.length≤100000)(hn:N<n)(hM:(hY K (o1,o2) n (0,0)).length≤1000000):
 Calls Tryz.prog 63 #[.agg #[.slice A K.length c],.agg #[.int .i64 o1,.int .i64 o2]] w fun e w'=>∃v,e=.returned v∧w'.ownsRow w.heap.size 48 2 v (hY K (o1,o2) n (0,0)).length (aF (hY K (o1,o2) n (0,0)))∧Below w.heap.size w w':=by
 obtain⟨nK,hnK⟩:∃n,K.length=n:=⟨_,rfl⟩
 have HN:=Hi hnK;have hb1:Below w.heap.size w (w.alloc (.cells #[.slice A nK c] 58)):=(sA _ w).alloc (sB _) _;have hb2:Below w.heap.size w ((w.alloc (.cells #[.slice A nK c] 58)).alloc (.cells #[.int .i64 o1,.int .i64 o2] 48)):=hb1.alloc hb1.size _;have C:=behE_any hK o1 o2 A c 1000000 hl (sB _) n (0,0) _ (by show N-0<n;omega) (aA hr hb2) hM;unfold pD at C;have HB:=Hi hb2;rw[hnK]at C ⊢;clear hr hb1 hb2 hnK;go_enter Tryz.func63,Tryz.ntmps63;go_wp2_with fail
 refine C.mono ?_;rintro e w2 ⟨v2,rfl,ho,hb⟩;have HF:Hid (Below w.heap.size w w2):=HB.o.trans (hb.mono HB.o.size);have HO:=Hi (bG ho (base':=w.heap.size) fun k hk=>sY HB.o.size (aD ho hk).1);clear ho hb C;go_wp2_with fail
 go_ret;exact⟨_,rfl,HO.o,HF.o⟩
end
section
open Go.RowKit
theorem next_new{A B l:List OpI}{i:Nat}{z:OpI}(hn:((A++(l++B)).map Prod.snd).Nodup)(hz:l[i]?=some z):∀y∈A++l.take i,y.2≠z.2:=by
 obtain⟨hi,hz'⟩:=sE.1 hz
 have e:A++(l++B)=(A++l.take i)++(z::(l.drop (i+1)++B)):=by
  have h1:l=l.take i++z::l.drop (i+1):=by
   rw[←hz',←uE hi,uL]
  have h2:l++B=l.take i++(z::(l.drop (i+1)++B)):=by
   rw[←vX,←sX,←h1]
  rw[h2,sX]
 rw[e,tN,uM]at hn;intro y hy;exact hn.2.2 y.2 (vQ hy) z.2 (by simp)
theorem opsAt_len{L:List ChD}(hb:Bk L)(r:Rf):(dO L r).length≤40:=by
 unfold dO;cases h:aV L r with
 |none=>simp
 |some c=>simp only[fG];exact(eE (hb.err c (vE h)).1).2.2.1
theorem known_len{L:List ChD}(hb:Bk L):∀S:List Rf,(S.flatMap (dO L)).length≤40*S.length
 | []=>by simp
 |r::S=>by
  have h1:=known_len hb S;have h2:=opsAt_len hb r;simp only[tQ,sF,sV];omega
theorem at_kinds{L:List ChD}(hb:Bk L){r:Rf}{y:OpI}(hy:y∈dO L r):1≤y.1.k∧(y.1.k=2→y.1.vk=5∨y.1.vk=6):=by
 unfold dO at hy;cases h:aV L r with
 |none=>rw[h]at hy;cases hy
 |some c=>rw[h]at hy;exact oR (nV (hb.err c (vE h)).1 _ (bQ hy).2.2.2)
theorem own_kinds{c:ChD}(he:c.err=0){y:OpI}(hy:y∈c.opsI):1≤y.1.k∧(y.1.k=2→y.1.vk=5∨y.1.vk=6) :=
 oR (nV he _ (bQ hy).2.2.2)
theorem ids_nodup{L:List ChD}{c:ChD}{S:List Rf}{K:List OpI}(hb:Bk L)(hs:S.Nodup)(hsub:∀r∈S,r∈aB L)(hK:K.Perm (S.flatMap (dO L)))(h2:∀x∈K,x.2.1<c.st):
 ((K++c.opsI).map Prod.snd).Nodup:=by
 rw[tN,uM];refine⟨(hK.map Prod.snd).nodup_iff.2 (kU hb hs hsub),fH _ _ _,fun a ha b hb' hab=>?_⟩
 obtain⟨x,hx,rfl⟩:=sW.1 ha
 obtain⟨y,hy,rfl⟩:=sW.1 hb'
 have q1:=h2 x hx;have q2:=(bQ hy).2.1;rw[hab]at q1;omega
theorem sub_len{L:List ChD}{S:List Rf}(hn:S.Nodup)(h:∀r∈S,r∈aB L):S.length≤L.length:=by
 have:=kR hn h
 simpa[aB] using this
theorem rP{L:List ChD}(hb:Bk L)(hl:L.length≤1000){S done todo:List Rf}(hn:S.Nodup)(hsub:∀r∈S,r∈aB L)(hp:(done++todo).Perm S):(done.flatMap (dO L)).length≤40000:=by
 have h1:=known_len hb done;have h2:=sub_len hn hsub;have h3:=hp.length_eq;rw[sF]at h3;have:done.length≤1000:=by omega
 omega
end
end Go.Proofs.YtjhkcbideddlgaaGreat
