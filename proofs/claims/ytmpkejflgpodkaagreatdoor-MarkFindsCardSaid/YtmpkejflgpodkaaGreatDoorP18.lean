/- Contracts: a row of refs sorted, and turned round. -/
import Derived.Test.YtmpkejflgpodkaaGreatDoorP17
import Derived.Test.YtmpkejflgpodkaaGreatDoorShelf
import Derived.Shelf.SlSortCmp.WholeK
import Derived.Shelf.SlSortCmp.NoneTotal
import Derived.Test.YtmpkejflgpodkaaGreatDoorP12
import Derived.Test.YtmpkejflgpodkaaGreatDoorP16
import Derived.Test.YtmpkejflgpodkaaGreatDoorP15
import Derived.Test.YtmpkejflgpodkaaGreatDoorShelfJ
import Derived.Test.YtmpkejflgpodkaaGreatDoorP0
import Derived.WalkSmall
import Derived.Laws.OwnMore
import Derived.Deep.DeepCutAuto
import Derived.Test.YtmpkejflgpodkaaGreatDoorP1
set_option maxHeartbeats 8000000
set_option maxRecDepth 20000
set_option linter.unusedVariables false
set_option linter.unusedSimpArgs false
namespace Go.Proofs.YtmpkejflgpodkaaGreatDoor
open Go.ChangeShapes Go.WideShapes Go.ChangeAt Go.RowKit
section
def jQ(r:Rf):List Value:=[.int .i64 r.1,.int .i64 r.2]
def bF(w:World)(g:Nat)(l:List Rf):Prop:=∀j u,(aE l)[j]?=some u→w.cell? ⟨g,j,none⟩=some u∧w.frozen? ⟨g,j,none⟩=false
theorem refC_get(l:List Rf)(t:Nat)(h:t<l.length*2):(aE l)[t]?=some ((jQ (l.toArray[t / 2]!))[t % 2]!):=by
 obtain⟨q,m,ht,hm⟩:∃q m,t=q*2+m∧m<2:=⟨t / 2,t % 2,by omega,by omega⟩
 subst ht;rw[show(q*2+m) / 2=q from by omega,show(q*2+m) % 2=m from by omega];have hk:q<l.length:=by omega
 obtain⟨h1,h2⟩:=aL (sD hk)
 rw[getElem!_pos l.toArray q (by simpa using hk)]
 match m,hm with
 |0,_=>simpa[jQ] using h1
 |1,_=>simpa[jQ] using h2
theorem bF.holds{w:World}{g:Nat}{l:List Rf}(h:bF w g l):Sort.HoldsK jQ 2 w g 0 l.toArray:=by
 intro j hj;have hj':j<l.length*2:=by simpa using hj
 have:=h j _ (refC_get l j hj')
 rw[Sort.get_flatK jQ 2 l.toArray j (by simpa using hj')];simpa using this
theorem bF.of_holds{w:World}{g:Nat}{l:List Rf}(h:Sort.HoldsK jQ 2 w g 0 l.toArray):bF w g l:=by
 intro j u hu;have hj':j<l.length*2:=by
  rcases vF j (l.length*2) with h|h
  ·exact h
  ·rw[uF (by rw[aY];exact h)]at hu;cases hu
 have h1:=h j (by simpa using hj');rw[Sort.get_flatK jQ 2 l.toArray j (by simpa using hj')]at h1;rw[refC_get l j hj']at hu;obtain rfl:=tF hu;simpa using h1
theorem bF.keep{w w':World}{g:Nat}{l:List Rf}(h:bF w g l)(hk:w'.heap[g]?=w.heap[g]?):bF w' g l:=fun j u hu=>by
 obtain⟨h1,h2⟩:=h j u hu
 exact⟨(sM (w:=w) (a:=⟨g,j,none⟩) hk).trans h1,(World.frozen?_of_block (w:=w) (a:=⟨g,j,none⟩) hk).trans h2⟩
theorem bF.reads{w:World}{g:Nat}{l:List Rf}(h:bF w g l):aC (fun k=>k=g) w 2 (some ⟨g,0,none⟩) l.length (aE l) :=
 ⟨aY l,fun _=>⟨_,rfl,rfl,fun j u hu=>by
  have:=(h j u hu).1
  unfold Addr.add;split
  ·rename_i e;rw[e]at this;exact this
  ·simpa using this⟩⟩
theorem kC{w:World}{g n:Nat}{d:Array Rf}{os:Array Obj}: Chg (fun k=>k=g) w (sortWorldK jQ 2 w g 0 n d os):=by
 refine⟨rfl,rfl,rfl,size_sortWorldK_c jQ 2 w g 0 n d os,fun k hk hne=>?_⟩
 have e:(sortWorldK jQ 2 w g 0 n d os).heap=(w.heap.modify g (Sort.onCells (Sort.putCells id 0 (Sort.flatK jQ 2 d))))++os:=rfl;rw[e,Array.getElem?_append_left (by simpa using hk),Array.getElem?_modify,if_neg (fun h=>hne h.symm)]
theorem encR_one(x:Rf):∀v∈jQ x,v.oneCell'=true:=by
 intro v hv;simp only[jQ,sK,tX,or_false]at hv;rcases hv with rfl|rfl<;>rfl
theorem lE(x y:Rf):ltOf pZ x y=decide (x.1<y.1∨x.1=y.1∧x.2<y.2):=by
 unfold ltOf pZ Lib.compareInt;by_cases h1:x.1<y.1
 ·simp[h1]
 ·by_cases h2:y.1<x.1
  ·have h3:x.1≠y.1:=by omega
   simp[h1,h2,h3]
  ·have h3:x.1=y.1:=by omega
   by_cases h4:x.2<y.2
   ·simp[h3,h4]
   ·by_cases h5:y.2<x.2<;>simp[h3,h4,h5]
theorem swo_cmp:Sort.SWO (ltOf pZ) where
 irrefl x:=by rw[lE];simp
 trans x y z h1 h2:=by rw[lE]at *;simp only[decide_eq_true_eq]at *;omega
 ntrans x y z h1 h2:=by rw[lE]at *;simp only[decide_eq_false_iff_not]at *;omega
def kH(l:List Rf):Prop:=∀(i j:Nat) (x y:Rf),i<j→l[i]?=some x→l[j]?=some y→¬(y.1<x.1∨y.1=x.1∧y.2<x.2)
theorem sortA_any(g cap:Nat)(l:List Rf)(w:World)(h:bF w g l)(hg:g<w.heap.size)(hl:l.length≤1000000):
 Calls Tryz.prog 131 #[.slice (some ⟨g,0,none⟩) l.length cap,.func (.func 132) #[] #[]] w fun e w' =>
  e=.returned (.tuple #[])∧∃l',l'.Perm l∧kH l'∧bF w' g l'∧Chg (fun k=>k=g) w w':=by
 have eg:∀args w,(callFunc 132 args).run Tryz.prog w=.ok (.enter 132 args) w:=enters_of Tryz.func132 (by kernel_rfl) (wY (show Tryz.f132.body.isSome=true by kernel_rfl)).symm;have hc:CmpLays Tryz.prog 132 #[] jQ 2 pZ g 0 l.toArray.size w:=fun _ _ _ _ x y=>compareRefs_any x y _
 have:=AnyQ.slices_SortFunc Tryz.sortRef 2 Tryz.isAgg77 Tryz.sizeOf77 jQ (fun _=>rfl) encR_one pZ swo_cmp 132 #[] g 0 cap l.toArray w eg hc h.holds hg (by simp;omega)
 rw[show l.toArray.size=l.length from by simp]at this;refine this.mono ?_;rintro e w' ⟨rfl,d',n,os,hp,hs,rfl⟩;have hsz:d'.size=l.length:=by simpa using hp.1
 refine⟨rfl,d'.toList,?_,?_,bF.of_holds (by simpa using holdsK_sortWorldK_c jQ 2 w g 0 l.toArray d' n os h.holds hg (by simpa using hsz)),kC⟩
 ·have h1:d'.extract 0 l.length=d':=by rw[←hsz];exact wS
  have h2:l.toArray.extract 0 l.length=l.toArray:=by
   have:l.length=l.toArray.size:=by simp
   rw[this];exact wS
  have h3:=hp.2.2;rw[h1,h2]at h3;exact h3
 ·intro i j x y hij hx hy;have hj:j<l.length:=by
   rw[←hsz];rcases vF j d'.size with h|h
   ·exact h
   ·rw[uF (by simpa using h)]at hy;cases hy
  have h1:=hs i j (vI _) hij hj;have ex:d'[i]! = x:=by
   rw[vZ]at hx;rw[wJ,vN,hx];rfl
  have ey:d'[j]! = y:=by
   rw[vZ]at hy;rw[wJ,vN,hy];rfl
  rw[lE,ex,ey]at h1;simpa using h1
end
section
def kv(p:Rf×Value):Value×Value:=(bB p.1,p.2)
theorem sortNone(p:Option Addr)(cap:Nat)(fv:Value)(w:World):Calls Tryz.prog 131 #[.slice p 0 cap,fv] w fun e w'=>e=.returned (.tuple #[])∧w'=w:=by
 have:=AnyF.slices_SortFunc_none Tryz.sortRef p cap fv w
 exact this
theorem wpK_next(w:World){ops:Array Oper}{rest:List Oper}{o:Oper}{a:Act}{Q:Exit→Act→World→Prop}(hg:o.guard=none)(it:Operand)(hop:o.op=Op.next it false)(b r:Nat)(K todo:List (Rf×Value))(hit:a.eval it=.pointer (some ⟨r,0,none⟩))(h:bD w 77 b r (K.map kv) (todo.map kv))
 (hDone:todo=[]→wpList Tryz.prog ops Q rest (a.put o.dst (.tuple #[.bool false])) w)
 (hMore:∀(x:Rf×Value) (todo':List (Rf×Value)) (w':World),todo.Perm (x::todo')→bD w' 77 b r (K.map kv) (todo'.map kv)→w.grownBy w' (some r)→w'.heap.size=w.heap.size →
   (Instr.entry (.pointer (some ⟨r,0,none⟩))).run Tryz.prog w'=.ok (.tuple #[.agg #[.int .i64 x.1.1,.int .i64 x.1.2],x.2]) w'→wpList Tryz.prog ops Q rest (a.put o.dst (.tuple #[.bool true,.agg #[.int .i64 x.1.1,.int .i64 x.1.2],x.2])) w') :
 wpList Tryz.prog ops Q (o::rest) a w:=by
 refine wpL_next w hg it hop _ b r _ _ hit h (fun e=>hDone (xB.1 e)) fun key v todo' w' hp hI hg hs hen=>?_
 obtain⟨x,t',hx,hp1,hp2⟩:=oK _ hp
 have e1:bB x.1=key:=congrArg Prod.fst hx;have e2:x.2=v:=congrArg Prod.snd hx;subst e1 e2;exact hMore x t' w' hp1 (hI.perm hp2) hg hs hen
theorem rising_any(K:List (Rf×Value))(b:Nat)(w:World)(h:aI w 77 b (K.map kv))(hl:K.length≤1000000):
 Calls Tryz.prog 87 #[.map (some b)] w fun e w'=>∃A c S,e=.returned (.slice A S.length c)∧S.Perm (K.map Prod.fst)∧kH S∧(S=[]∨∃g,w.heap.size≤g∧g<w'.heap.size∧A=some ⟨g,0,none⟩∧bF w' g S∧S.length≤c∧c≤9223372036854775807)∧Below w.heap.size w w':=by
 have HM:=Hi h;go_enter Tryz.func87,Tryz.ntmps87;go_wp2_with (refine kJ w rfl (.tmp 5) 159 rfl 77 82 Tryz.underlying159 b (K.map kv) rfl HM.o ?_;intro w1 hI1 hb1 hs1)
 have HI1:=Hi hI1;have HB1:=Hi hb1;clear hI1 hb1 h;simp only[Act.put,zA,zB,zC];go_loopw [3,4] (fun s3 _ wr=>∃done todo:List (Rf×Value),Hid ((done++todo).Perm K)∧Hid (bD wr 77 b w.heap.size (K.map kv) (todo.map kv))∧Hid (wr.ownsRow (w.heap.size+1) 77 2 s3 done.length (aE (done.map Prod.fst)))∧Hid (Below w.heap.size w wr)) (fun s3 _ _=>K.length-slen s3)
 case atStart=>exact⟨[],K,vP _,HI1,bT _ _ _ _,HB1⟩
 case round =>
  clear HI1 HB1;obtain⟨done,todo,HP,HI,HO,HW⟩:=hrel
  have hlen:done.length+todo.length=K.length:=by rw[←sG];exact HP.o.length_eq
  go_wp2_with (refine wpK_next _ rfl (.tmp 6) rfl b w.heap.size K todo rfl HI.o ?_ ?_)
  ·intro ht;subst ht;have HPD:Hid (done.Perm K):=by have:=HP.o;rwa [uL]at this
   obtain⟨Ao,co,hv,hco,hcm,-⟩:=aC.of_own HO.o
   have HCO:Hid (done.length≤co∧co≤9223372036854775807):=⟨hco,by simpa[maxLen] using hcm⟩;subst hv;clear hcm;have HDN:Hid (done.length=K.length):=HPD.o.length_eq;clear hlen;go_wp2_with fail
   by_cases h0:done.length=0
   ·have hd0:done=[]:=tV.1 h0;rw[h0];go_at_call 131;refine(sortNone Ao co _ wr).mono ?_
    rintro e w2 ⟨rfl,rfl⟩;go_wp2_with fail
    go_ret;exact⟨Ao,co,[],rfl,by have:=HPD.o;rw[hd0]at this;rw[List.nil_perm.1 this];exact vP _,fun i j x y _ hx=>by simp at hx,.inl rfl,HW.o⟩
   ·obtain⟨g,cap,hA,hg1,hg2⟩:=HO.o.form (by omega)
    simp only[tZ,true_and]at hA;obtain⟨rfl,rfl⟩:=hA
    have hrow:bF wr g (done.map Prod.fst):=fun j u hu=>by
     have hj:j<done.length*2:=by
      rcases vF j (done.length*2) with h|h
      ·exact h
      ·rw[uF (by rw[aY,sP];exact h)]at hu;cases hu
     exact⟨(wC HO.o j hj).trans hu,xD HO.o j⟩
    have C1:=sortA_any g co (done.map Prod.fst) wr hrow hg2 (by rw[sP,HDN.o];exact hl);rw[sP]at C1;go_at_call 131;refine C1.mono ?_;rintro e w2 ⟨rfl,S,hp,hasc,hrow2,hch⟩;have HLS:Hid (S.length=done.length):=by show _=_;rw[hp.length_eq,sP]
    have HW2:Hid (Below w.heap.size w w2):=HW.o.trans (hch.below HW.o.size fun k hk=>by rw[hk];omega);have HS:Hid (S.Perm (K.map Prod.fst)):=hp.trans (HPD.o.map _);have HAS:=Hi hasc;have HRW:=Hi hrow2;have hsz2:=hch.size;clear hp hasc hrow2 hch C1 hrow;go_wp2_with fail
    go_ret;exact⟨_,co,S,by rw[HLS.o];rfl,HS.o,HAS.o,.inr ⟨g,by omega,by omega,rfl,HRW.o,by rw[HLS.o];exact HCO.o.1,HCO.o.2⟩,HW2.o⟩
  ·intro a1 a2 v todo' w2 hp hI2 hg2 hs2 hen;have HI2:=Hi hI2;have HW2:Hid (Below w.heap.size w w2):=HW.o.grown hg2 HW.o.size (fun k hk=>by cases hk;exact sC _);have hwl:w.heap.size<w2.heap.size:=by have:=HI2.o.lt;omega
   have HO2:Hid (w2.ownsRow (w.heap.size+1) 77 2 _ done.length (aE (done.map Prod.fst))):=HO.o.kept hg2 (by
    cases ho:Value.ownBlock _ with
    |none=>exact .inl rfl
    |some k=>exact .inr (fun e=>by cases e;have:=(aF HO.o ho).1;omega))
   clear hI2 hg2 HI HO HW;have hbl:b<w.heap.size:=HM.o.lt;obtain⟨Ao,co,hv,hco,-,-⟩:=aC.of_own HO2.o
   subst hv;clear hs2;go_upto_region 5 with fail
   have HW3:Hid (Below w.heap.size w (w2.alloc (.cells #[.int .i64 a1,.int .i64 a2] 77))):=HW2.o.alloc HW2.o.size _;have HQ3:Hid (Blk (w2.alloc (.cells #[.int .i64 a1,.int .i64 a2] 77)) w2.heap.size 77 #[.int .i64 a1,.int .i64 a2]):=Blk.new w2 _ _;have HI3:Hid (bD (w2.alloc (.cells #[.int .i64 a1,.int .i64 a2] 77)) 77 b w.heap.size (K.map kv) (todo'.map kv)):=HI2.o.keep (sO _ _ _ (by omega)) (sO _ _ _ hwl);have HO3:=Hi (HO2.o.alloc (.cells #[.int .i64 a1,.int .i64 a2] 77));clear HW2 HI2 HO2 hen;have hw3:(w2.alloc (.cells #[.int .i64 a1,.int .i64 a2] 77)).heap.size=w2.heap.size+1:=by simp
   generalize w2.alloc (.cells #[.int .i64 a1,.int .i64 a2] 77)=w3 at HW3 HQ3 HI3 HO3 hw3 ⊢;generalize hB2:w2.heap.size=B2 at HQ3 hwl hw3 ⊢;clear hB2;have hw4:w.heap.size<w3.heap.size:=by omega
   clear hw3;have r1:=cZ HQ3.o 0 rfl;have r2:=cZ HQ3.o 1 rfl
   obtain⟨i0,hi,hz0,hz1,hz2⟩:=info_parts gW
   go_wp2_with (at_builtin;refine aG _ rfl (.tmp 11) (.tmp 13) _ rfl (w.heap.size+1) 77 i0 _ 2 16 Tryz.underlying79 hi hz0 hz1 hz2 rfl (by omega) (.slice Ao done.length co) (done.length) (aE (done.map Prod.fst)) rfl (HO3.o.alloc _) _ (some ⟨w3.heap.size,0,none⟩) (1) (1) ([.int .i64 a1,.int .i64 a2]) rfl ((cJ (by exact Blk.new w3 _ #[.int .i64 a1,.int .i64 a2]) (n:=2) rfl)) ((by intro u hu;exact aX [(a1,a2)] u (by simpa[aE] using hu))) ?c1 ?c2 ?c3 ?_)
   try case c1=>simp only[maxLen];have:=hlen;omega
   try case c2=>have:=hlen;omega
   try case c3=>simp;omega
   intro v4 w4 ho4 hg4 hat4;have hbk:Below (w.heap.size+1) w3 w4:=((sB _ w3).alloc (by omega) _).grown hg4 (by simp;omega) (fun k hk=>(aF HO3.o hk).1);have HW4:Hid (Below w.heap.size w w4):=HW3.o.trans (hbk.mono (yE _));have HI4:Hid (bD w4 77 b w.heap.size (K.map kv) (todo'.map kv)):=HI3.o.keep (hbk.block _ (by omega)) (hbk.block _ (by omega));have HO4:Hid (w4.ownsRow (w.heap.size+1) 77 2 v4 (done++[((a1,a2),v)]).length (aE ((done++[((a1,a2),v)]).map Prod.fst))):=by
    show World.ownsRow _ _ _ _ _ _ _;rw[sG,sQ,bC];simpa[aE] using ho4
   have HP2:Hid (((done++[((a1,a2),v)])++todo').Perm K):=by
    show List.Perm _ _;rw[sX];exact(hp.symm.append_left done).trans HP.o
   have hsl:slen v4=done.length+1:=by
    obtain⟨_,_,hv,_⟩:=aC.of_own ho4
    rw[hv];rfl
   have hdl:done.length<K.length:=by have:=hp.length_eq;simp only[sW]at this;omega
   clear ho4 hg4 hat4 hbk r1 r2 HQ3 HI3 HO3 HW3;go_wp2_with fail
   go_roundw
   case rel=>exact⟨done++[((a1,a2),v)],todo',HP2,HI4,HO4,HW4⟩
   case measure =>
    show K.length-slen v4<K.length-slen (.slice Ao done.length co);rw[hsl];show K.length-(done.length+1)<K.length-done.length;omega
end
section
theorem new_any(w:World):
 Calls Tryz.prog 83 #[] w fun e w'=>∃g bh bw bb,e=.returned (.pointer (some ⟨g,0,none⟩))∧Blk w' g 162 #[.map (some bh),.map (some bw),.map (some bb)]∧eB w' bh []∧eB w' bw []∧aI w' 77 bb []∧(bh≠bw∧bh≠bb∧bw≠bb)∧(w.heap.size≤bh∧w.heap.size≤bw∧w.heap.size≤bb∧w.heap.size≤g)∧Below w.heap.size w w':=by
 have hmm:∀(t:TypeId) (w:World),(Instr.makeMap t none).run Tryz.prog w=.ok (.map (some w.heap.size)) (w.alloc (.map #[] 0)):=fun _ _=>rfl
 have h1:eB (w.alloc (.map #[] 0)) w.heap.size []:=aI.made w _;have hb1:Below w.heap.size w (w.alloc (.map #[] 0)):=(sB _ w).alloc (sC _) _;have hz1:(w.alloc (.map #[] 0)).heap.size=w.heap.size+1:=by simp
 generalize hw1:w.alloc (.map #[] 0)=w1 at h1 hb1 hz1;have h2:eB (w1.alloc (.map #[] 0)) w1.heap.size []:=aI.made w1 _;have hb2:=(sB w1.heap.size w1).alloc (sC _) (.map #[] 0);have hz2:(w1.alloc (.map #[] 0)).heap.size=w1.heap.size+1:=by simp
 generalize hw2:w1.alloc (.map #[] 0)=w2 at h2 hb2 hz2;have h3:aI (w2.alloc (.map #[] 0)) 77 w2.heap.size []:=aI.made w2 _;have hb3:=(sB w2.heap.size w2).alloc (sC _) (.map #[] 0);have hz3:(w2.alloc (.map #[] 0)).heap.size=w2.heap.size+1:=by simp
 generalize hw3:w2.alloc (.map #[] 0)=w3 at h3 hb3 hz3;have hq:=Blk.new w3 162 #[.map (some w.heap.size),.map (some w1.heap.size),.map (some w2.heap.size)];have hb4:=(sB w3.heap.size w3).alloc (sC _) (.cells #[.map (some w.heap.size),.map (some w1.heap.size),.map (some w2.heap.size)] 162);have HZ:=Hi (And.intro hz1 (And.intro hz2 hz3));clear hz1 hz2 hz3;go_enter Tryz.func83,Tryz.ntmps83;go_wp2_with fail
 go_ret;obtain⟨hz1,hz2,hz3⟩:=HZ.o
 have l1:=aI.lt h1;have l2:=aI.lt h2;have l3:=aI.lt h3;have k1:eB w3 w.heap.size []:=aI.keep (aI.keep h1 (hb2.block _ (by omega))) (hb3.block _ (by omega));have k2:eB w3 w1.heap.size []:=aI.keep h2 (hb3.block _ (by omega));refine⟨w3.heap.size,w.heap.size,w1.heap.size,w2.heap.size,rfl,hq,aI.keep k1 (hb4.block _ (aI.lt k1)),aI.keep k2 (hb4.block _ (aI.lt k2)),aI.keep h3 (hb4.block _ l3),⟨by omega,by omega,by omega⟩,⟨by omega,by omega,by omega,by omega⟩,?_⟩
 exact((hb1.trans (hb2.mono (by omega))).trans (hb3.mono (by omega))).trans (hb4.mono (by omega))
def NF(w:World)(bh bw bb k:Nat):Prop:=k<w.heap.size∧k≠bh∧k≠bw∧k≠bb
structure PB(w:World)(g bh bw bb:Nat)(X:List (ChD×Nat×List Rf))(W:List ChD):Prop where
 blk:Blk w g 162 #[.map (some bh),.map (some bw),.map (some bb)]
 mh:eB w bh (X.map Prod.fst)
 mw:eB w bw W
 mb:aI w 77 bb (X.map fun x=>(bB x.1.rf,.map (some x.2.1)))
 ne:bh≠bw∧bh≠bb∧bw≠bb
 sets:∀x∈X,fF w x.2.1 x.2.2∧NF w bh bw bb x.2.1∧∀r,r∈x.2.2↔r∈aQ (X.map Prod.fst) [x.1.rf]
 inL:∀x∈X,ChIn (NF w bh bw bb) w x.1
 inW:∀c∈W,ChIn (NF w bh bw bb) w c
theorem NF.more{w w':World}{bh bw bb k:Nat}(h:NF w bh bw bb k)(hs:w.heap.size≤w'.heap.size):NF w' bh bw bb k:=⟨sE h.1 hs,h.2⟩
theorem PB.below{w w':World}{g bh bw bb:Nat}{X:List (ChD×Nat×List Rf)}{W:List ChD}(h:PB w g bh bw bb X W)(hb:Below w.heap.size w w'):PB w' g bh bw bb X W :=
 ⟨h.blk.keep (hb.block _ h.blk.lt),aI.keep h.mh (hb.block _ (aI.lt h.mh)),aI.keep h.mw (hb.block _ (aI.lt h.mw)),aI.keep h.mb (hb.block _ (aI.lt h.mb)),h.ne,
  fun x hx=>⟨(h.sets x hx).1.keep (hb.block _ (h.sets x hx).2.1.1),(h.sets x hx).2.1.more hb.size,(h.sets x hx).2.2⟩,
  fun x hx=>((h.inL x hx).keep fun k hk=>hb.block k hk.1).more fun k hk=>hk.more hb.size,
  fun c hc=>((h.inW c hc).keep fun k hk=>hb.block k hk.1).more fun k hk=>hk.more hb.size⟩
theorem PB.hb{w:World}{g bh bw bb:Nat}{X:List (ChD×Nat×List Rf)}{W:List ChD}(h:PB w g bh bw bb X W):HB w g bh (.map (some bw)) (.map (some bb)) (X.map Prod.fst):=⟨h.blk,h.mh⟩
theorem PB.nil{w:World}{g bh bw bb:Nat}(hb:Blk w g 162 #[.map (some bh),.map (some bw),.map (some bb)])(h1:eB w bh [])(h2:eB w bw [])(h3:aI w 77 bb [])(hn:bh≠bw∧bh≠bb∧bw≠bb):PB w g bh bw bb [] [] :=
 ⟨hb,h1,h2,h3,hn,(fun _ h=>by cases h),(fun _ h=>by cases h),(fun _ h=>by cases h)⟩
end
section
open Go.RowKit
theorem oB{a b:ByteArray}(h:(a.toList == b.toList)=true):a=b:=by
 have h':=eq_of_beq h;rw[xL,xL]at h';obtain⟨⟨x⟩⟩:=a
 obtain⟨⟨y⟩⟩:=b
 have h2:x=y:=h';rw[h2]
theorem sameO_iff(x y:OpD):sameO x y=true↔base x=base y:=by
 obtain⟨k,on,oa,key,en,ea,ins,vk,vn,vt,va,vb,A,c,l⟩:=x
 obtain⟨k',on',oa',key',en',ea',ins',vk',vn',vt',va',vb',A',c',l'⟩:=y
 simp only[sameO,idE,valE,base,tB,beq_iff_eq,decide_eq_true_eq,OpD.mk.injEq,true_and];constructor
 ·rintro⟨h1,⟨h2,h3⟩,h4,⟨h5,h6⟩,h7,⟨h8,h9,h10,h11,h12⟩,h13⟩
  exact⟨h1,h2,h3,oB (by simpa using h4),h5,h6,h7,h8,h9,oB (by simpa using h10),h11,h12,h13⟩
 ·rintro⟨h1,h2,h3,rfl,h5,h6,h7,h8,h9,rfl,h11,h12,h13⟩
  exact⟨h1,⟨h2,h3⟩,rfl,⟨h5,h6⟩,h7,⟨h8,h9,rfl,h11,h12⟩,h13⟩
theorem oE:∀(l m:List OpD),eL l m=true↔l.map base=m.map base
 | [],[]=>by simp[eL]
 | [],_::_=>by simp[eL]
 |_::_,[]=>by simp[eL]
 |x::l,y::m=>by
  simp only[eL,tB,sT,wM];rw[sameO_iff,oE l m]
theorem enc_inj{c d:ChD}(hc:c.err=0)(hd:d.err=0)(hcv:∀o∈c.ops,(Lit.int .i64 o.vn).wf=true)(hdv:∀o∈d.ops,(Lit.int .i64 o.vn).wf=true)(h:c.enc=d.enc):
 c.st=d.st∧c.deps=d.deps∧c.ops.map base=d.ops.map base:=by
 have h1:=read_back (show dK c.a c.s c.st c.deps c.ops=0 from hc) hcv [];have h2:=read_back (show dK d.a d.s d.st d.deps d.ops=0 from hd) hdv [];rw[show jR c.a c.s c.st c.deps c.ops=jR d.a d.s d.st d.deps d.ops from h,h2]at h1;simp only[Rd.mk.injEq]at h1;obtain⟨_,_,h3,h4,h5,_⟩:=h1
 have b1:=(fS hc).1;have b2:=(fS hd).1;exact⟨by omega,h4.symm,h5.symm⟩
theorem sameC_enc{c d:ChD}(hc:c.err=0)(hd:d.err=0)(hcv:∀o∈c.ops,(Lit.int .i64 o.vn).wf=true)(hdv:∀o∈d.ops,(Lit.int .i64 o.vn).wf=true)(hr:c.rf=d.rf):rN c d=decide (c.enc=d.enc):=by
 have hr1:c.a=d.a:=congrArg Prod.fst hr;have hr2:c.s=d.s:=congrArg Prod.snd hr;by_cases he:c.enc=d.enc
 ·obtain⟨h1,h2,h3⟩:=enc_inj hc hd hcv hdv he
  rw[decide_eq_true he];unfold rN;rw[(oE _ _).2 h3,h1,h2];simp
 ·rw[decide_eq_false he];cases h:rN c d with
  |false=>rfl
  |true =>
   unfold rN at h;simp only[tB,beq_iff_eq,decide_eq_true_eq]at h;obtain⟨h1,h2,h3⟩:=h
   refine absurd ?_ he;unfold ChD.enc;rw[hr1,hr2,h1,h2];exact qZ ((oE _ _).1 h3)
end
section
open Go.RowKit
theorem eW(c:ChD):c.base.rf=c.rf:=rfl
theorem mM(c:ChD):c.base.err=c.err:=chgE_base (rB c.ops)
theorem base_enc(c:ChD):c.base.enc=c.enc:=qZ (rB c.ops)
def bI(x:OpI):OpI:=(base x.1,x.2)
theorem pV:∀(a st:Int) (l:List OpD),dY a st (l.map base)=(dY a st l).map bI
 |_,_,[]=>rfl
 |a,st,o::l=>by simp only[sT,dY,pV a (st+1) l];rfl
theorem rA(c:ChD):c.base.opsI=c.opsI.map bI:=pV c.a c.st c.ops
theorem jD(L:List ChD):aB (L.map ChD.base)=aB L:=by
 unfold aB;rw[vG];rfl
theorem back_base:∀(L:List ChD) (w:List Rf),dP (L.map ChD.base) w=dP L w
 | [],_=>rfl
 |c::L,w=>by
  simp only[sT,dP,eW,back_base L];rfl
theorem behind_base(L:List ChD)(hs:List Rf):aQ (L.map ChD.base) hs=aQ L hs:=by
 unfold aQ;rw[←List.map_reverse];exact back_base _ _
theorem known_base(L:List ChD)(R:List Rf):bX (L.map ChD.base) R=(bX L R).map bI:=by
 unfold bX;induction L with
 |nil=>rfl
 |cons c L ih =>
  by_cases h:c.rf∈R
  ·simp only[sT,xN,eW,h,decide_true,if_true,tM,sQ,rA];rw[ih]
  ·simp only[sT,xN,eW,h,decide_false,vB,if_false];exact ih
theorem mS(l:List OpI)(n:Rf):cE (l.map bI) n=(cE l n).map bI:=by
 unfold cE;induction l with
 |nil=>rfl
 |cons x l ih =>
  by_cases h:x.2=n
  ·simp[bI,h]
  ·simp only[sT,List.find?_cons,show(bI x).2=x.2 from rfl,decide_eq_false h];exact ih
theorem kind_base(x:OpI)(K:List OpI):eR (bI x) (K.map bI)=eR x K:=by
 unfold eR;rw[show eG (bI x)=eG x from rfl,mS];cases cE K (eG x)<;>rfl
theorem elem_base(x:OpI)(K:List OpI):dA (bI x) (K.map bI)=dA x K:=by
 unfold dA;rw[show elP (bI x)=elP x from rfl,mS];cases cE K (elP x)<;>rfl
theorem pred_base(x:OpI)(K:List OpI)(p:Rf):bM (bI x) (K.map bI) p=bM x K p:=by
 unfold bM;rw[mS];cases cE K p<;>rfl
theorem may_base(x:OpI)(K:List OpI):cU (bI x) (K.map bI)=cU x K:=by
 unfold cU;rw[kind_base,elem_base];cases eR x K with
 |none=>rfl
 |some kd =>
  show(oQ x kd&&dA x K&&x.1.l.all (bM (bI x) (K.map bI)))=_
  rw[show bM (bI x) (K.map bI)=bM x K from funext (pred_base x K)]
theorem fitOps_base:∀(l K:List OpI),dC (l.map bI) (K.map bI)=dC l K
 | [],_=>rfl
 |x::l,K=>by
  simp only[sT,dC,may_base];have:=fitOps_base l (K++[x])
  rw[sQ]at this;rw[←this];rfl
theorem mU(L:List ChD)(c:ChD):bS (L.map ChD.base) c.base=bS L c:=by
 unfold bS eU;rw[show c.base.deps=c.deps from rfl,behind_base,known_base,rA,fitOps_base];rw[List.all_map];rfl
theorem kW(L:List ChD)(c:ChD):bE (L.map ChD.base) c.base=bE L c:=by
 unfold bE;rw[jD];rfl
theorem lF(p q:ChD→Bool)(h:∀c,p c.base=q c):∀(W:List ChD) (i:Nat) (b:Option (Nat×Rf)),gT p (W.map ChD.base) i b=gT q W i b
 | [],_,_=>rfl
 |c::W,i,b=>by
  simp only[sT,gT,h,eW];exact lF p q h W _ _
theorem least_base(L W:List ChD):cF (bE (L.map ChD.base)) (W.map ChD.base)=cF (bE L) W:=lF _ _ (kW L) W 0 none
theorem nR{α β:Type}(f:α→β):∀(l:List α) (i:Nat),(l.map f).eraseIdx i=(l.eraseIdx i).map f
 | [],_=>rfl
 |_::_,0=>rfl
 |a::l,i+1=>by simp only[sT,List.eraseIdx_cons_succ,nR f l i]
theorem lO:∀(n:Nat) (L W:List ChD),bZ n (L.map ChD.base) (W.map ChD.base)=((bZ n L W).1.map ChD.base,(bZ n L W).2.map ChD.base)
 |0,_,_=>rfl
 |n+1,L,W=>by
  unfold bZ;rw[least_base];cases cF (bE L) W with
  |none=>rfl
  |some b =>
   obtain⟨i,r⟩:=b
   simp only[uY];cases W[i]? with
   |none=>rfl
   |some x =>
    simp only[vK,mU];have h1:=lO n (L++[x]) (W.eraseIdx i);have h2:=lO n L (W.eraseIdx i);rw[sQ]at h1;rw[nR];cases bS L x with
    |true=>simp only[if_true];exact h1
    |false=>simp only[vB,if_false];exact h2
theorem find_base(L:List ChD)(r:Rf):aW (L.map ChD.base) r=(aW L r).map ChD.base:=by
 unfold aW;induction L with
 |nil=>rfl
 |cons c L ih =>
  by_cases h:c.rf=r
  ·simp[eW,h]
  ·rw[sT,List.find?_cons,List.find?_cons,eW,decide_eq_false h];exact ih
theorem sameE_base(c d:ChD):fT c.base d.base=fT c d:=by
 unfold fT;rw[base_enc,base_enc]
theorem take_base(L W:List ChD)(c:ChD):aV (L.map ChD.base) (W.map ChD.base) c.base=(((aV L W c).1.1.map ChD.base,(aV L W c).1.2.map ChD.base),(aV L W c).2):=by
 unfold aV;rw[mM,eW];by_cases he:c.err≠0
 ·rw[if_pos he,if_pos he]
 rw[if_neg he,if_neg he,find_base,find_base];cases h1:aW L c.rf with
 |some d=>simp only[vK,sameE_base]
 |none =>
  cases h2:aW W c.rf with
  |some d=>simp only[vK,Option.map_none,sameE_base]
  |none =>
   simp only[Option.map_none,sP];by_cases h3:120≤L.length+W.length
   ·rw[if_pos h3,if_pos h3]
   rw[if_neg h3,if_neg h3,kW,mU];cases bE L c with
   |false=>simp
   |true =>
    cases bS L c with
    |false=>simp
    |true =>
     simp only[Bool.true_eq_false,if_false];have:=lO W.length (L++[c]) W
     rw[sQ]at this;rw[show L.map ChD.base++[c.base]=L.map ChD.base++[c].map ChD.base from rfl,this]
theorem next_base(L out:List ChD)(c:ChD):fW (L.map ChD.base) (out.map ChD.base) c.base=fW L out c:=by
 unfold fW;rw[jD];rfl
theorem allGo_base(L:List ChD):∀(n:Nat) (out:List ChD),jO (L.map ChD.base) n (out.map ChD.base)=(jO L n out).map ChD.base
 |0,_=>rfl
 |n+1,out=>by
  unfold jO;rw[show cF (fW (L.map ChD.base) (out.map ChD.base)) (L.map ChD.base)=cF (fW L out) L from lF _ _ (next_base L out) L 0 none];cases cF (fW L out) L with
  |none=>rfl
  |some b =>
   obtain⟨i,r⟩:=b
   simp only[uY];cases L[i]? with
   |none=>rfl
   |some x =>
    simp only[vK];have:=allGo_base L n (out++[x])
    rw[sQ]at this;exact this
theorem allP_base(L:List ChD):lH (L.map ChD.base)=(lH L).map ChD.base:=by
 unfold lH;rw[sP];exact allGo_base L L.length []
end
section
open Go.RowKit
structure Ag(L0 W0:List ChD)(S:List Rf)(i:Nat)(L W:List ChD):Prop where
 inv:Inv L W
 eq:bZ W0.length L0 W0=bZ W.length L W
 old:∀c∈W,c.rf∈S.take i→bE L c=false
 all:∀c∈W,c.rf∈S
 new:∀r∈S.drop i,r∈aB W
 asc:kH S
 nd:S.Nodup
section
variable{L0 W0 L W:List ChD}{S:List Rf}{i j:Nat}{r:Rf}{x:ChD}
theorem Ag.start(h:Inv L W)(he:bZ W0.length L0 W0=bZ W.length L W)(hp:S.Perm (aB W))(ha:kH S):Ag L0 W0 S 0 L W :=
 ⟨h,he,(fun _ _ h=>by simp at h),(fun c hc=>hp.mem_iff.2 (cD hc)),(fun r hr=>hp.mem_iff.1 (by simpa using hr)),ha,hp.nodup_iff.2 h.nd⟩
theorem refs_at(h:r∈aB W):∃(j:Nat) (x:ChD),W[j]?=some x∧x.rf=r:=by
 obtain⟨x,hx,e⟩:=sH.1 h
 obtain⟨j,hj,hx⟩:=vW hx
 exact⟨j,x,sF.2 ⟨hj,hx⟩,e⟩
theorem Ag.at(h:Ag L0 W0 S i L W)(hs:S[i]?=some r):∃(j:Nat) (x:ChD),W[j]?=some x∧x.rf=r:=by
 refine refs_at (h.new r ?_);obtain⟨hi,e⟩:=sF.1 hs
 rw[tJ hi,e];exact tA ..
theorem nI(hs:S[i]?=some r){q:Rf}(h:q∈S.take (i+1)):q∈S.take i∨q=r:=by
 rw[sS,hs,uM]at h;rcases sI.1 h with h|h
 ·exact .inl h
 ·exact .inr (sN.1 h)
theorem nU{q:Rf}(h:q∈S.drop (i+1)):q∈S.drop i:=by
 rw[←xO]at h;exact List.mem_of_mem_drop h
theorem inv_one(h:Inv L W){c d:ChD}(hc:c∈W)(hd:d∈W)(e:c.rf=d.rf):c=d:=by
 have h1:=dX h.nd hc;have h2:=dX h.nd hd;rw[e,h2]at h1;exact(tF h1).symm
theorem Ag.skip(h:Ag L0 W0 S i L W)(hs:S[i]?=some r)(hx:W[j]?=some x)(hr:x.rf=r)(hn:bE L x=false):Ag L0 W0 S (i+1) L W :=
 ⟨h.inv,h.eq,(fun c hc hm=>by
  rcases nI hs hm with hm|hm
  ·exact h.old c hc hm
  ·rw[inv_one h.inv hc (sJ hx) (by rw[hm,hr])];exact hn),h.all,(fun q hq=>h.new q (nU hq)),h.asc,h.nd⟩
theorem Ag.least(h:Ag L0 W0 S i L W)(hs:S[i]?=some r)(hx:W[j]?=some x)(hr:x.rf=r)(hn:bE L x=true):cF (bE L) W=some (j,x.rf):=by
 refine leastAt_is h.inv.nd hx hn fun d hd hdr=>?_
 obtain⟨k,hk,e⟩:=vW (h.all d hd)
 have hk':S[k]?=some d.rf:=sF.2 ⟨hk,e⟩;rw[hr];rcases Nat.lt_trichotomy k i with hlt|rfl|hgt
 ·have:=h.old d hd (by
   rw[List.mem_take_iff_getElem];exact⟨k,by omega,e⟩)
  rw[this]at hdr;cases hdr
 ·rw[hk']at hs;cases hs;unfold aP;rw[decide_eq_false_iff_not];omega
 ·have:=h.asc i k r d.rf hgt hs hk'
  unfold aP;rw[decide_eq_false_iff_not];exact this
theorem drop_next(hn:S.Nodup)(hs:S[i]?=some r):r∉S.drop (i+1):=by
 obtain⟨hi,e⟩:=sF.1 hs
 have h1:(S.drop i).Nodup:=hn.sublist (List.drop_sublist _ _);rw[tJ hi,e]at h1;exact(tN.1 h1).1
theorem refs_erase(hn:(aB W).Nodup)(hx:W[j]?=some x){q:Rf}(hq:q∈aB W)(hne:q≠x.rf):q∈aB (W.eraseIdx j):=by
 obtain⟨c,hc,rfl⟩:=sH.1 hq
 refine cD ?_;have hp:=gI W j x hx;rcases sK.1 (hp.mem_iff.1 hc) with h|h
 ·exact absurd (congrArg ChD.rf h) hne
 ·exact h
theorem refs_gone(hn:(aB W).Nodup)(hx:W[j]?=some x){c:ChD}(hc:c∈W.eraseIdx j):c.rf≠x.rf:=by
 have hp:=gI W j x hx;have h1:(aB (x::W.eraseIdx j)).Nodup:=(hp.map ChD.rf).nodup_iff.1 hn;intro he;exact(tN.1 h1).1 (by show x.rf∈aB (W.eraseIdx j);rw[←he];exact cD hc)
theorem Ag.lose(h:Ag L0 W0 S i L W)(hs:S[i]?=some r)(hx:W[j]?=some x)(hr:x.rf=r)(hn:bE L x=true)(hf:bS L x=false):Ag L0 W0 S (i+1) L (W.eraseIdx j):=by
 refine⟨h.inv.drop j,?_,fun c hc hm=>?_,fun c hc=>h.all c (dJ hc),fun q hq=>?_,h.asc,h.nd⟩
 ·rw[h.eq,qO (h.least hs hx hr hn) hx,hf];rfl
 ·rcases nI hs hm with hm|hm
  ·exact h.old c (dJ hc) hm
  ·exact absurd (hm.trans hr.symm) (refs_gone h.inv.nd hx hc)
 ·refine refs_erase h.inv.nd hx (h.new q (nU hq)) ?_;rw[hr];rintro rfl;exact drop_next h.nd hs hq
theorem Ag.win(h:Ag L0 W0 S i L W)(hs:S[i]?=some r)(hx:W[j]?=some x)(hr:x.rf=r)(hn:bE L x=true)(hf:bS L x=true):
 bZ W0.length L0 W0=bZ (W.eraseIdx j).length (L++[x]) (W.eraseIdx j)∧Inv (L++[x]) (W.eraseIdx j)∧(W.eraseIdx j).length<W.length:=by
 refine⟨by rw[h.eq,qO (h.least hs hx hr hn) hx,hf];rfl,h.inv.move hx hn hf,?_⟩
 have hj:=(sF.1 hx).1;rw[vA hj];omega
theorem Ag.done(h:Ag L0 W0 S i L W)(hi:S.length≤i):bZ W0.length L0 W0=(L,W):=by
 rw[h.eq];refine rM ?_;cases hl:cF (bE L) W with
 |none=>rfl
 |some b =>
  obtain⟨j,q⟩:=b
  obtain⟨x,hx,rfl,hp,-⟩:=fO hl
  have:=h.old x (sJ hx) (by rw[sL hi];exact h.all x (sJ hx))
  rw[this]at hp;cases hp
end
section
variable{L W:List ChD}{c d:ChD}
theorem takeP_err(he:c.err≠0):aV L W c=((L,W),c.err):=by unfold aV;rw[if_pos he]
theorem takeP_found(he:c.err=0)(h:(aW L c.rf).or (aW W c.rf)=some d):aV L W c=((L,W),fT d c):=by
 unfold aV;rw[if_neg (by simp[he])];cases h1:aW L c.rf with
 |some x=>rw[h1]at h;simp at h;subst h;rfl
 |none=>rw[h1]at h;simp at h;rw[h]
theorem takeP_none(he:c.err=0)(h:(aW L c.rf).or (aW W c.rf)=none):aW L c.rf=none∧aW W c.rf=none:=by
 cases h1:aW L c.rf with
 |some x=>rw[h1]at h;simp at h
 |none=>rw[h1]at h;simp at h;exact⟨rfl,h⟩
theorem takeP_full(he:c.err=0)(h1:aW L c.rf=none)(h2:aW W c.rf=none)(h3:120≤L.length+W.length):aV L W c=((L,W),4):=by
 unfold aV;rw[if_neg (by simp[he]),h1,h2];simp only[if_pos h3]
theorem takeP_wait(he:c.err=0)(h1:aW L c.rf=none)(h2:aW W c.rf=none)(h3:¬120≤L.length+W.length)(h4:bE L c=false):aV L W c=((L,W++[c]),0):=by
 unfold aV;rw[if_neg (by simp[he]),h1,h2];simp only[if_neg h3,if_pos h4]
theorem takeP_bad(he:c.err=0)(h1:aW L c.rf=none)(h2:aW W c.rf=none)(h3:¬120≤L.length+W.length)(h4:bE L c=true)(h5:bS L c=false):aV L W c=((L,W),7):=by
 unfold aV;rw[if_neg (by simp[he]),h1,h2];simp only[if_neg h3,h4,Bool.true_eq_false,if_false,h5,if_true]
theorem takeP_go(he:c.err=0)(h1:aW L c.rf=none)(h2:aW W c.rf=none)(h3:¬120≤L.length+W.length)(h4:bE L c=true)(h5:bS L c=true):aV L W c=(bZ W.length (L++[c]) W,0):=by
 unfold aV;rw[if_neg (by simp[he]),h1,h2];simp only[if_neg h3,h4,Bool.true_eq_false,if_false,h5]
theorem found_in(h:(aW L c.rf).or (aW W c.rf)=some d):(d∈L∨d∈W)∧d.rf=c.rf:=by
 cases h1:aW L c.rf with
 |some x=>rw[h1]at h;simp at h;subst h;exact⟨.inl (cM h1).1,(cM h1).2⟩
 |none=>rw[h1]at h;simp at h;exact⟨.inr (cM h).1,(cM h).2⟩
end
end
section
open Go.RowKit
structure AllG(L:List ChD)(S:List Rf)(out:List ChD):Prop where
 fin:lH L=jO L S.length out
 len:S.length+out.length=L.length
 mem:∀r,r∈S↔r∈aB L∧r∉aB out
 asc:kH S
 nd:S.Nodup
section
variable{L out:List ChD}{S:List Rf}{k:Nat}{r:Rf}{x:ChD}
theorem AllG.start(hn:(aB L).Nodup)(hp:S.Perm (aB L))(ha:kH S):AllG L S []:=by
 have hl:S.length=L.length:=by rw[hp.length_eq];simp[aB]
 exact⟨by rw[hl];rfl,by simp[hl],fun r=>by simp[aB,hp.mem_iff],ha,hp.nodup_iff.2 hn⟩
theorem kH.erase(h:kH S)(k:Nat):kH (S.eraseIdx k):=by
 intro i j x y hij hx hy;rw[List.getElem?_eraseIdx]at hx hy;by_cases h1:i<k
 ·rw[if_pos h1]at hx;by_cases h2:j<k
  ·rw[if_pos h2]at hy;exact h i j x y hij hx hy
  ·rw[if_neg h2]at hy;exact h i (j+1) x y (by omega) hx hy
 ·rw[if_neg h1]at hx;rw[if_neg (by omega)]at hy;exact h (i+1) (j+1) x y (by omega) hx hy
def gR(L out:List ChD)(r:Rf):Bool:=match aW L r with
 |some c=>c.deps.all fun d=>decide (d∈aB out)
 |none=>false
theorem AllG.step(h:AllG L S out)(hb:Bk L)(hk:S.findIdx? (gR L out)=some k)(hr:S[k]?=some r):∃x,aW L r=some x∧x∈L∧x.rf=r∧AllG L (S.eraseIdx k) (out++[x]):=by
 obtain⟨hkl,hpk,hlt⟩:=wF.1 hk
 have er:S[k]=r:=by have:=sF.1 hr;exact this.2
 rw[er]at hpk;have hrL:=(h.mem r).1 (sJ hr);cases hf:aW L r with
 |none=>exact absurd hrL.1 (cC.1 hf)
 |some x =>
  obtain⟨hx,hxr⟩:=cM hf
  have hall:(x.deps.all fun d=>decide (d∈aB out))=true:=by unfold gR at hpk;rw[hf]at hpk;exact hpk
  have hnx:fW L out x=true:=by
   unfold fW;rw[hall,hxr,decide_eq_false hrL.2];rfl
  obtain⟨i,hi,ei⟩:=vW hx
  have hxi:L[i]?=some x:=sF.2 ⟨hi,ei⟩;have hl:cF (fW L out) L=some (i,x.rf):=by
   refine leastAt_is hb.nodup hxi hnx fun d hd hpd=>?_
   unfold fW at hpd;rw[tB]at hpd;have hdo:d.rf∉aB out:=by simpa using hpd.1
   obtain⟨j,hj,ej⟩:=vW ((h.mem d.rf).2 ⟨cD hd,hdo⟩)
   have hdj:S[j]?=some d.rf:=sF.2 ⟨hj,ej⟩;rw[hxr];rcases Nat.lt_trichotomy j k with hlt'|rfl|hgt
   ·have:=hlt j hlt'
    rw[ej]at this;unfold gR at this;rw[dX hb.nodup hd]at this;simp only[Bool.not_eq_true]at this;rw[this]at hpd;cases hpd.2
   ·rw[hdj]at hr;cases hr;exact dR _
   ·have:=h.asc k j r d.rf hgt hr hdj
    unfold aP;rw[decide_eq_false_iff_not];exact this
  have hln:S.length=(S.eraseIdx k).length+1:=by rw[vA hkl];omega
  refine⟨x,rfl,hx,hxr,⟨by rw[h.fin,hln];exact allGo_step hl hxi,by have:=h.len;simp only[sG,sW,wA];omega,fun q=>?_,h.asc.erase k,h.nd.sublist (xS _ _)⟩⟩
  have hp:=gI S k r hr;have hnd:(r::S.eraseIdx k).Nodup:=hp.nodup_iff.1 h.nd;have h1:q∈S↔q=r∨q∈S.eraseIdx k:=by rw[hp.mem_iff,sK]
  have h2:q∈aB (out++[x])↔q∈aB out∨q=r:=by
   rw[cO,sI];simp[aB,hxr]
  rw[h2];constructor
  ·intro hq;have:=(h.mem q).1 (h1.2 (.inr hq))
   refine⟨this.1,?_⟩
   rintro(h'|rfl)
   ·exact this.2 h'
   ·exact(tN.1 hnd).1 hq
  ·rintro⟨hq,hn⟩
   rcases h1.1 ((h.mem q).2 ⟨hq,fun h'=>hn (.inl h')⟩) with rfl|h'
   ·exact absurd (.inr rfl) hn
   ·exact h'
theorem AllG.more(h:AllG L S out)(hb:Bk L)(hs:0<S.length):∃k,S.findIdx? (gR L out)=some k∧k<S.length:=by
 cases hk:S.findIdx? (gR L out) with
 |some k=>exact⟨k,rfl,(wF.1 hk).1⟩
 |none =>
  obtain⟨c,hc,hp⟩:=next_ex hb (out:=out) (by have:=h.len;omega)
  unfold fW at hp;rw[tB]at hp;have hm:=(h.mem c.rf).2 ⟨cD hc,by simpa using hp.1⟩;have:=vV.1 hk c.rf hm
  unfold gR at this;rw[dX hb.nodup hc]at this;simp only at this;rw[this]at hp;cases hp.2
theorem AllG.done(h:AllG L S out)(hs:S.length=0):lH L=out:=by
 rw[h.fin,hs];rfl
end
/-! ### lists of refs, ascending -/
theorem oU{l:List Rf}(h:lI l):kH l∧l.Nodup:=by
 unfold lI at h;constructor
 ·intro i j x y hij hx hy hh;obtain⟨h1,e1⟩:=sF.1 hx
  obtain⟨h2,e2⟩:=sF.1 hy
  have:=wN.1 h i j h1 h2 hij
  rw[e1,e2]at this;unfold aP at this;simp only[decide_eq_true_eq]at this;omega
 ·exact h.imp fun {a b} hab e=>by subst e;rw[dR]at hab;cases hab
theorem asc_eq:∀ {a b:List Rf},kH a→a.Nodup→kH b→b.Nodup→(∀r,r∈a↔r∈b)→a=b
 | [],[],_,_,_,_,_=>rfl
 | [],y::b,_,_,_,_,h=>absurd ((h y).2 (tA ..)) (by simp)
 |x::a,[],_,_,_,_,h=>absurd ((h x).1 (tA ..)) (by simp)
 |x::a,y::b,ha,na,hb,nb,h=>by
  have tail:∀ {z:Rf} {l:List Rf},kH (z::l)→kH l:=fun hl i j x y hij hx hy=>hl (i+1) (j+1) x y (by omega) (by simpa using hx) (by simpa using hy)
  have least:∀ {z:Rf} {l:List Rf},kH (z::l)→∀u∈l,¬(u.1<z.1∨u.1=z.1∧u.2<z.2):=fun {z l} hl u hu=>by
   obtain⟨j,hj,e⟩:=vW hu
   exact hl 0 (j+1) z u (by omega) rfl (by simpa using sF.2 ⟨hj,e⟩)
  have hxy:x=y:=by
   have h1:=(h x).1 (tA ..);have h2:=(h y).2 (tA ..);rcases sK.1 h1 with e|h1
   ·exact e
   rcases sK.1 h2 with e|h2
   ·exact e.symm
   have q1:=least hb x h1;have q2:=least ha y h2;exact Prod.ext (by omega) (by omega)
  subst hxy;congr 1;refine asc_eq (tail ha) (tN.1 na).2 (tail hb) (tN.1 nb).2 fun r=>?_
  have hr:=h r;rw[sK,sK]at hr;constructor
  ·intro h';rcases hr.1 (.inr h') with rfl|h''
   ·exact absurd h' (tN.1 na).1
   ·exact h''
  ·intro h';rcases hr.2 (.inr h') with rfl|h''
   ·exact absurd h' (tN.1 nb).1
   ·exact h''
end
section
open Go.RowKit
theorem kH.filter{S:List Rf}(h:kH S)(hn:S.Nodup)(p:Rf→Bool):kH (S.filter p):=by
 have hpw:S.Pairwise (fun x y=>¬(y.1<x.1∨y.1=x.1∧y.2<x.2)):=by
  rw[wN];intro i j hi hj hij;exact h i j _ _ hij (sF.2 ⟨hi,rfl⟩) (sF.2 ⟨hj,rfl⟩)
 have:=hpw.sublist (xK (l:=S) (p:=p))
 intro i j x y hij hx hy;obtain⟨h1,e1⟩:=sF.1 hx
 obtain⟨h2,e2⟩:=sF.1 hy
 have:=wN.1 this i j h1 h2 hij
 rw[e1,e2]at this;exact this
end
section
open Go.RowKit
theorem iY(a:Int):∀(l:List OpD) (st:Int),(dY a st l).Pairwise fun x y=>x.2.1<y.2.1
 | [],_=>List.Pairwise.nil
 |o::l,st=>by
  rw[dY,vO];exact⟨fun y hy=>by have:=(cR hy).2.1;show st<_;omega,iY a l _⟩
theorem mG:∀ {l K:List OpI},dC l K=true→l.Pairwise (fun x y=>x.2.1<y.2.1)→∀x∈l,∃K',cU x K'=true∧(∀y∈K',y∈K∨y∈l∧y.2.1<x.2.1)
 | [],_,_,_,x,hx=>by cases hx
 |z::l,K,h,hp,x,hx=>by
  rw[dC,tB]at h;obtain⟨hp1,hp2⟩:=vO.1 hp
  rcases sK.1 hx with rfl|hx
  ·exact⟨K,h.1,fun y hy=>.inl hy⟩
  ·obtain⟨K',h1,h2⟩:=mG h.2 hp2 x hx
   refine⟨K',h1,fun y hy=>?_⟩
   rcases h2 y hy with h3|h3
   ·rcases sI.1 h3 with h4|h4
    ·exact .inl h4
    ·rw[sN.1 h4];exact .inr ⟨tA ..,hp1 x hx⟩
   ·exact .inr ⟨tS _ h3.1,h3.2⟩
theorem iI{L:List ChD}{x:OpI}: x∈aH L↔∃c∈L,x∈c.opsI:=by
 unfold aH;rw[vL]
theorem fA(A B:List ChD):aH (A++B)=aH A++aH B:=by unfold aH;rw[uD]
theorem Bk.may{L:List ChD}(h:Bk L):∀x∈aH L,∃K,cU x K=true∧∀y∈K,y∈aH L∧y.2.1<x.2.1:=by
 induction h with
 |nil=>intro x hx;cases hx
 | @snoc L c hb he hw hn hr hf ih =>
   intro x hx;rw[fA,sI]at hx;rcases hx with hx|hx
   ·obtain⟨K,h1,h2⟩:=ih x hx
    exact⟨K,h1,fun y hy=>⟨by rw[fA];exact tE _ (h2 y hy).1,(h2 y hy).2⟩⟩
   ·have hx2:x∈c.opsI:=by simpa[aH] using hx
    simp only[bS,eU,tB]at hf;obtain⟨⟨⟨-,-⟩,h3⟩,h4⟩:=hf
    obtain⟨K,h5,h6⟩:=mG h4 (iY _ _ _) x hx2
    refine⟨K,h5,fun y hy=>?_⟩
    rw[fA,sI];rcases h6 y hy with h7|h7
    ·obtain⟨b,hb1,hb2⟩:=vL.1 h7
     refine⟨.inl (iI.2 ⟨b,(uH.1 hb1).1,hb2⟩),?_⟩
     have h8:=tP.1 h3 y h7;have h9:=(cR hx2).2.1;simp only[decide_eq_true_eq]at h8;omega
    ·exact⟨.inr (by simpa[aH] using h7.1),h7.2⟩
theorem oO{K:List OpI}{n:Rf}{y:OpI}(h:cE K n=some y):y∈K∧y.2=n:=⟨uB h,by simpa using vR h⟩
theorem lookP_is{K:List OpI}(hn:(K.map Prod.snd).Nodup){y:OpI}(hy:y∈K):cE K y.2=some y:=by
 unfold cE;cases h:K.find? fun x=>decide (x.2=y.2) with
 |none=>have:=uR.1 h y hy;simp at this
 |some z =>
  have h1:z.2=y.2:=by simpa using vR h
  rw[qY hn (uB h) hy h1]
theorem Bk.num{L:List ChD}(h:Bk L):∀x∈aH L,1≤x.2.1∧x.2.1≤1000100∧1≤x.2.2∧x.2.2≤99:=fun x hx=>by
 obtain⟨c,hc,hxc⟩:=iI.1 hx
 obtain⟨h1,h2,h3,-⟩:=cR hxc
 have h4:=(h.err c hc).1;have h5:=fS h4;have h6:=iQ (oS h4).1;unfold ChOk at h5;have h7:c.rf.1=c.a:=rfl;omega
theorem Bk.tree{L:List ChD}(h:Bk L):KTree (aH L) 1000100 where
 nd:=h.ids
 pos:=fun x hx=>(h.num x hx).1
 top:=fun x hx=>(h.num x hx).2.1
 up:=fun x hx _=>by
  obtain⟨K,h1,h2⟩:=h.may x hx
  unfold cU at h1;cases hk:eR x K with
  |none=>rw[hk]at h1;cases h1
  |some kd =>
   rw[hk]at h1;simp only[tB]at h1;have h3:=h1.1.2;unfold dA at h3;by_cases he:elP x=(0,0)
   ·have:=(h.num x hx).1;rw[he];show(0:Int)<_;omega
   ·rw[if_neg he]at h3;cases hl:cE K (elP x) with
    |none=>rw[hl]at h3;cases h3
    |some y =>
     obtain⟨h4,h5⟩:=oO hl
     have:=(h2 y h4).2
     rw[←h5];exact this
def dG(K:List OpI)(obj:Rf):Int:=if obj=(0,0) then 5 else match cE K obj with|some y=>if y.1.k=2 then y.1.vk else 0|none=>0
theorem Bk.nokey{L:List ChD}(h:Bk L){obj:Rf}(hk:dG (aH L) obj=6):∀x∈aH L,eG x=obj→x.1.key=⟨#[]⟩:=fun x hx ho=>by
 obtain⟨K,h1,h2⟩:=h.may x hx
 have h0:obj≠(0,0):=fun e=>by unfold dG at hk;rw[if_pos e]at hk;cases hk
 unfold cU at h1;cases hkp:eR x K with
 |none=>rw[hkp]at h1;cases h1
 |some kd =>
  rw[hkp]at h1;simp only[tB]at h1;unfold eR at hkp;rw[ho,if_neg h0]at hkp;cases hl:cE K obj with
  |none=>rw[hl]at hkp;cases hkp
  |some y =>
   rw[hl]at hkp;obtain⟨h4,h5⟩:=oO hl
   have h6:=lookP_is h.ids (h2 y h4).1;rw[h5]at h6;unfold dG at hk;rw[if_neg h0]at hk;unfold aH at hk;rw[h6]at hk;by_cases hy:y.1.k=2
   ·simp only[hy,if_true]at hk hkp;have h7:kd=6:=by have:=tF hkp;omega
    have h8:=h1.1.1;unfold oQ at h8;rw[h7]at h8;simpa using h8
   ·simp only[hy,if_false]at hkp;cases hkp
/-! ### All is another order of the same changes -/
theorem allGo_all{L:List ChD}(hb:Bk L):∀(n:Nat) (out:List ChD),(aB out).Nodup→(∀c∈out,c∈L)→out.length+n=L.length →
 (aB (jO L n out)).Nodup∧(∀c∈jO L n out,c∈L)∧(jO L n out).length=L.length
 |0,out,h1,h2,h3=>⟨h1,h2,by simpa[jO] using h3⟩
 |n+1,out,h1,h2,h3=>by
  obtain⟨d,hd1,hd2⟩:=next_ex hb (out:=out) (by omega)
  cases hl:cF (fW L out) L with
  |none=>have:=pP hl d hd1;rw[hd2]at this;cases this
  |some jr =>
   obtain⟨j,r⟩:=jr
   obtain⟨c,hc,hcr,hp,-⟩:=fO hl
   rw[allGo_step hl hc];have hnew:c.rf∉aB out:=fun hm=>by
    unfold fW at hp;rw[decide_eq_true hm]at hp;cases hp
   refine allGo_all hb n (out++[c]) ?_ ?_ ?_
   ·rw[cO,tQ];exact⟨h1,by simp[aB],fun a ha b hb' e=>hnew (by simp[aB]at hb';rw[←hb',←e];exact ha)⟩
   ·intro x hx;rcases sI.1 hx with hx|hx
    ·exact h2 x hx
    ·rw[sN.1 hx];exact sJ hc
   ·rw[sG,vY];omega
theorem nQ{L:List ChD}(h:(aB L).Nodup):L.Nodup:=by
 unfold aB at h;rw[List.Nodup,uU]at h;exact h.imp fun h e=>h (by rw[e])
theorem all_perm{L:List ChD}(hb:Bk L):(lH L).Perm L:=by
 obtain⟨h1,h2,h3⟩:=allGo_all hb L.length [] (by simp[aB]) (by simp) (by simp)
 have hn:=nQ h1;refine kD hn (nQ hb.nodup) fun x=>⟨fun hx=>h2 x hx,fun hx=>?_⟩
 have hsub:∀r∈aB (lH L),r∈aB L:=fun r hr=>by
  obtain⟨c,hc,rfl⟩:=sH.1 hr
  exact cD (h2 c hc)
 have hr:x.rf∈aB (lH L):=Decidable.byContradiction fun hh=>by
  have h4:=qX (x.rf::aB (lH L)) (aB L) (tN.2 ⟨hh,h1⟩) (fun r hr=>by
   rcases sK.1 hr with rfl|hr
   ·exact cD hx
   ·exact hsub r hr)
  have h5:(aB (lH L)).length=L.length:=by unfold aB;rw[sP];exact h3
  have h6:(aB L).length=L.length:=by unfold aB;rw[sP]
  simp only[sW]at h4;omega
 obtain⟨c,hc,hcr⟩:=sH.1 hr
 have h7:=dX hb.nodup (h2 c hc);have h8:=dX hb.nodup hx;rw[hcr,h8]at h7;rw[tF h7];exact hc
theorem all_len{L:List ChD}(hb:Bk L):(lH L).length=L.length:=(all_perm hb).length_eq
theorem kA(L:List ChD):aH (L.map ChD.base)=(aH L).map bI:=by
 unfold aH;rw[List.flatMap_map,List.map_flatMap];exact cH fun c _=>rA c
theorem ops_perm{X L Lr:List ChD}(hb:Bk X)(h1:Lr.map ChD.base=(lH X).map ChD.base)(h2:X.map ChD.base=L.map ChD.base):((aH Lr).map bI).Perm ((aH L).map bI):=by
 rw[←kA,←kA,h1,←h2,kA,kA];exact((all_perm hb).flatMap_right ChD.opsI).map bI
theorem rT(K:List OpI)(obj el:Rf):dN (K.map bI) obj el=dN K obj el:=by
 unfold dN;rw[List.filter_map,vG];rfl
theorem kidIds_perm{K K':List OpI}(h:(K.map bI).Perm (K'.map bI))(obj el:Rf):(dN K obj el).Perm (dN K' obj el):=by
 rw[←rT K,←rT K'];exact(h.filter _).map _
theorem kindJ_base(K:List OpI)(obj:Rf):dG (K.map bI) obj=dG K obj:=by
 unfold dG;rw[mS];cases cE K obj<;>rfl
theorem oP{K K':List OpI}(h:(K.map bI).Perm (K'.map bI))(hn:(K.map Prod.snd).Nodup)(obj:Rf):dG K obj=dG K' obj:=by
 rw[←kindJ_base K,←kindJ_base K'];have:((K.map bI).map Prod.snd).Nodup:=by rw[vG];exact hn
 unfold dG;rw[lookP_perm h this]
theorem sorted_falls{K:List OpI}{N:Int}(hK:KTree K N){obj el:Rf}{T:List Rf}(hp:T.Perm (dN K obj el))(ha:kH T):T.reverse=dH K obj el:=by
 obtain⟨h1,h2,-⟩:=hK.kids (obj:=obj) el
 have h3:lI (dH K obj el).reverse:=by
  unfold lI;rw[List.pairwise_reverse];exact h1
 obtain⟨h4,h5⟩:=oU h3
 have h6:=asc_eq ha (hp.nodup_iff.2 (hK.nodup el)) h4 h5 fun r=>by rw[hp.mem_iff,uK,h2 r]
 rw[h6,List.reverse_reverse]
end
section
theorem mJ(r q:Rf)(w:World):Calls Tryz.prog 44 #[bB r,bB q] w fun e w'=>e=.returned (.int .i64 (pZ r q))∧Gr w w':=by
 obtain⟨ra,rs⟩:=r
 obtain⟨qa,qs⟩:=q
 simp only[bB,pZ];have hc1:=jW ra qa;have hc2:=jW rs qs;generalize Lib.compareInt ra qa=x at *;generalize Lib.compareInt rs qs=y at *;have OR:=orI_any x y;generalize (if x=0 then y else x)=z at OR ⊢;go_enter Tryz.func44,Tryz.ntmps44;go_wp2_with fail
 have hB:Gr w ((w.alloc (.cells #[.int .i64 ra,.int .i64 rs] 24)).alloc (.cells #[.int .i64 qa,.int .i64 qs] 24)):=((Gr.refl w).alloc _).alloc _;have y0:Blk ((w.alloc (.cells #[.int .i64 ra,.int .i64 rs] 24)).alloc (.cells #[.int .i64 qa,.int .i64 qs] 24)) w.heap.size _ _:=(Blk.new w 24 #[.int .i64 ra,.int .i64 rs]).alloc _;have y1:Blk ((w.alloc (.cells #[.int .i64 ra,.int .i64 rs] 24)).alloc (.cells #[.int .i64 qa,.int .i64 qs] 24)) (w.heap.size+1) 24 #[.int .i64 qa,.int .i64 qs]:=by
  have:=Blk.new (w.alloc (.cells #[.int .i64 ra,.int .i64 rs] 24)) 24 #[.int .i64 qa,.int .i64 qs]
  simpa using this
 generalize (w.alloc (.cells #[.int .i64 ra,.int .i64 rs] 24)).alloc (.cells #[.int .i64 qa,.int .i64 qs] 24)=w1 at hB y0 y1 ⊢;have HB:=Hi hB;have x1:=cZ y0 0 rfl;have x2:=cZ y0 1 rfl
 have x3:=cZ y1 0 rfl;have x4:=cZ y1 1 rfl
 clear hB y0 y1;refine wp_region_still_tail 10 (by kernel_rfl) (by kernel_rfl) ?_;simp only[sV,tG,sY,tH];repeat (refine aK rfl (fun K hK=>?_);go_simp;refine hK _ ?_;clear hK K)
 (refine aK rfl (fun K hK=>?_);go_simp;refine⟨_,hc1 _,hK _ ?_⟩;clear hK K)
 repeat (refine aK rfl (fun K hK=>?_);go_simp;refine hK _ ?_;clear hK K)
 (refine aK rfl (fun K hK=>?_);go_simp;refine⟨_,hc2 _,hK _ ?_⟩;clear hK K)
 repeat (refine aK rfl (fun K hK=>?_);go_simp;refine hK _ ?_;clear hK K)
 refine wpStill_nil ?_;change wpList _ _ _ _ _ w1.drew;have HB2:Hid (Gr w w1.drew):=HB.o.drew;generalize w1.drew=w2 at HB2 ⊢;clear x1 x2 x3 x4;go_wp2_with fail
 go_at_call 69;refine(OR w2.heap.size _ (by rw[(Blk.new w2 _ _).cell 0];rfl) (by rw[(Blk.new w2 _ _).cell 1];rfl)).mono ?_
 rintro e w3 ⟨rfl,rfl⟩;go_wp2_with fail
 go_ret;exact⟨rfl,HB2.o.alloc _⟩
end
section
theorem sortI_any(g cap:Nat)(l:List Rf)(w:World)(h:bF w g l)(hg:g<w.heap.size)(hl:l.length≤1000000):
 Calls Tryz.prog 43 #[.slice (some ⟨g,0,none⟩) l.length cap,.func (.func 44) #[] #[]] w fun e w' =>
  e=.returned (.tuple #[])∧∃l',l'.Perm l∧kH l'∧bF w' g l'∧Chg (fun k=>k=g) w w':=by
 have eg:∀args w,(callFunc 44 args).run Tryz.prog w=.ok (.enter 44 args) w:=enters_of Tryz.func44 (by kernel_rfl) (wY (show Tryz.f44.body.isSome=true by kernel_rfl)).symm;have hc:CmpLays Tryz.prog 44 #[] jQ 2 pZ g 0 l.toArray.size w:=fun _ _ _ _ x y=>mJ x y _
 have:=AnyQ.slices_SortFunc Tryz.sortId 2 Tryz.isAgg24 Tryz.sizeOf24 jQ (fun _=>rfl) encR_one pZ swo_cmp 44 #[] g 0 cap l.toArray w eg hc h.holds hg (by simp;omega)
 rw[show l.toArray.size=l.length from by simp]at this;refine this.mono ?_;rintro e w' ⟨rfl,d',n,os,hp,hs,rfl⟩;have hsz:d'.size=l.length:=by simpa using hp.1
 refine⟨rfl,d'.toList,?_,?_,bF.of_holds (by simpa using holdsK_sortWorldK_c jQ 2 w g 0 l.toArray d' n os h.holds hg (by simpa using hsz)),kC⟩
 ·have h1:d'.extract 0 l.length=d':=by rw[←hsz];exact wS
  have h2:l.toArray.extract 0 l.length=l.toArray:=by
   have:l.length=l.toArray.size:=by simp
   rw[this];exact wS
  have h3:=hp.2.2;rw[h1,h2]at h3;exact h3
 ·intro i j x y hij hx hy;have hj:j<l.length:=by
   rw[←hsz];rcases vF j d'.size with h|h
   ·exact h
   ·rw[uF (by simpa using h)]at hy;cases hy
  have h1:=hs i j (vI _) hij hj;have ex:d'[i]! = x:=by
   rw[vZ]at hx;rw[wJ,vN,hx];rfl
  have ey:d'[j]! = y:=by
   rw[vZ]at hy;rw[wJ,vN,hy];rfl
  rw[lE,ex,ey]at h1;simpa using h1
end
section
theorem build_where(a b c d:Int)(w:World):(Instr.build 126 #[(0,.agg #[.int .i64 a,.int .i64 b]),(2,.agg #[.int .i64 c,.int .i64 d])]).run Tryz.prog w=.ok (.agg #[.int .i64 a,.int .i64 b,.string ⟨#[]⟩,.int .i64 c,.int .i64 d]) w:=by kernel_rfl
theorem zero_ids(w:World):(zeroValue 28).run Tryz.prog w=.ok (.slice none 0 0) w:=by kernel_rfl
abbrev dE:=List (Wh×Value×List Rf)
def kidsC(C:dE)(w:Wh):List Rf:=match C.find? (fun x=>decide (x.1=w)) with|some x=>x.2.2|none=>[]
structure KidsAt(w:World)(cb:Nat)(C:dE):Prop where
 map:aI w 126 cb (C.map fun x=>(whV x.1,x.2.1))
 row:∀x∈C,∃A c,x.2.1=.slice A x.2.2.length c∧aC (fun k=>k<w.heap.size) w 2 A x.2.2.length (aE x.2.2)
theorem KidsAt.below{w w':World}{cb:Nat}{C:dE}(h:KidsAt w cb C)(hb:Below w.heap.size w w'):KidsAt w' cb C :=
 ⟨aI.keep h.map (hb.block _ (aI.lt h.map)),fun x hx=>by
  obtain⟨A,c,e,hr⟩:=h.row x hx
  exact⟨A,c,e,aA hr hb⟩⟩
theorem KidsAt.look{w:World}{cb:Nat}{C:dE}(h:KidsAt w cb C){x:Wh}(h1:I64R x.1)(h2:I64R x.2.2)(h3:x.2.1.size≤maxLen):
 ∃A c,(Instr.lookup 97 (.map (some cb)) (whV x) false).run Tryz.prog w=.ok (.slice A (kidsC C x).length c) w∧aC (fun k=>k<w.heap.size) w 2 A (kidsC C x).length (aE (kidsC C x)):=by
 unfold kidsC;cases hf:C.find? (fun y=>decide (y.1=x)) with
 |some y =>
  have hy:=uB hf;have he:y.1=x:=by simpa using vR hf
  obtain⟨A,c,e,hr⟩:=h.row y hy
  refine⟨A,c,?_,hr⟩
  have:=aI.hit h.map bY Tryz.underlying97 (zero_ids w) (sH.2 ⟨y,hy,by rw[he,e]⟩) false
  exact this
 |none =>
  obtain⟨kl,hkl⟩:=iP h1 h2 h3
  refine⟨none,0,?_,aC.none_⟩
  have:=aI.miss h.map bY Tryz.underlying97 (zero_ids w) hkl (fun p hp e=>by
   obtain⟨y,hy,rfl⟩:=sH.1 hp
   have:=uR.1 hf y hy
   rw[pA e]at this;simp at this) false
  exact this
theorem sortNoneI(p:Option Addr)(cap:Nat)(fv:Value)(w:World):Calls Tryz.prog 43 #[.slice p 0 cap,fv] w fun e w'=>e=.returned (.tuple #[])∧w'=w:=by
 have:=AnyF.slices_SortFunc_none Tryz.sortId p cap fv w
 exact this
theorem sortOwnI(A:Option Addr)(cap:Nat)(l:List Rf)(base:Nat)(w:World)(ho:w.ownsRow base 24 2 (.slice A l.length cap) l.length (aE l))(hl:l.length≤1000000):
 Calls Tryz.prog 43 #[.slice A l.length cap,.func (.func 44) #[] #[]] w fun e w' =>
  e=.returned (.tuple #[])∧∃l',l'.Perm l∧kH l'∧aC (fun k=>k<w'.heap.size) w' 2 A l.length (aE l')∧Chg (fun k=>A=some ⟨k,0,none⟩∧base≤k∧k<w.heap.size) w w':=by
 rcases uS l.length with h0|h0
 ·obtain rfl:=tV.1 h0;refine(sortNoneI A cap _ w).mono ?_
  rintro e w' ⟨rfl,rfl⟩;exact⟨rfl,[],vP _,fun i j x y _ hx=>by simp at hx,⟨rfl,fun h=>by cases h⟩,Chg.refl _⟩
 ·obtain⟨g,cap',hA,hg1,hg2⟩:=ho.form h0
  simp only[tZ,true_and]at hA;obtain⟨rfl,rfl⟩:=hA
  have hrow:bF w g l:=fun j u hu=>by
   have hj:j<l.length*2:=by
    rcases vF j (l.length*2) with h|h
    ·exact h
    ·rw[uF (by rw[aY];exact h)]at hu;cases hu
   exact⟨(wC ho j hj).trans hu,xD ho j⟩
  refine(sortI_any g cap l w hrow hg2 hl).mono ?_
  rintro e w' ⟨rfl,l',hp,ha,hr,hc⟩;refine⟨rfl,l',hp,ha,?_,hc.mono fun k _ hk=>by rw[show k=g from hk];exact⟨rfl,hg1,hg2⟩⟩
  have h1:=hr.reads.more (D':=fun k=>k<w'.heap.size) fun k hk=>by rw[hk];exact sE hg2 hc.size
  rw[hp.length_eq]at h1;exact h1
def boxed(v:Value):Nat:=match v with | .pointer _=>0|_=>1
theorem elems_any(K:List OpI)(N:Int)(o1 o2:Int)(C:dE)(g cb:Nat)(v0 v1 v3:Value)(w:World)(hK:KTree K N)(hids:∀x∈K,I64R x.2)(ho:I64R (o1,o2))(hl:K.length≤100000)
 (hb:Blk w g 100 #[v0,v1,.map (some cb),v3]) (hC:KidsAt w cb C) (hk:∀n,(kidsC C ((o1,o2),⟨#[]⟩,n)).Perm (dN K (o1,o2) n)) :
 Calls Tryz.prog 34 #[.pointer (some ⟨g,0,none⟩),.agg #[.int .i64 o1,.int .i64 o2]] w fun e w'=>∃v,e=.returned v ∧
  w'.ownsRow w.heap.size 24 2 v (eP K (o1,o2) N (0,0)).length (aE (eP K (o1,o2) N (0,0)))∧Below w.heap.size w w':=by
 have HK:=Hi hK;have HID:=Hi hids;have HOB:=Hi ho;have HKK:=Hi hk;have HLN:=Hi hl;have hb1:Below w.heap.size w (w.alloc (.cells #[.int .i64 o1,.int .i64 o2] 24)):=(sB _ w).alloc (sC _) _;have HG:=Hi hb;have HC:=Hi hC;have HQ:=Hi (Blk.new w 24 #[.int .i64 o1,.int .i64 o2]);have HW:=Hi hb1;have HSZ:Hid (w.heap.size<(w.alloc (.cells #[.int .i64 o1,.int .i64 o2] 24)).heap.size):=HQ.o.lt;obtain⟨B,hB⟩:∃B,w.heap.size=B:=⟨_,rfl⟩
 have HB:=Hi hB;clear hK hids ho hk hl hb hC hb1;go_enter Tryz.func34,Tryz.ntmps34;go_upto_region 1 with fail
 generalize w.alloc (.cells #[.int .i64 o1,.int .i64 o2] 24)=w1 at HQ HW HSZ ⊢;rw[hB]at HQ HW HSZ;clear hB;go_upto_region 3 with fail
 have hb2:Below w1.heap.size w1 (w1.alloc (.cells #[.int .i64 0,.int .i64 0] 24)):=(sB _ w1).alloc (sC _) _;have HQ2:=Hi (HQ.o.keep (hb2.block _ HQ.o.lt));have HW2:Hid (Below B w (w1.alloc (.cells #[.int .i64 0,.int .i64 0] 24))):=HW.o.trans (hb2.mono (xX HSZ.o));have HS2:Hid ((w1.alloc (.cells #[.int .i64 0,.int .i64 0] 24)).ownsRow B 24 2 (.slice (some ⟨w1.heap.size,0,none⟩) 1 1) 1 (aE [(0,0)])):=World.ownsRow_lit w1 #[.int .i64 0,.int .i64 0] 1 (xX HSZ.o) (by simp[maxLen]) rfl;have HSB:Hid (B<w1.heap.size):=HSZ.o;clear hb2 HQ HW HSZ;generalize w1.alloc (.cells #[.int .i64 0,.int .i64 0] 24)=w2 at HQ2 HW2 HS2 ⊢;generalize w1.heap.size=gs0 at HS2 HSB ⊢;have HWW:Hid (Below (B+1) w2 w2):=sB _ _;go_loopw [5,6,7,8] (fun s5 s6 s7 _ wr=>∃(out stack:List Rf) (vo vs:Value),vo=s5∧vs=s6∧Hid (ElI K (o1,o2) N out stack)∧Hid (wr.ownsRow (B+1) 24 2 vo out.length (aE out))∧Hid (wr.ownsRow (B+1) 24 2 vs stack.length (aE stack)) ∧
  Hid (∀k,vo.ownBlock=some k→vs.ownBlock≠some k)∧Hid (Below (B+1) w2 wr)∧Hid ((boxed s7=1∧stack=[(0,0)]∧out=[])∨(boxed s7=0∧((0,0):Rf)∉stack))) (fun s5 _ s7 _ _=>2*((eP K (o1,o2) N (0,0)).length-slen s5)+boxed s7)
 case atStart=>exact⟨[],[(0,0)],_,_,rfl,rfl,ElI.start,bT _ _ _ _,(by have:=HS2.o;exact bU this fun k hk=>by cases hk;exact HSB.o),(by show ∀k,_→_;intro k hk;cases hk),HWW,.inl ⟨rfl,rfl,rfl⟩⟩
 case round =>
  clear HS2 HWW;obtain⟨out,stack,vo,vs,rfl,rfl,HE,HO,HS,HNE,HWr,HF⟩:=hrel
  rcases wO stack with hst|⟨S,n,hst⟩
  ·subst hst;have HD:Hid (out=eP K (o1,o2) N (0,0)):=HE.o.done;have HOF:Hid (wr.ownsRow B 24 2 vo out.length (aE out)):=bU HO.o fun k hk=>by have:=(aF HO.o hk).1;omega
   have HWF:Hid (Below B w wr):=HW2.o.trans (HWr.o.mono (yE _));obtain⟨As,cs,hvs,-,-,-⟩:=aC.of_own HS.o
   subst hvs;clear HE HO HS HNE HWr HF;go_wp2_with fail
   go_ret;exact⟨vo,rfl,by rw[←HD.o,HB.o];exact HOF.o,by rw[HB.o];exact HWF.o⟩
  ·rw[wP]at hst;subst hst;obtain⟨As,caps,hvs,hcs,hcm,-⟩:=aC.of_own HS.o
   obtain⟨gs,caps',hvs2,hgs1,hgs2⟩:=HS.o.form (by simp)
   rw[hvs]at hvs2;simp only[tZ,true_and]at hvs2;obtain⟨rfl,rfl⟩:=hvs2
   obtain⟨m,hm⟩:∃m,S.length=m:=⟨_,rfl⟩
   have hlen:(S++[n]).length=m+1:=by rw[sG,hm];rfl
   have HS1:Hid (wr.ownsRow (B+1) 24 2 (.slice (some ⟨gs,0,none⟩) (m+1) caps) (m+1) (aE S++[.int .i64 n.1,.int .i64 n.2])):=by
    have h:=HS.o;rw[hvs,hlen,bC]at h;exact h
   have HMS:=Hi hm;have hbd:out.length+m≤100000:=by have h1:=HE.o.len;have h2:=HLN.o;rw[hlen]at h1;omega
   have hcap:m+1≤caps:=by rw[←hlen];exact hcs
   have hcmx:caps≤9223372036854775807:=by simpa[maxLen] using hcm
   rw[hlen]at hvs;have z1:wr.cell? ⟨gs,m*2,none⟩=some (.int .i64 n.1):=(wC HS1.o (m*2) (by omega)).trans (by rw[tR (by rw[aY,hm];omega),aY,hm];simp);have z2:wr.cell? ⟨gs,m*2+1,none⟩=some (.int .i64 n.2):=(wC HS1.o (m*2+1) (by omega)).trans (by rw[tR (by rw[aY,hm];omega),aY,hm];simp);have hw1:IntKind.i64.wrap (((m+1:Nat):Int)-1)=(m:Int):=by rw[show(((m+1:Nat):Int)-1)=(m:Int) from by omega];exact uG _ (by omega)
   have hw2:IntKind.i64.wrap ((m:Int)+1-1)=(m:Int):=by rw[show((m:Int)+1-1)=(m:Int) from by omega];exact uG _ (by omega)
   subst hvs;obtain⟨Ao,co,hvo,-,-,-⟩:=aC.of_own HO.o
   have HSL:Hid (slen vo=out.length):=by show _=_;rw[hvo];rfl
   have HNE2:Hid (∀k,vo.ownBlock=some k→k≠gs):=fun k hk e=>HNE.o k hk (by rw[e];rfl)
   clear hvo HS HNE hcs hcm hm hlen;go_upto_region 5 with fail
   have hba:Below wr.heap.size wr (wr.alloc (.cells #[.int .i64 n.1,.int .i64 n.2] 24)):=(sB _ wr).alloc (sC _) _;have HBn:=Hi (Blk.new wr 24 #[.int .i64 n.1,.int .i64 n.2]);have HOa:=Hi (aS HO.o hba);have HSa:Hid ((wr.alloc (.cells #[.int .i64 n.1,.int .i64 n.2] 24)).ownsRow (B+1) 24 2 (.slice (some ⟨gs,0,none⟩) m caps) m (aE S)):=aS (ownsRow_pop (by rw[aY,HMS.o]) HS1.o) hba;have HWa:Hid (Below (B+1) w2 (wr.alloc (.cells #[.int .i64 n.1,.int .i64 n.2] 24))):=HWr.o.alloc (by have:=HWr.o.size;have:=HQ2.o.lt;omega) _;have HBNE:Hid (gs<wr.heap.size∧B<wr.heap.size):=⟨hgs2,by have:=HWr.o.size;have:=HQ2.o.lt;omega⟩;have HOL:Hid (∀k,vo.ownBlock=some k→k<wr.heap.size):=fun k hk=>(aF HO.o hk).2
   clear hba HO HS1 HWr z1 z2;generalize wr.alloc (.cells #[.int .i64 n.1,.int .i64 n.2] 24)=wa at HBn HOa HSa HWa ⊢;generalize wr.heap.size=qn at HBn HBNE HOL ⊢;obtain⟨nb,hnb⟩:∃b,decide ((n.1,n.2)=((0:Int),(0:Int)))=b:=⟨_,rfl⟩
   have HNB:=Hi hnb;have E:=fun w=>eq_idD n.1 n.2 0 0 w
   rw[hnb]at E;have n1:=cZ HBn.o 0 rfl;have n2:=cZ HBn.o 1 rfl
   clear hnb;go_upto_if 27 with fail
   go_cut [5] (fun s5 wc=>∃vo',vo'=s5∧Hid (wc.ownsRow (B+1) 24 2 vo' (if n=(0,0) then out else out++[n]).length (aE (if n=(0,0) then out else out++[n])))∧Hid (∀k,vo'.ownBlock=some k→k≠gs) ∧
    Hid (wc.ownsRow (B+1) 24 2 (.slice (some ⟨gs,0,none⟩) m caps) m (aE S))∧Hid (Blk wc qn 24 #[.int .i64 n.1,.int .i64 n.2])∧Hid (Below (B+1) w2 wc))
   case first =>
    cases nb with
    |true =>
     have hn0:n=(0,0):=of_decide_eq_true HNB.o;have HOb:Hid (wa.ownsRow (B+1) 24 2 vo (if n=(0,0) then out else out++[n]).length (aE (if n=(0,0) then out else out++[n]))):=by show World.ownsRow _ _ _ _ _ _ _;rw[if_pos hn0];exact HOa.o
     clear hn0;go_wp2_with fail
     go_meet
     case rel=>exact⟨vo,rfl,HOb,HNE2,HSa,HBn,HWa⟩
    |false =>
     have hn0:¬n=(0,0):=of_decide_eq_false HNB.o;have HN0:=Hi hn0;obtain⟨no,hno⟩:∃k,out.length=k:=⟨_,rfl⟩
     have HNO:=Hi hno;rw[hno]at HOa hbd;obtain⟨i0,hi,hz0,hz1,hz2⟩:=info_parts oR
     have hbs:B+1≤wa.heap.size:=by have:=HWa.o.size;have:=HQ2.o.lt;omega
     clear hn0 hno;go_wp2_with (at_builtin;refine aG _ rfl (.tmp 28) (.tmp 30) _ rfl (B+1) 24 i0 _ 2 16 Tryz.underlying28 hi hz0 hz1 hz2 rfl (by omega) (_) (no) (aE out) rfl (HOa.o.alloc _) _ (some ⟨wa.heap.size,0,none⟩) (1) (1) ([Value.int .i64 n.1,Value.int .i64 n.2]) rfl ((cJ (by exact Blk.new wa _ #[.int .i64 n.1,.int .i64 n.2]) (n:=2) rfl)) (aX [n]) ?c1 ?c2 ?c3 ?_)
     try case c1=>simp only[maxLen];omega
     try case c2=>omega
     try case c3=>simp;omega
     intro v4 w4 ho4 hg4 hat4;have hgr:Below (B+1) w2 w4:=(HWa.o.alloc (by have:=HWa.o.size;have:=HQ2.o.lt;omega) _).grown hg4 (by simp;omega) (fun k hk=>(aF HOa.o hk).1);have HO4:Hid (w4.ownsRow (B+1) 24 2 v4 (if n=(0,0) then out else out++[n]).length (aE (if n=(0,0) then out else out++[n]))):=by
      show World.ownsRow _ _ _ _ _ _ _;rw[if_neg HN0.o,sG,HNO.o,bC];simpa[aE] using ho4
     have HW4:=Hi hgr;have hkeep:∀k,k<wa.heap.size→vo.ownBlock≠some k→w4.heap[k]?=wa.heap[k]?:=fun k hk hne=>(hg4.block _ (by simp;omega) (fun e=>hne e.symm)).trans (sO _ _ _ hk)
     have hgl:gs<wa.heap.size:=Nat.lt_trans HBNE.o.1 HBn.o.lt;have HS4:=Hi (aU HSa.o fun k hk=>by
      cases hk;exact hkeep _ hgl (fun e=>HNE2.o _ e rfl))
     have HB4:=Hi (HBn.o.keep (hkeep _ HBn.o.lt (fun e=>Nat.lt_irrefl _ (HOL.o _ e))));have HNE4:Hid (∀k,v4.ownBlock=some k→k≠gs):=fun k hk=>by
      rcases hat4 with h|h
      ·rw[h]at hk;exact HNE2.o k hk
      ·rw[h]at hk;have hk:=tF hk;first|omega|(rw[World.size_alloc]at hk;omega)
     clear ho4 hg4 hat4 hgr hkeep hgl n1 n2 E;go_wp2_with fail
     go_meet
     case rel=>exact⟨v4,rfl,HO4,HNE4,HS4,HB4,HW4⟩
   case rest =>
    obtain⟨vo',rfl,HO4,HNE4,HS4,HB4,HW4⟩:=hcut
    clear n1 n2 E HOa HSa HWa HBn HNB HNE2 hw1 hw2 HOL;have hsz2:B+1≤w2.heap.size:=by have:=HQ2.o.lt;omega
    have HWW:Hid (Below B w wc):=HW2.o.trans (HW4.o.mono (yE _));have hwB:w.heap.size=B:=HB.o;have HCc:Hid (KidsAt wc cb C):=by have h:=HWW.o;rw[←hwB]at h;exact HC.o.below h
    have hgB:g<B:=by rw[←hwB];exact HG.o.lt
    have g2:=cZ (HG.o.keep (HWW.o.block _ hgB)) 2 rfl;have q1:=cZ (HQ2.o.keep (HW4.o.block _ (Nat.lt_succ_self _))) 0 rfl;have q2:=cZ (HQ2.o.keep (HW4.o.block _ (Nat.lt_succ_self _))) 1 rfl
    have n1:=cZ HB4.o 0 rfl;have n2:=cZ HB4.o 1 rfl
    have hnI:I64R n:=by
     by_cases hn0:n=(0,0)
     ·rw[hn0];exact⟨by omega,by omega⟩
     ·obtain⟨x,hx,hxe,-⟩:=HE.o.par n (by simp) hn0
      rw[←hxe];exact HID.o x hx
    obtain⟨Ak,ck,hlk,hrk⟩:=KidsAt.look (w:=wc.drew) (cb:=cb) (C:=C) (HCc.o.below (sB _ wc).drew) (x:=((o1,o2),⟨#[]⟩,n)) HOB.o hnI (vI _)
    obtain⟨ks,hks⟩:∃ks,kidsC C ((o1,o2),⟨#[]⟩,n)=ks:=⟨_,rfl⟩
    rw[hks]at hlk hrk;have HKS:Hid (ks.Perm (dN K (o1,o2) n)):=by have h:=HKK.o n;rw[hks]at h;exact h
    have hkl:ks.length≤100000:=by
     have h1:=HKS.o.length_eq;have h2:=kidIds_len (K:=K) (obj:=(o1,o2)) n;have h3:=HLN.o;omega
    have C1:=cloneI_any ks (fun k=>k<wc.drew.heap.size) Ak ck wc.drew hrk (fun _ h=>h) (by omega);have hbw:=fun w=>build_where o1 o2 n.1 n.2 w
    unfold whV at hlk;clear hks hnI hrk hgB;go_upto_region 8 with fail
    refine wp_region_still_tail 8 (by kernel_rfl) (by kernel_rfl) ?_;simp only[sV,tG,sY,tH];repeat (first|(refine aK rfl (fun K hK=>?_);go_simp;refine hK _ ?_;clear hK K)|(refine aO rfl ?_;go_frame))
    refine wpStill_nil ?_;change wpList _ _ _ _ _ wc.drew;have HOd:Hid (wc.drew.ownsRow (B+1) 24 2 vo' (if n=(0,0) then out else out++[n]).length (aE (if n=(0,0) then out else out++[n]))):=HO4.o.drew;have HSd:Hid (wc.drew.ownsRow (B+1) 24 2 (.slice (some ⟨gs,0,none⟩) m caps) m (aE S)):=HS4.o.drew;have HWd:Hid (Below (B+1) w2 wc.drew):=HW4.o.drew;clear g2 q1 q2 n1 n2 hlk hbw HO4 HS4 HW4 HB4 HCc HWW hwB;generalize wc.drew=w5 at HOd HSd HWd C1 ⊢;go_wp2_with fail
    go_at_call 60;refine C1.mono ?_;rintro e w6 ⟨A6,c6,rfl,ho6,hb6⟩;have HO6:=Hi (aS HOd.o hb6);have HS6:=Hi (aS HSd.o hb6);have HW6:Hid (Below (B+1) w2 w6):=HWd.o.trans (hb6.mono (by have:=HWd.o.size;omega));have C2:=sortOwnI A6 c6 ks w5.heap.size w6 ho6 (by omega);have HBL:Hid (B+1≤w5.heap.size∧gs<w5.heap.size∧∀k,vo'.ownBlock=some k→k<w5.heap.size):=⟨by have:=HWd.o.size;omega,(aF HSd.o rfl).2,fun k hk=>(aF HOd.o hk).2⟩;obtain⟨nk,hnk⟩:∃k,ks.length=k:=⟨_,rfl⟩
    have HNK:=Hi hnk;rw[hnk]at C2 hkl ⊢;have H56:Hid (w5.heap.size≤w6.heap.size):=hb6.size;clear C1 ho6 hb6 HOd HSd HWd hnk;go_wp2_with fail
    go_at_call 43;refine C2.mono ?_;rintro e w7 ⟨rfl,T,hTp,hTa,hTr,hch⟩;have HTP:Hid (T.Perm (dN K (o1,o2) n)):=hTp.trans HKS.o;have HTA:=Hi hTa;have HTR:=Hi hTr;have HTL:Hid (T.length=nk):=by show _=_;rw[hTp.length_eq,HNK.o]
    have hkp:∀k,k<w5.heap.size→k<w6.heap.size→w7.heap[k]?=w6.heap[k]?:=fun k hk hk6=>hch.block k hk6 (fun e=>by have:=e.2.1;omega)
    have h56:=H56.o;have HO7:=Hi (aU HO6.o fun k hk=>hkp k (HBL.o.2.2 k hk) (by have:=HBL.o.2.2 k hk;omega));have HS7:=Hi (aU HS6.o fun k hk=>hkp k (by cases hk;exact HBL.o.2.1) (by cases hk;have:=HBL.o.2.1;show gs<_;omega));have HW7:Hid (Below (B+1) w2 w7):=HW6.o.trans (hch.below (by have:=HBL.o.1;omega) fun k hk=>by have:=HBL.o.1;have:=hk.2.1;omega);have h67:=hch.size;have HV7:Hid (∀k,vo'.ownBlock=some k→k<w7.heap.size):=fun k hk=>by have:=HBL.o.2.2 k hk;omega
    have hbs7:B+1≤w7.heap.size:=by have:=HBL.o.1;omega
    have hmk:m≤100000:=by omega
    clear C2 hTp hTa hTr hch hkp h56 h67 HO6 HS6 HW6;obtain⟨i0,hi,hz0,hz1,hz2⟩:=info_parts oR
    go_wp2_with (at_builtin;refine aG _ rfl (.tmp 43) (.tmp 44) _ rfl (B+1) 24 i0 _ 2 16 Tryz.underlying28 hi hz0 hz1 hz2 rfl (by omega) (.slice (some ⟨gs,0,none⟩) m caps) (m) (aE S) rfl (HS7.o) _ (A6) (nk) (c6) (aE T) rfl (HTR.o) (aX _) ?c1 ?c2 ?c3 ?_)
    try case c1=>simp only[maxLen];omega
    try case c2=>omega
    try case c3=>exact hbs7
    intro v8 w8 ho8 hg8 hat8;have HS8:Hid (w8.ownsRow (B+1) 24 2 v8 (S++T).length (aE (S++T))):=by
     show World.ownsRow _ _ _ _ _ _ _;rw[sG,HMS.o,HTL.o,bC];exact ho8
    have HO8:=Hi (aU HO7.o fun k hk=>hg8.block k (HV7.o k hk) (fun e=>HNE4.o k hk (by cases e;rfl)));have HW8:Hid (Below (B+1) w2 w8):=HW7.o.grown hg8 hbs7 (fun k hk=>(aF HS7.o hk).1);have HNE8:Hid (∀k,vo'.ownBlock=some k→v8.ownBlock≠some k):=fun k hk e=>by
     rcases hat8 with h|h
     ·rw[h]at e;exact HNE4.o k hk (by cases e;rfl)
     ·rw[h]at e;have h1:=HV7.o k hk;have h2:=tF e;omega
    have HE8:Hid (ElI K (o1,o2) N (if n=(0,0) then out else out++[n]) (S++T)):=HE.o.step HK.o (sorted_falls HK.o HTP.o HTA.o);have HT0:Hid (((0,0):Rf)∉T):=fun hm=>by
     have h1:=((HK.o.kids (obj:=(o1,o2)) n).2.1 (0,0)).2 (HTP.o.mem_iff.1 hm);have h2:=(HK.o.kid h1).2.2.1;simp at h2
    have HF8:Hid (((0,0):Rf)∉S++T):=fun hm=>by
     rcases sI.1 hm with hm|hm
     ·rcases HF.o with⟨-,h,-⟩|⟨-,h⟩
      ·have:=congrArg List.length h
       simp only[sG,vY]at this;have h3:=List.length_pos_of_mem hm;omega
      ·exact h (tE _ hm)
     ·exact HT0.o hm
    have HME:Hid (2*((eP K (o1,o2) N (0,0)).length-(if n=(0,0) then out else out++[n]).length)<2*((eP K (o1,o2) N (0,0)).length-out.length)+1-(if n=(0,0) then 0 else 1)):=by
     show _<_;by_cases hn0:n=(0,0)
     ·rw[if_pos hn0,if_pos hn0];omega
     ·have h1:=HE8.o.short;rw[if_neg hn0]at h1;rw[if_neg hn0,if_neg hn0];rw[sG,vY]at h1 ⊢;omega
    clear ho8 hg8 hat8 HS7 HO7 HW7 HTR HTP HTA;go_wp2_with fail
    go_roundw
    case rel=>exact⟨(if n=(0,0) then out else out++[n]),S++T,vo',v8,rfl,rfl,HE8,HO8,HS8,HNE8,HW8,.inr ⟨rfl,HF8.o⟩⟩
    case measure =>
     obtain⟨Av,cv,hv,-,-,-⟩:=aC.of_own HO8.o
     have h1:slen vo'=(if n=(0,0) then out else out++[n]).length:=by rw[hv];rfl
     have h2:=HSL.o;have h3:=HME.o;rcases HF.o with⟨h4,h5,h6⟩|⟨h4,h5⟩
     ·have hn0:n=(0,0):=by
       have:=congrArg List.getLast? h5
       simpa using this
      rw[if_pos hn0,if_pos hn0]at h3;rw[h1,h2,h4,if_pos hn0];simp only[boxed];omega
     ·have hn0:¬n=(0,0):=fun e=>h5 (by rw[e];simp)
      rw[if_neg hn0,if_neg hn0]at h3;rw[h1,h2,h4,if_neg hn0];simp only[boxed];omega
end
section
open Go.RowKit
theorem same_rf{L:List ChD}(hn:(aB L).Nodup){b c:ChD}(hb:b∈L)(hc:c∈L)(e:b.rf=c.rf):b=c:=by
 have h1:=dX hn hb;have h2:=dX hn hc;rw[e,h2]at h1;exact(tF h1).symm
theorem behind_part{A L:List ChD}(hA:Bk A)(hL:Bk L)(hs:∀c∈A,c∈L){w:List Rf}(hw:∀r∈w,r∈aB A)(r:Rf):r∈aQ A w↔r∈aQ L w:=by
 have sub:∀ {q},q∈aB A→q∈aB L:=fun hq=>by
  obtain⟨c,hc,rfl⟩:=sH.1 hq
  exact cD (hs c hc)
 constructor
 ·intro h;refine iH (L:=A.reverse) (fun r=>r∈aQ L w) (fun q hq _=>mL hq (sub (hw q hq))) (fun c hc hb d hd _=>?_) r h;exact fK hL.top (uK.2 (hs c (uK.1 hc))) hb hd
 ·intro h;refine iH (L:=L.reverse) (fun r=>r∈aQ A w) (fun q hq _=>mL hq (hw q hq)) (fun c hc hb d hd _=>?_) r h;obtain⟨b,hb1,hb2⟩:=sH.1 (bQ hb)
  have hbc:b=c:=same_rf hL.nodup (hs b hb1) (uK.1 hc) hb2;subst hbc;exact fK hA.top (uK.2 hb1) hb hd
theorem Bk.split{L:List ChD}(h:Bk L):∀c∈L,∃A,Bk A∧(∀b∈A,b∈L)∧bE A c=true∧bS A c=true:=by
 induction h with
 |nil=>intro c hc;cases hc
 | @snoc L c hb he hw hn hr hf ih =>
   intro x hx;rcases sI.1 hx with hx|hx
   ·obtain⟨A,h1,h2,h3,h4⟩:=ih x hx
    exact⟨A,h1,fun b hb=>tE _ (h2 b hb),h3,h4⟩
   ·rw[sN.1 hx];exact⟨L,hb,fun b hb=>tE _ hb,hr,hf⟩
theorem behind_dup{L:List ChD}(hb:Bk L)(w:List Rf):∃S:List Rf,S.Nodup∧∀r,r∈S↔r∈aQ L w:=by
 refine⟨(aB L).filter (fun r=>decide (r∈aQ L w)),hb.nodup.filter _,fun r=>?_⟩
 rw[uH,decide_eq_true_eq];exact⟨fun h=>h.2,fun h=>⟨bQ h,h⟩⟩
theorem opsAt_part{A L:List ChD}(hA:(aB A).Nodup)(hL:(aB L).Nodup)(hs:∀c∈A,c∈L){r:Rf}(hr:r∈aB A):dT A r=dT L r:=by
 obtain⟨c,hc,rfl⟩:=sH.1 hr
 unfold dT;have h1:=dX hA hc;have h2:=dX hL (hs c hc);unfold ChD.rf at h1 h2 ⊢;rw[h1,h2]
theorem fits_part{A B L:List ChD}(hA:Bk A)(hB:Bk B)(hL:Bk L)(hAL:∀c∈A,c∈L)(hBL:∀c∈B,c∈L){c:ChD}(hrA:bE A c=true)(hrB:bE B c=true)(hf:bS A c=true):bS B c=true:=by
 obtain⟨S,hS,hSm⟩:=behind_dup hL c.deps
 have hSA:∀r,r∈S↔r∈aQ A c.deps:=fun r=>by rw[hSm r,behind_part hA hL hAL (gG hrA) r]
 have hSB:∀r,r∈S↔r∈aQ B c.deps:=fun r=>by rw[hSm r,behind_part hB hL hBL (gG hrB) r]
 have heq:S.flatMap (dT A)=S.flatMap (dT B):=cH fun r hr=>by
  rw[opsAt_part hA.nodup hL.nodup hAL (bQ ((hSA r).1 hr)),opsAt_part hB.nodup hL.nodup hBL (bQ ((hSB r).1 hr))]
 have hsubA:∀r∈S,r∈aB A:=fun r hr=>bQ ((hSA r).1 hr)
 have hin:eU A c S=true:=by rw[iZ hSA];exact hf
 unfold eU at hin;simp only[tB]at hin;obtain⟨⟨⟨h1,-⟩,h3⟩,-⟩:=hin
 have hk:=jV hA.nodup hS hsubA;have q1:∀r∈S,¬(r.1=c.a∧c.s≤r.2):=fun r hr=>by
  have:=tP.1 h1 r hr
  simp only[Bool.not_eq_true',Bool.and_eq_false_iff,decide_eq_false_iff_not]at this;rintro⟨a,b⟩
  rcases this with h|h
  ·exact h a
  ·exact h b
 have q2:∀x∈S.flatMap (dT A),x.2.1<c.st:=fun x hx=>by
  have:=tP.1 h3 x (hk.mem_iff.1 hx)
  simpa using this
 have e1:=fits_yes hA hS hSA (vP _) q1 q2;have e2:=fits_yes hB hS hSB (vP _) q1 (by rw[←heq];exact q2);rw[e2,←heq,←e1];exact hf
theorem Bk.reorder{L L':List ChD}(hb:Bk L)(hp:L'.Perm L)(hr:∀A c B,L'=A++c::B→∀d∈c.deps,d∈aB A):Bk L':=by
 have hn:(aB L').Nodup:=by
  unfold aB;exact(hp.map ChD.rf).nodup_iff.2 hb.nodup
 have key:∀n,n≤L'.length→Bk (L'.take n):=by
  intro n;induction n with
  |zero=>intro _;rw[tG];exact .nil
  |succ n ih =>
   intro hlt;obtain⟨c,hc⟩:∃c,L'[n]?=some c:=⟨_,sD (by omega)⟩
   have hA:=ih (by omega);have hcL:c∈L:=hp.mem_iff.1 (sJ hc);have hsplit:L'=L'.take n++c::L'.drop (n+1):=by
    obtain⟨h1,h2⟩:=sF.1 hc
    rw[←h2,xQ,uE]
   have hd:=hr _ _ _ hsplit;have hready:bE (L'.take n) c=true:=tP.2 fun d hdd=>decide_eq_true (hd d hdd)
   have hsub:∀b∈L'.take n,b∈L:=fun b hb'=>hp.mem_iff.1 (wV hb')
   have hnew:c.rf∉aB (L'.take n):=by
    rw[hsplit,cO,tQ]at hn;exact fun hm=>hn.2.2 _ hm c.rf (by simp[aB]) rfl
   obtain⟨A0,a1,a2,a3,a4⟩:=hb.split c hcL
   rw[sS,hc,uM];exact .snoc hA (hb.err c hcL).1 (hb.err c hcL).2 hnew hready (fits_part a1 hA hb a2 hsub a3 hready a4)
 have:=key L'.length (sC _)
 rwa [sL (sC _)]at this
theorem allGo_ready(L:List ChD):∀(n:Nat) (out:List ChD),(∀A c B,out=A++c::B→∀d∈c.deps,d∈aB A)→∀A c B,jO L n out=A++c::B→∀d∈c.deps,d∈aB A
 |0,out,h=>h
 |n+1,out,h=>by
  unfold jO;cases hl:cF (fW L out) L with
  |none=>exact h
  |some jr =>
   obtain⟨j,r⟩:=jr
   obtain⟨c,hc,hcr,hp,-⟩:=fO hl
   simp only[hc];refine allGo_ready L n (out++[c]) fun A x B e d hd=>?_
   rcases wO B with rfl|⟨B',y,rfl⟩
   ·obtain⟨e1,e2⟩:=List.append_inj' e rfl
    cases e2;rw[←e1];unfold fW at hp;rw[tB]at hp;exact of_decide_eq_true (tP.1 hp.2 d hd)
   ·rw[wP,←wQ,←sX]at e;obtain⟨e1,-⟩:=List.append_inj' e rfl
    exact h A x B' e1 d hd
theorem Bk.all{L:List ChD}(hb:Bk L):Bk (lH L) :=
 hb.reorder (all_perm hb) (allGo_ready L L.length [] fun A c B e=>by
  have:=congrArg List.length e
  simp at this)
theorem Bk.ahead{L:List ChD}(h:Bk L):∀P x Q,aH L=P++x::Q→∃K,cU x K=true∧∀y∈K,y∈P:=by
 induction h with
 |nil =>
  intro P x Q e;have:=congrArg List.length e
  simp[aH]at this
 | @snoc L c hb he hw hn hr hf ih =>
   intro P x Q e;rw[fA]at e;have hc1:aH [c]=c.opsI:=by simp[aH]
   rw[hc1]at e;rcases vF P.length (aH L).length with hlt|hge
   ·obtain⟨Q',e1,e2⟩:∃Q',aH L=P++x::Q'∧Q=Q'++c.opsI:=by
     have h1:=List.append_eq_append_iff.1 e;rcases h1 with⟨us,h2,h3⟩|⟨bs,h2,h3⟩
     ·have:=congrArg List.length h2
      rw[sG]at this;omega
     ·cases bs with
      |nil=>rw[h2]at hlt;simp at hlt
      |cons b bs=>simp at h3;exact⟨bs,by rw[h2,h3.1],h3.2⟩
    exact ih P x Q' e1
   ·obtain⟨pre,e1,e2⟩:∃pre,P=aH L++pre∧c.opsI=pre++x::Q:=by
     have h1:=List.append_eq_append_iff.1 e;rcases h1 with⟨us,h2,h3⟩|⟨bs,h2,h3⟩
     ·exact⟨us,h2,h3⟩
     ·have:=congrArg List.length h2
      rw[sG]at this;have hb0:bs=[]:=vD (by omega);subst hb0;exact⟨[],by rw[h2];simp,by simpa using h3.symm⟩
    simp only[bS,eU,tB]at hf;obtain⟨K,h5,h6⟩:=mG hf.2 (iY _ _ _) x (by rw[e2];simp)
    refine⟨K,h5,fun y hy=>?_⟩
    rw[e1,sI];rcases h6 y hy with h7|⟨h7,h8⟩
    ·obtain⟨b,hb1,hb2⟩:=vL.1 h7
     exact .inl (iI.2 ⟨b,(uH.1 hb1).1,hb2⟩)
    ·right;have hp:=iY c.a c.ops c.st;rw[e2]at h7;rw[show dY c.a c.st c.ops=pre++x::Q from e2]at hp;rcases sI.1 h7 with h9|h9
     ·exact h9
     ·obtain⟨-,hp2,-⟩:=List.pairwise_append.1 hp
      obtain⟨hp3,-⟩:=vO.1 hp2
      rcases sK.1 h9 with rfl|h10
      ·omega
      ·have:=hp3 y h10;omega
end
section
open Go.RowKit
def VD.add(v:VD)(d:Int):VD:=⟨v.k,IntKind.i64.wrap (v.n+d),v.t,v.a,v.b⟩
def wh0(x:OpI):Wh:=(eG x,x.1.key,elP x)
def wh1(x:OpI):Wh:=(eG x,x.1.key,dI x)
def fG(x:OpI):VD:=if x.1.k=2 then ⟨x.1.vk,x.1.vn,x.1.vt,x.2.1,x.2.2⟩ else ⟨x.1.vk,x.1.vn,x.1.vt,x.1.va,x.1.vb⟩
def fH(x:OpI)(E:List (Rf×VD))(p:Rf):List (Rf×VD) :=
 if x.1.k=4 then E.map fun e=>if e.1=p then (e.1,e.2.add x.1.vn) else e else E.filter fun e=>decide (e.1≠p)
def rQ(x:OpI)(E:List (Rf×VD)):List (Rf×VD):=if x.1.k=1∨x.1.k=2 then E++[(x.2,fG x)] else E
def doE(x:OpI)(E:List (Rf×VD)):List (Rf×VD):=rQ x (x.1.l.foldl (fH x) E)
abbrev StV:=List (Wh×List (Rf×VD))
def eY(S:StV)(w:Wh):List (Rf×VD):=match S.find? (fun e=>decide (e.1=w)) with|some e=>e.2|none=>[]
def eS(S:StV)(w:Wh):StV:=if ∃e∈S,e.1=w then S else S++[(w,[])]
def setV(S:StV)(w:Wh)(E:List (Rf×VD)):StV:=S.map fun e=>if e.1=w then (e.1,E) else e
def doV(S:StV)(x:OpI):StV:=setV (eS S (wh1 x)) (wh1 x) (doE x (eY S (wh1 x)))
def lA(K:List OpI):StV:=K.foldl doV []
theorem touchV_mem{S:StV}{w:Wh}: w∈(eS S w).map Prod.fst:=by
 unfold eS;split
 ·rename_i h;obtain⟨e,he,e1⟩:=h
  exact sH.2 ⟨e,he,e1⟩
 ·simp
theorem rX(S:StV)(w v:Wh):eY (eS S w) v=eY S v:=by
 unfold eS;split
 ·rfl
 ·rename_i h;unfold eY;rw[xI];cases hf:S.find? (fun e=>decide (e.1=v)) with
  |some e=>rfl
  |none =>
   by_cases e:w=v<;>simp[e]
theorem getPl_set(S:StV)(w v:Wh)(E:List (Rf×VD))(hw:w∈S.map Prod.fst):eY (setV S w E) v=if v=w then E else eY S v:=by
 unfold setV eY;rw[List.find?_map];have e1:((fun e:Wh×List (Rf×VD)=>decide (e.1=v))∘fun e=>if e.1=w then (e.1,E) else e)=fun e=>decide (e.1=v):=by
  funext e;show decide ((if e.1=w then (e.1,E) else e).1=v)=_;split<;>rfl
 rw[e1];cases hf:S.find? (fun e=>decide (e.1=v)) with
 |none =>
  by_cases e:v=w
  ·obtain⟨x,hx,hxw⟩:=sH.1 hw
   have:=uR.1 hf x hx
   rw[e,hxw]at this;simp at this
  ·rw[if_neg e];rfl
 |some x =>
  have hx:x.1=v:=by simpa using vR hf
  by_cases e:v=w
  ·rw[if_pos e];simp[hx,e]
  ·rw[if_neg e];simp[hx,e]
theorem getPl_do(S:StV)(x:OpI)(v:Wh):eY (doV S x) v=if v=wh1 x then doE x (eY S v) else eY S v:=by
 unfold doV;rw[getPl_set _ _ _ _ touchV_mem,rX];split
 ·rename_i h;rw[h]
 ·rfl
theorem getPl_new(K:List OpI):∀(S:StV) (v:Wh),eY (K.foldl doV S) v=(K.filter fun x=>decide (wh1 x=v)).foldl (fun E x=>doE x E) (eY S v):=by
 induction K with
 |nil=>intro S v;rfl
 |cons x K ih =>
  intro S v;rw[uZ,ih,getPl_do];by_cases h:wh1 x=v
  ·rw[if_pos h.symm,uI (by simpa using h),uZ]
  ·rw[if_neg (fun e=>h e.symm),uJ (by simpa using h)]
def gJ(K:List OpI)(n:Rf):Bool:=K.any fun y=>decide (y.1.k≠4)&&decide (n∈y.1.l)
def iR(K:List OpI)(n:Rf):Int:=(K.map fun y=>if y.1.k=4 then (y.1.l.count n:Int)*y.1.vn else 0).sum
def gQ(K:List OpI)(x:OpI):VD:=(fG x).add (iR K x.2)
def cB(K:List OpI)(w:Wh)(x:OpI):Bool:=decide (wh1 x=w)&&(decide (x.1.k=1)||decide (x.1.k=2))&&!gJ K x.2
def atV(K:List OpI)(w:Wh):List (Rf×VD):=(K.filter (cB K w)).map fun x=>(x.2,gQ K x)
theorem overP_snoc(K:List OpI)(x:OpI)(n:Rf):gJ (K++[x]) n=(gJ K n||decide (x.1.k≠4)&&decide (n∈x.1.l)):=by
 unfold gJ;rw[List.any_append];simp
theorem kQ(K:List OpI)(x:OpI)(n:Rf):iR (K++[x]) n=iR K n+if x.1.k=4 then (x.1.l.count n:Int)*x.1.vn else 0:=by
 unfold iR;rw[sQ,List.sum_append];simp
theorem wrap_congr{a b:Int}(h:a % 18446744073709551616=b % 18446744073709551616):IntKind.i64.wrap a=IntKind.i64.wrap b:=by
 have h':a % 2 ^ IntKind.i64.bits=b % 2 ^ IntKind.i64.bits:=h;unfold IntKind.wrap;simp only[h']
theorem wrap_mod(a:Int):∃t,IntKind.i64.wrap a=a+18446744073709551616*t:=by
 simp only[IntKind.wrap,IntKind.bits,IntKind.signed,wG,decide_eq_true_eq,Nat.reduceSub,Int.reducePow];split
 ·exact⟨-(a / 18446744073709551616)-1,by omega⟩
 ·exact⟨-(a / 18446744073709551616),by omega⟩
theorem qI(a b:Int):IntKind.i64.wrap (IntKind.i64.wrap a+b)=IntKind.i64.wrap (a+b):=by
 obtain⟨t,ht⟩:=wrap_mod a
 rw[ht];apply wrap_congr;rw[show a+18446744073709551616*t+b=(a+b)+18446744073709551616*t from by omega,Int.add_mul_emod_self_left]
theorem VD.add_add(v:VD)(a b:Int):(v.add a).add b=v.add (a+b):=by
 unfold VD.add;rw[qI,Int.add_assoc]
theorem VD.add_zero{v:VD}(h:IntKind.i64.wrap v.n=v.n):v.add 0=v:=by
 unfold VD.add;rw[Int.add_zero,h]
theorem VD.add_wf(v:VD)(a:Int):IntKind.i64.wrap (v.add a).n=(v.add a).n:=by
 have:=qI (v.n+a) 0
 simpa[VD.add] using this
theorem preds_inc{x:OpI}(hk:x.1.k=4):∀(l:List Rf) (E:List (Rf×VD)),(∀e∈E,IntKind.i64.wrap e.2.n=e.2.n) →
 l.foldl (fH x) E=E.map fun e=>(e.1,e.2.add ((l.count e.1:Int)*x.1.vn))
 | [],E,h=>by
   rw[List.foldl_nil]
   conv=>lhs;rw[←xF E]
   apply uP;intro e he;rw[List.count_nil,Int.natCast_zero,Int.zero_mul,VD.add_zero (h e he)];rfl
 |p::l,E,h=>by
  rw[uZ];have e1:fH x E p=E.map fun e=>if e.1=p then (e.1,e.2.add x.1.vn) else e:=by unfold fH;rw[if_pos hk]
  rw[e1,preds_inc hk l _ (fun e he=>by
   obtain⟨d,hd,rfl⟩:=sH.1 he
   split
   ·exact VD.add_wf _ _
   ·exact h d hd),vG]
  apply uP;intro e he;simp only[Function.comp];by_cases ep:e.1=p
  ·have e2:x.1.vn+(l.count e.1:Int)*x.1.vn=((p::l).count e.1:Int)*x.1.vn:=by
    rw[ep,List.count_cons_self,Int.natCast_add,Int.add_mul];simp only[Int.natCast_one,Int.one_mul];omega
   rw[if_pos ep];show(e.1,(e.2.add x.1.vn).add ((l.count e.1:Int)*x.1.vn))=_
   rw[VD.add_add,e2]
  ·rw[if_neg ep,List.count_cons_of_ne (fun e=>ep e.symm)]
theorem preds_del{x:OpI}(hk:x.1.k≠4):∀(l:List Rf) (E:List (Rf×VD)),l.foldl (fH x) E=E.filter fun e=>decide (e.1∉l)
 | [],E=>by rw[List.foldl_nil];exact(vX.2 (by simp)).symm
 |p::l,E=>by
  rw[uZ,preds_del hk l];unfold fH;rw[if_neg hk,List.filter_filter];apply wX;intro e _;simp only[sK,not_or,ne_eq,Bool.decide_and];rw[Bool.and_comm]
structure Rows1(K:List OpI):Prop where
 nd:(K.map Prod.snd).Nodup
 may:∀P x Q,K=P++x::Q→∃K',cU x K'=true∧∀y∈K',y∈P
 wf:∀x∈K,IntKind.i64.wrap x.1.vn=x.1.vn
 kd:∀x∈K,1≤x.1.k∧x.1.k≤4
theorem Rows1.take{K P Q:List OpI}(h:Rows1 K)(e:K=P++Q):Rows1 P :=
 ⟨(h.nd.sublist (by rw[e,sQ];exact List.sublist_append_left _ _)),fun A x B e2=>h.may A x (B++Q) (by rw[e,e2];simp),fun x hx=>h.wf x (by rw[e];exact tE _ hx),fun x hx=>h.kd x (by rw[e];exact tE _ hx)⟩
theorem Rows1.pred{K P Q:List OpI}{x:OpI}(h:Rows1 K)(e:K=P++x::Q){p:Rf}(hp:p∈x.1.l):∃y∈P,y.2=p∧wh1 y=wh1 x∧y.1.k≤2∧(x.1.k=4→y.1.k=1∧y.1.vk=4):=by
 obtain⟨K',h1,h2⟩:=h.may P x Q e
 unfold cU at h1;cases hk:eR x K' with
 |none=>rw[hk]at h1;cases h1
 |some kd =>
  rw[hk]at h1;simp only[tB]at h1;have h3:=tP.1 h1.2 p hp;unfold bM at h3;cases hl:cE K' p with
  |none=>rw[hl]at h3;cases h3
  |some y =>
   rw[hl]at h3;obtain⟨h4,h5⟩:=oO hl
   simp only[tB,Bool.not_eq_true',decide_eq_false_iff_not,gF,decide_eq_true_eq,Bool.and_eq_false_iff,Bool.or_eq_false_iff,Decidable.not_not]at h3;obtain⟨⟨h6,⟨h7,h8⟩,h9⟩,h10⟩:=h3
   refine⟨y,h2 y h4,h5,?_,by omega,fun hx4=>?_⟩
   ·unfold wh1;rw[h7,h8,h9]
   ·rcases h10 with h|h
    ·exact(h hx4).elim
    ·exact h
theorem values_are{K:List OpI}(h:Rows1 K)(w:Wh):(K.filter fun x=>decide (wh1 x=w)).foldl (fun E x=>doE x E) []=atV K w:=by
 have key:∀n,n≤K.length→((K.take n).filter fun x=>decide (wh1 x=w)).foldl (fun E x=>doE x E) []=atV (K.take n) w:=by
  intro n;induction n with
  |zero=>intro _;rfl
  |succ n ih =>
   intro hn;obtain⟨x,hx⟩:∃x,K[n]?=some x:=⟨_,sD (by omega)⟩
   have ih:=ih (by omega);have hsp:K=K.take n++x::K.drop (n+1):=by
    obtain⟨h1,h2⟩:=sF.1 hx
    rw[←h2,xQ,uE]
   have hxm:x∈K:=sJ hx;have hP:=h.take (Q:=x::K.drop (n+1)) hsp;have hpred:=fun p hp=>h.pred hsp (p:=p) hp
   rw[sS,hx,uM];generalize K.take n=P at *;have hnx:x.2∉P.map Prod.snd:=by
    have h1:=h.nd;rw[hsp,sQ,tQ]at h1;exact fun hm=>h1.2.2 _ hm x.2 (by simp) rfl
   have hself:∀y∈P,x.2∉y.1.l:=fun y hy hm=>by
    obtain⟨A,B,e⟩:=vH hy
    obtain⟨z,hz,e2,-⟩:=hP.pred e hm
    exact hnx (sH.2 ⟨z,by rw[e];exact tE _ hz,e2⟩)
   have hxl:x.2∉x.1.l:=fun hm=>by
    obtain⟨z,hz,e2,-⟩:=hpred _ hm
    exact hnx (sH.2 ⟨z,hz,e2⟩)
   -- those of P,seen behind x
   have hlive:∀y∈P,cB (P++[x]) w y=(cB P w y&&!(decide (x.1.k≠4)&&decide (y.2∈x.1.l))):=fun y _=>by
    unfold cB;rw[overP_snoc,Bool.not_or,Bool.and_assoc,Bool.and_assoc,Bool.and_assoc]
   have hplace:∀y∈P,y.2∈x.1.l→wh1 y=wh1 x:=fun y hy hm=>by
    obtain⟨z,hz,e2,e3,-⟩:=hpred _ hm
    rw[←qY hP.nd hz hy e2];exact e3
   have hover0:gJ (P++[x]) x.2=false:=by
    rw[overP_snoc];have h1:gJ P x.2=false:=by
     unfold gJ;rw[List.any_eq_false];intro y hy;simp[hself y hy]
    rw[h1];simp[hxl]
   have hinc0:iR (P++[x]) x.2=0:=by
    rw[kQ];have h1:iR P x.2=0:=by
     unfold iR;have:∀l:List OpI,(∀y∈l,x.2∉y.1.l)→(l.map fun y=>if y.1.k=4 then (y.1.l.count x.2:Int)*y.1.vn else 0).sum=0:=by
      intro l;induction l with
      |nil=>intro _;rfl
      |cons y l ihl =>
       intro hl;rw[sT,List.sum_cons,ihl (fun z hz=>hl z (tS _ hz)),wW (hl y (tA ..))];simp
     exact this P hself
    rw[h1,wW hxl];simp
   have hwfx:IntKind.i64.wrap (fG x).n=(fG x).n:=by
    have:=h.wf x hxm
    unfold fG;split<;>exact this
   have hvx:gQ (P++[x]) x=fG x:=by
    unfold gQ;rw[hinc0,VD.add_zero hwfx]
   rw[uN];by_cases hw:wh1 x=w
   ·rw[show [x].filter (fun x=>decide (wh1 x=w))=[x] from by simp[hw],xV,ih,uZ,List.foldl_nil];unfold atV;rw[uN,sQ];by_cases hk4:x.1.k=4
    ·have hl1:[x].filter (cB (P++[x]) w)=[]:=by simp[cB,hk4]
     have hl2:P.filter (cB (P++[x]) w)=P.filter (cB P w):=wX fun y hy=>by rw[hlive y hy];simp[hk4]
     rw[hl1,hl2];unfold doE rQ;rw[if_neg (by omega),preds_inc hk4 _ _ (fun e he=>by
      obtain⟨y,hy,rfl⟩:=sH.1 he
      exact VD.add_wf _ _),vG,vM,uL]
     apply uP;intro y _;simp only[Function.comp,gQ];rw[VD.add_add,kQ,if_pos hk4]
    ·have hl2:P.filter (cB (P++[x]) w)=(P.filter (cB P w)).filter fun y=>decide (y.2∉x.1.l):=by
      rw[List.filter_filter];exact wX fun y hy=>by rw[hlive y hy];simp[hk4,Bool.and_comm]
     have hv:∀y∈P,gQ (P++[x]) y=gQ P y:=fun y _=>by
      unfold gQ;rw[kQ,if_neg hk4,Int.add_zero]
     unfold doE rQ;rw[preds_del hk4];have hmap:(List.map (fun x=>(x.2,gQ P x)) (P.filter (cB P w))).filter (fun e=>decide (e.1∉x.1.l))=(P.filter (cB (P++[x]) w)).map fun y=>(y.2,gQ (P++[x]) y):=by
      rw[List.filter_map,hl2];apply uP;intro y hy;rw[hv y (uH.1 (uH.1 hy).1).1]
     rw[hmap];by_cases hk:x.1.k=1∨x.1.k=2
     ·rw[if_pos hk,show [x].filter (cB (P++[x]) w)=[x] from by simp[cB,hw,hk,hover0],sT,vM,hvx]
     ·rw[if_neg hk,show [x].filter (cB (P++[x]) w)=[] from by simp[cB,hk],vM,uL]
   ·rw[show [x].filter (fun x=>decide (wh1 x=w))=[] from by simp[hw],uL,ih];unfold atV;rw[uN,show [x].filter (cB (P++[x]) w)=[] from by simp[cB,hw],uL];have hno:∀y∈P,cB P w y=true→y.2∉x.1.l:=fun y hy hl hm=>by
     have:=hplace y hy hm
     simp only[cB,tB,decide_eq_true_eq]at hl;exact hw (this.symm.trans hl.1.1)
    have hl2:P.filter (cB (P++[x]) w)=P.filter (cB P w):=wX fun y hy=>by
     rw[hlive y hy];cases hl:cB P w y with
     |false=>rfl
     |true=>simp[hno y hy hl]
    rw[hl2];apply uP;intro y hy;obtain⟨hy1,hy2⟩:=uH.1 hy
    unfold gQ;rw[kQ,wW (hno y hy1 hy2)];simp
 have:=key K.length (sC _)
 rwa [sL (sC _)]at this
end
section
open Go.RowKit
abbrev StC:=List (Wh×List Rf)
def gM(S:StC)(w:Wh):List Rf:=match S.find? (fun e=>decide (e.1=w)) with|some e=>e.2|none=>[]
def lS(S:StC)(w:Wh)(r:Rf):StC:=if ∃e∈S,e.1=w then S.map (fun e=>if e.1=w then (e.1,e.2++[r]) else e) else S++[(w,[r])]
def doC(S:StC)(x:OpI):StC:=if x.1.ins=true then lS S (wh0 x) x.2 else S
def lZ(K:List OpI):StC:=K.foldl doC []
theorem getKi_map(S:StC)(w w':Wh)(r:Rf)(h:∃e∈S,e.1=w):gM (S.map fun e=>if e.1=w then (e.1,e.2++[r]) else e) w'=if w'=w then gM S w++[r] else gM S w':=by
 induction S with
 |nil=>obtain⟨e,he,-⟩:=h;cases he
 |cons a S ih =>
  by_cases ha:a.1=w
  ·by_cases hw:w'=w
   ·subst hw;simp[gM,ha]
   ·have hne:¬a.1=w':=fun e=>hw (by rw[←e,ha])
    have hne':¬w=w':=fun e=>hw e.symm
    rw[if_neg hw];by_cases hS:∃e∈S,e.1=w
    ·have:=ih hS
     rw[if_neg hw]at this;unfold gM at this ⊢;simpa[ha,hne'] using this
    ·have he:(S.map fun e=>if e.1=w then (e.1,e.2++[r]) else e)=S:=by
      conv=>rhs;rw[←xF S]
      exact uP fun e he=>by rw[if_neg fun h=>hS ⟨e,he,h⟩];rfl
     unfold gM;rw[sT,he];simp[ha,hne']
  ·have hS:∃e∈S,e.1=w:=by
    obtain⟨e,he,h1⟩:=h
    rcases sK.1 he with h2|h2
    ·exact(ha (h2▸h1)).elim
    ·exact⟨e,h2,h1⟩
   have:=ih hS
   by_cases hw:a.1=w'
   ·have hne:¬w'=w:=fun e=>ha (hw.trans e)
    rw[if_neg hne];simp[gM,ha,hw,hne]
   ·by_cases h1:w'=w
    ·subst h1;unfold gM at this ⊢;simpa[ha] using this
    ·rw[if_neg h1]at this ⊢;unfold gM at this ⊢;simpa[ha,hw] using this
theorem getKi_put(S:StC)(w w':Wh)(r:Rf):gM (lS S w r) w'=if w'=w then gM S w++[r] else gM S w':=by
 unfold lS;split
 ·rename_i h;exact getKi_map S w w' r h
 ·rename_i h;have hn:S.find? (fun e=>decide (e.1=w))=none:=uR.2 fun e he=>by simpa using fun h1=>h ⟨e,he,h1⟩
  unfold gM;by_cases hw:w'=w
  ·subst hw;rw[xI,hn];simp
  ·rw[xI,if_neg hw];have:[(w,[r])].find? (fun e=>decide (e.1=w'))=none:=by simp[Ne.symm hw]
   rw[this];simp
theorem newC_at(K:List OpI)(w:Wh):gM (lZ K) w=(K.filter fun x=>decide (x.1.ins=true∧wh0 x=w)).map Prod.snd:=by
 suffices h:∀(l:List OpI) (S:StC),gM (l.foldl doC S) w=gM S w++(l.filter fun x=>decide (x.1.ins=true∧wh0 x=w)).map Prod.snd by
  have:=h K []
  simpa[lZ,gM] using this
 intro l;induction l with
 |nil=>intro S;simp
 |cons x l ih =>
  intro S;rw[uZ,ih,xN];unfold doC;by_cases hi:x.1.ins=true
  ·rw[if_pos hi,getKi_put];by_cases hw:wh0 x=w
   ·rw[if_pos hw.symm,if_pos (by simp[hi,hw]),sT,sX,hw];rfl
   ·rw[if_neg (Ne.symm hw),if_neg (by simp[hw])]
  ·rw[if_neg hi,if_neg (by simp[hi])]
theorem newC_kids{K:List OpI}{obj:Rf}(h:∀x∈K,eG x=obj→x.1.key=⟨#[]⟩)(n:Rf):gM (lZ K) (obj,⟨#[]⟩,n)=dN K obj n:=by
 rw[newC_at,dN];congr 1;refine wX fun x hx=>?_
 unfold jL wh0;by_cases ho:eG x=obj
 ·have hk:=h x hx ho;by_cases hi:x.1.ins=true<;>by_cases he:elP x=n<;>simp[ho,hk,hi,he]
 ·by_cases hi:x.1.ins=true<;>simp[ho,hi]
end
section
open Go.RowKit
abbrev StK:=List (Rf×Int)
def fN(K:List OpI):StK:=((0,0),5)::(K.filter fun x=>decide (x.1.k=2)).map fun x=>(x.2,x.1.vk)
def getKd(S:StK)(o:Rf):Int:=match S.find? (fun e=>decide (e.1=o)) with|some e=>e.2|none=>0
theorem newK_snoc(K:List OpI)(x:OpI):fN (K++[x])=if x.1.k=2 then fN K++[(x.2,x.1.vk)] else fN K:=by
 unfold fN;rw[uN];by_cases h:x.1.k=2
 ·rw[if_pos h,uI (by simpa using h)];simp
 ·rw[if_neg h,uJ (by simpa using h)];simp
theorem newK_keys{K:List OpI}{e:Rf×Int}(h:e∈fN K):e.1=(0,0)∨e.1∈K.map Prod.snd:=by
 rcases sK.1 h with rfl|h
 ·exact .inl rfl
 ·obtain⟨x,hx,rfl⟩:=sH.1 h
  exact .inr (sH.2 ⟨x,(uH.1 hx).1,rfl⟩)
theorem newK_at{K:List OpI}(hn:(K.map Prod.snd).Nodup)(o:Rf):getKd (fN K) o=dG K o:=by
 by_cases h0:o=(0,0)
 ·subst h0;simp[getKd,fN,dG]
 ·unfold dG fN getKd;rw[if_neg h0,List.find?_cons_of_neg (by simpa using fun e=>h0 e.symm)];clear h0;induction K with
  |nil=>rfl
  |cons x K ih =>
   rw[sT,tN]at hn;have ih:=ih hn.2;by_cases ho:x.2=o
   ·have hl:cE (x::K) o=some x:=by unfold cE;rw[List.find?_cons_of_pos (by simpa using ho)]
    rw[hl];by_cases hk:x.1.k=2
    ·rw[uI (by simpa using hk),sT,List.find?_cons_of_pos (by simpa using ho)];simp[hk]
    ·rw[uJ (by simpa using hk)];have hno:((K.filter fun x=>decide (x.1.k=2)).map fun x=>(x.2,x.1.vk)).find? (fun e=>decide (e.1=o))=none:=by
      refine uR.2 fun e he=>?_
      obtain⟨y,hy,rfl⟩:=sH.1 he
      have hy:=(uH.1 hy).1;simp only[decide_eq_true_eq];intro h;exact hn.1 (sH.2 ⟨y,hy,h.trans ho.symm⟩)
     rw[hno];simp[hk]
   ·have hl:cE (x::K) o=cE K o:=by unfold cE;rw[List.find?_cons_of_neg (by simpa using ho)]
    rw[hl,←ih];by_cases hk:x.1.k=2
    ·rw[uI (by simpa using hk),sT,List.find?_cons_of_neg (by simpa using ho)]
    ·rw[uJ (by simpa using hk)]
end
section
def vlV(v:VD):Value:=.agg #[.int .i64 v.k,.int .i64 v.n,.string v.t,.int .i64 v.a,.int .i64 v.b]
abbrev dM:=List (Wh×Nat×List (Rf×VD))
def jI(C:dE):List Nat:=C.filterMap fun x=>x.2.1.ownBlock
def dL(g kb vb cb lb:Nat)(V:dM)(C:dE):List Nat:=g::kb::vb::cb::lb::(V.map fun x=>x.2.1)++jI C
structure SMem(B:Nat)(w:World)(g kb vb cb lb:Nat)(K:List OpI)(V:dM)(C:dE):Prop where
 blk:Blk w g 100 #[.map (some kb),.map (some vb),.map (some cb),.map (some lb)]
 kinds:aI w 24 kb ((fN K).map fun e=>(bB e.1,.int .i64 e.2))
 vals:aI w 126 vb (V.map fun x=>(whV x.1,.map (some x.2.1)))
 each:∀x∈V,aI w 24 x.2.1 (x.2.2.map fun e=>(bB e.1,vlV e.2))
 isV:V.map (fun x=>(x.1,x.2.2))=lA K
 kids:aI w 126 cb (C.map fun x=>(whV x.1,x.2.1))
 row:∀x∈C,w.ownsRow B 24 2 x.2.1 x.2.2.length (aE x.2.2)
 isC:C.map (fun x=>(x.1,x.2.2))=lZ K
 lists:aI w 24 lb ((K.filter fun x=>x.1.ins).map fun x=>(bB x.2,bB (eG x)))
 low:∀k∈dL g kb vb cb lb V C,B≤k
 apart:(dL g kb vb cb lb V C).Nodup
theorem SMem.kidsAt{B:Nat}{w:World}{g kb vb cb lb:Nat}{K:List OpI}{V:dM}{C:dE}(h:SMem B w g kb vb cb lb K V C):KidsAt w cb C :=
 ⟨h.kids,fun x hx=>by
  have h1:=h.row x hx;obtain⟨A,c,e,-,-,hr⟩:=aC.of_own h1
  exact⟨A,c,e,hr.more fun k hk=>(aF h1 hk).2⟩⟩
theorem SMem.kidsC{B:Nat}{w:World}{g kb vb cb lb:Nat}{K:List OpI}{V:dM}{C:dE}(h:SMem B w g kb vb cb lb K V C)(x:Wh):Go.Proofs.YtmpkejflgpodkaaGreatDoor.kidsC C x=gM (lZ K) x:=by
 rw[←h.isC];unfold Go.Proofs.YtmpkejflgpodkaaGreatDoor.kidsC gM;rw[List.find?_map];cases hf:C.find? (fun y=>decide (y.1=x)) with
 |some y=>rw[show((fun e:Wh×List Rf=>decide (e.1=x))∘fun x:Wh×Value×List Rf=>(x.1,x.2.2))=fun y=>decide (y.1=x) from rfl,hf];rfl
 |none=>rw[show((fun e:Wh×List Rf=>decide (e.1=x))∘fun x:Wh×Value×List Rf=>(x.1,x.2.2))=fun y=>decide (y.1=x) from rfl,hf];rfl
theorem rK{K:List OpI}(N:Int)(o1 o2:Int){B g kb vb cb lb:Nat}{V:dM}{C:dE}(w:World)(hm:SMem B w g kb vb cb lb K V C)(hK:KTree K N)(hids:∀x∈K,I64R x.2)(ho:I64R (o1,o2))(hl:K.length≤100000)(hk:∀x∈K,eG x=(o1,o2)→x.1.key=⟨#[]⟩):
 Calls Tryz.prog 34 #[.pointer (some ⟨g,0,none⟩),.agg #[.int .i64 o1,.int .i64 o2]] w fun e w'=>∃v,e=.returned v ∧
  w'.ownsRow w.heap.size 24 2 v (eP K (o1,o2) N (0,0)).length (aE (eP K (o1,o2) N (0,0)))∧Below w.heap.size w w' :=
 elems_any K N o1 o2 C g cb _ _ _ w hK hids ho hl hm.blk hm.kidsAt fun n=>by
  have h1:=hm.kidsC ((o1,o2),⟨#[]⟩,n);rw[newC_kids hk n]at h1;exact h1▸vP _
theorem mP{a b:Rf}(h:bB a=bB b):a=b:=by
 obtain⟨a1,a2⟩:=a
 obtain⟨b1,b2⟩:=b
 simpa[bB] using h
theorem zero_int(w:World):(zeroValue 3).run Tryz.prog w=.ok (.int .i64 0) w:=by kernel_rfl
theorem SMem.kind{B:Nat}{w:World}{g kb vb cb lb:Nat}{K:List OpI}{V:dM}{C:dE}(h:SMem B w g kb vb cb lb K V C)(hn:(K.map Prod.snd).Nodup){o:Rf}(ho:I64R o):
 (Instr.lookup 95 (.map (some kb)) (bB o) false).run Tryz.prog w=.ok (.int .i64 (dG K o)) w:=by
 rw[←newK_at hn o];unfold getKd;cases hf:(fN K).find? (fun e=>decide (e.1=o)) with
 |some e =>
  have he:=uB hf;have h1:e.1=o:=by simpa using vR hf
  exact aI.hit h.kinds dW Tryz.underlying95 (zero_int w) (sH.2 ⟨e,he,by rw[h1]⟩) false
 |none =>
  obtain⟨kl,hkl⟩:=gU ho
  exact aI.miss h.kinds dW Tryz.underlying95 (zero_int w) hkl (fun p hp e=>by
   obtain⟨y,hy,rfl⟩:=sH.1 hp
   have:=uR.1 hf y hy
   rw[mP e]at this;simp at this) false
end
section
theorem bF.cell1{w:World}{g:Nat}{l:List Rf}(h:bF w g l){k:Nat}{r:Rf}(hr:l[k]?=some r):w.cell? ⟨g,k*2,none⟩=some (.int .i64 r.1):=(h _ _ (aL hr).1).1
theorem bF.cell2{w:World}{g:Nat}{l:List Rf}(h:bF w g l){k:Nat}{r:Rf}(hr:l[k]?=some r):w.cell? ⟨g,k*2+1,none⟩=some (.int .i64 r.2):=(h _ _ (aL hr).2).1
theorem refC_cons(r:Rf)(l:List Rf):aE (r::l)=[.int .i64 r.1,.int .i64 r.2]++aE l:=by simp[aE]
theorem bF.set{w:World}{g:Nat}{l:List Rf}(h:bF w g l)(k:Nat)(r:Rf)(hk:k<l.length):bF ((w.setCell ⟨g,k*2,none⟩ (.int .i64 r.1)).setCell ⟨g,k*2+1,none⟩ (.int .i64 r.2)) g (l.set k r):=by
 have ew:(w.setCell ⟨g,k*2,none⟩ (.int .i64 r.1)).setCell ⟨g,k*2+1,none⟩ (.int .i64 r.2)=w.setCells g (k*2) [.int .i64 r.1,.int .i64 r.2]:=rfl;rw[ew];intro j u hu;have e1:l.set k r=l.take k++r::l.drop (k+1):=by rw[List.set_eq_take_append_cons_drop,if_pos hk]
 have e2:l=l.take k++l[k]::l.drop (k+1):=by rw[←tJ hk,uE]
 have hlt:(aE (l.take k)).length=k*2:=by rw[aY,tD];omega
 have H:∀j u,(aE l)[j]?=some u→w.cell? ⟨g,j,none⟩=some u∧w.frozen? ⟨g,j,none⟩=false:=h;rw[e2,bC,refC_cons]at H;rw[e1,bC,refC_cons]at hu;have hz:∀i,i<2→(w.cell? ⟨g,k*2+i,none⟩).isSome=true∧w.frozen? ⟨g,k*2+i,none⟩=false:=by
  intro i hi;have:=H (k*2+i) (if i=0 then .int .i64 l[k].1 else .int .i64 l[k].2) (by
   rw[tR (by omega),hlt,show k*2+i-k*2=i from by omega]
   match i,hi with
   |0,_=>rfl
   |1,_=>rfl)
  exact⟨by rw[this.1];rfl,this.2⟩
 rcases vF j (k*2) with hj|hj
 ·rw[tU (by omega)]at hu;have:=H j u (by rw[tU (by omega)];exact hu)
  rw[vT,wT g _ _ _ _ (fun _ _=>.inl hj)];exact this
 ·rw[tR (by omega),hlt]at hu;rcases vF j (k*2+2) with hj2|hj2
  ·obtain⟨i,hi,rfl⟩:∃i,i<2∧j=k*2+i:=⟨j-k*2,by omega,by omega⟩
   rw[show k*2+i-k*2=i from by omega,tU (by simpa using hi)]at hu;rw[vT,World.cell?_setCells_in g [.int .i64 r.1,.int .i64 r.2] (k*2) w (fun j hj=>(hz j (by simpa using hj)).1) i (by simpa using hi)];refine⟨?_,(hz i hi).2⟩
   rw[sD (by simpa using hi)]at hu;exact hu
  ·rw[tR (by simp;omega)]at hu;have:=H j u (by rw[tR (by omega),hlt,tR (by simp;omega)];exact hu)
   rw[vT,wT g _ _ _ _ (fun _ _=>.inr (by simpa using hj2))];exact this
theorem bF.cleared{w:World}{g:Nat}{l:List Rf}(h:bF w g l)(m:Nat)(vs:List Value):bF (w.setCells g (m*2) vs) g (l.take m):=by
 intro j u hu;have hl:(aE (l.take m)).length≤m*2:=by rw[aY,tD];omega
 have hj:j<(aE (l.take m)).length:=(sF.1 hu).1;have e:aE l=aE (l.take m)++aE (l.drop m):=by rw[←bC,uE]
 have:=h j u (by rw[e,tU hj];exact hu)
 rw[vT,wT g _ _ _ _ (fun _ _=>.inl (show j<m*2 by omega))];exact this
theorem eI{w:World}{g:Nat}: ∀(vs:List Value) (o:Nat) {w':World},Chg (fun k=>k=g) w w'→Chg (fun k=>k=g) w (w'.setCells g o vs)
 | [],_,_,h=>h
 |v::vs,o,_,h=>eI vs (o+1) (h.setCell (p:=⟨g,o,none⟩) (.inl rfl) v)
theorem clear_refs(w:World)(g o n c:Nat)(hn:0<n)(hc:∀i,i<n*2→(w.cell? ⟨g,o+i,none⟩).isSome=true)(hf:∀i,i<n*2→w.frozen? ⟨g,o+i,none⟩=false):
 (Builtin.clear_ #[79] 0 #[.slice (some ⟨g,o,none⟩) n c]).run Tryz.prog w=.ok (.tuple #[]) (w.setCells g o (List.replicate (n*2) (.int .i64 0))):=by
 have hz:(zeroValue 77).run Tryz.prog w=.ok (.agg #[.int .i64 0,.int .i64 0]) w:=Tryz.zeroValue77 w;have hzc:(Builtin.zeroCells (Value.agg #[.int .i64 0,.int .i64 0]).cells n).toList=List.replicate (n*2) (.int .i64 0):=by
  apply List.ext_getElem
  ·simp[Builtin.zeroCells,Value.cells]
  ·intro i h1 h2;simp only[Builtin.zeroCells,Value.cells];rcases Nat.mod_two_eq_zero_or_one i with h|h<;>simp[h]
 have hst:=run_storeCells_cells (P:=Tryz.prog) g o (List.replicate (n*2) (.int .i64 0)) 0 w (by simpa using hc) (by simpa using hf) (by intro v hv;rw[List.eq_of_mem_replicate hv];rfl);simp only[xP]at hst;obtain⟨m,rfl⟩:∃m,n=m+1:=⟨n-1,by omega⟩
 simp[Builtin.clear_,run_underlying Tryz.underlying79,hz,hzc,hst]
theorem bF.shifted{w:World}{g:Nat}{l:List Rf}(h:bF w g l){i:Nat}(hi:i<l.length):bF (w.setCells g (i*2) (aE (l.drop (i+1)))) g (l.eraseIdx i):=by
 intro j u hu;have e1:l.eraseIdx i=l.take i++l.drop (i+1):=List.eraseIdx_eq_take_drop_succ l i;have hlt:(aE (l.take i)).length=i*2:=by rw[aY,tD];omega
 have hld:(aE (l.drop (i+1))).length=(l.length-(i+1))*2:=by rw[aY,uQ]
 have H:∀j u,(aE l)[j]?=some u→w.cell? ⟨g,j,none⟩=some u∧w.frozen? ⟨g,j,none⟩=false:=h;have hh:∀j,j<l.length*2→(w.cell? ⟨g,j,none⟩).isSome=true∧w.frozen? ⟨g,j,none⟩=false:=fun j hj=>by
  obtain⟨u,hu⟩:∃u,(aE l)[j]?=some u:=⟨_,sD (by rw[aY];exact hj)⟩
  exact⟨by rw[(H j u hu).1];rfl,(H j u hu).2⟩
 rw[e1,bC]at hu;rcases vF j (i*2) with hj|hj
 ·rw[tU (by omega)]at hu;have e2:l=l.take i++l.drop i:=(uE i l).symm;have:=H j u (by rw[e2,bC,tU (by omega)];exact hu)
  rw[vT,wT g _ _ _ _ (fun _ _=>.inl hj)];exact this
 ·rw[tR (by omega),hlt]at hu;have hj2:j-i*2<(aE (l.drop (i+1))).length:=(sF.1 hu).1;obtain⟨k,rfl⟩:∃k,j=i*2+k:=⟨j-i*2,by omega⟩
  rw[show i*2+k-i*2=k from by omega]at hu hj2;rw[vT,World.cell?_setCells_in g (aE (l.drop (i+1))) (i*2) w (fun t ht=>(hh (i*2+t) (by rw[hld]at ht;omega)).1) k hj2];rw[sD hj2]at hu;exact⟨hu,(hh (i*2+k) (by rw[hld]at hj2;omega)).2⟩
theorem append_down(w:World)(g i m cap cap2:Nat)(ty:TypeId)(l:List Rf)(h:bF w g l)(hi:i+1+m=l.length)(hc:l.length≤cap)(hcm:cap≤9223372036854775807):
 (Builtin.append_ #[79,79] ty #[.slice (some ⟨g,0,none⟩) i cap,.slice (some ⟨g,(i+1)*2,none⟩) m cap2]).run Tryz.prog w=.ok (.slice (some ⟨g,0,none⟩) (i+m) cap) (w.setCells g (i*2) (aE (l.drop (i+1)))):=by
 obtain⟨i0,hi0,hz0,hz1,hz2⟩:=info_parts gW
 have hld:(aE (l.drop (i+1))).length=m*2:=by rw[aY,uQ,show l.length-(i+1)=m from by omega]
 have hh:∀j u,(aE (l.drop (i+1)))[j]?=some u→w.cell? ⟨g,(i+1)*2+j,none⟩=some u:=fun j u hu=>by
  have e2:l=l.take (i+1)++l.drop (i+1):=(uE (i+1) l).symm;have hlt:(aE (l.take (i+1))).length=(i+1)*2:=by rw[aY,tD,Nat.min_eq_left (by omega)]
  refine(h ((i+1)*2+j) u ?_).1
  rw[e2,bC,tR (by omega),hlt,show(i+1)*2+j-(i+1)*2=j from by omega];exact hu
 have hcell:∀j,j<l.length*2→(w.cell? ⟨g,j,none⟩).isSome=true∧w.frozen? ⟨g,j,none⟩=false:=fun j hj=>by
  obtain⟨u,hu⟩:∃u,(aE l)[j]?=some u:=⟨_,sD (by rw[aY];exact hj)⟩
  have:=h j u hu
  exact⟨by rw[this.1];rfl,this.2⟩
 have hfo:=run_firstCells_some (P:=Tryz.prog) w 2 m ⟨g,(i+1)*2,none⟩ m cap2 (aE (l.drop (i+1))) hld (fun j u hu=>by
  have:=hh j u hu
  unfold Addr.add;split
  ·rename_i e;rw[e]at this;exact this
  ·simpa using this)
 have hst:=run_storeCells_cells (P:=Tryz.prog) g (i*2) (aE (l.drop (i+1))) 0 w (fun j hj=>(hcell (i*2+j) (by rw[hld]at hj;omega)).1) (fun j hj=>(hcell (i*2+j) (by rw[hld]at hj;omega)).2) (aX _);simp only[xP]at hst;have hroom:i+m≤cap:=by omega
 simp[Builtin.append_,run_underlying Tryz.underlying79,sizeOf,typeInfo,hi0,hz1,Builtin.lenOf,hroom,hfo,Addr.add_lit,hst]
theorem append_down0(w:World)(g i cap cap2:Nat)(B:Option Addr)(ty:TypeId)(hi:i≤cap):
 (Builtin.append_ #[79,79] ty #[.slice (some ⟨g,0,none⟩) i cap,.slice B 0 cap2]).run Tryz.prog w=.ok (.slice (some ⟨g,0,none⟩) i cap) w:=by
 obtain⟨i0,hi0,hz0,hz1,hz2⟩:=info_parts gW
 have hf:(Builtin.firstCells 2 0 (.slice B 0 cap2)).run Tryz.prog w=.ok #[] w:=by
  cases B with
  |none=>exact run_firstCells_none (P:=Tryz.prog) w 2 0 0 cap2
  |some A=>exact run_firstCells_some (P:=Tryz.prog) w 2 0 A 0 cap2 [] rfl (fun j u hu=>by simp at hu)
 have hst:=run_storeCells_cells (P:=Tryz.prog) g (i*2) [] 0 w (fun j hj=>by simp at hj) (fun j hj=>by simp at hj) (fun u hu=>by simp at hu);simp only[xP]at hst;simp[Builtin.append_,run_underlying Tryz.underlying79,sizeOf,typeInfo,hi0,hz1,Builtin.lenOf,hi,hf,Addr.add_lit,hst];rfl
theorem delete1_any(g cap i n m:Nat)(l:List Rf)(w:World)(h:bF w g l)(hn:l.length=n)(hi:i+1+m=n)(hl:n≤1000000)(hc:n≤cap)(hm:cap≤9223372036854775807)(hcj:¬cap=i+1):
 Calls Tryz.prog 93 #[.slice (some ⟨g,0,none⟩) n cap,.int .i64 i,.int .i64 ((i:Int)+1)] w fun e w' =>
  e=.returned (.slice (some ⟨g,0,none⟩) (i+m) cap)∧bF w' g (l.eraseIdx i)∧Chg (fun k=>k=g) w w':=by
 have HN:=Hi hn;have hap:=fun c2 ty=>append_down w.drew g i m cap c2 ty l (h.keep (w':=w.drew) rfl) (by omega) (by omega) hm
 have HR1:Hid (bF (w.drew.setCells g (i*2) (aE (l.drop (i+1)))) g (l.eraseIdx i)):=(h.keep (w':=w.drew) rfl).shifted (by omega);have HC1:Hid (Chg (fun k=>k=g) w (w.drew.setCells g (i*2) (aE (l.drop (i+1))))):=eI _ _ (Chg.refl w).drew;have hld:(aE (l.drop (i+1))).length=m*2:=by rw[aY,uQ,show l.length-(i+1)=m from by omega]
 have hzz:∀j,j<1*2→((w.drew.setCells g (i*2) (aE (l.drop (i+1)))).cell? ⟨g,(i+m)*2+j,none⟩).isSome=true∧(w.drew.setCells g (i*2) (aE (l.drop (i+1)))).frozen? ⟨g,(i+m)*2+j,none⟩=false:=by
  intro j hj;obtain⟨u,hu⟩:∃u,(aE l)[(i+m)*2+j]?=some u:=⟨_,sD (by rw[aY];omega)⟩
  have:=h _ u hu
  rw[vT,wT g _ _ _ _ (fun _ _=>.inr (by show i*2+_≤(i+m)*2+j;rw[hld];omega))];exact⟨by rw[show w.drew.cell? ⟨g,(i+m)*2+j,none⟩=w.cell? ⟨g,(i+m)*2+j,none⟩ from rfl,this.1];rfl,this.2⟩
 have hclr:=clear_refs (w.drew.setCells g (i*2) (aE (l.drop (i+1)))) g ((i+m)*2) 1 (cap-(i+m)) (by omega) (fun j hj=>(hzz j hj).1) (fun j hj=>(hzz j hj).2);have HRL:Hid ((l.eraseIdx i).length=i+m):=by show _=_;rw[vA (by omega)];omega
 clear hzz hld;have hki:n-(i+1)=m:=by omega
 have hkm:n-(i+m)=1:=by omega
 have hcm:¬cap=i+m:=by omega
 have him:i+m≤n:=by omega
 have hic:i≤cap:=by omega
 have hin:i+1≤n:=by omega
 have hi0:0≤(i:Int)+1:=by omega
 have hi1:(i:Int)+1≤(n:Int):=by omega
 clear h hn;go_enter Tryz.func93,Tryz.ntmps93
 ·go_wp2_with fail
  refine wp_region_still_tail 6 (by kernel_rfl) (by kernel_rfl) ?_;simp only[sV,tG,sY,tH];repeat (first|(refine aK rfl (fun K hK=>?_);go_simp;refine hK _ ?_;clear hK K)|(refine aO rfl ?_;go_frame))
  refine wpStill_nil ?_;change wpList _ _ _ _ _ w.drew;go_wp2_with (refine gD rfl (.tmp 22) (.tmp 25) 79 79 rfl _ _ rfl rfl (fun v' w'=>v'=.slice (some ⟨g,0,none⟩) (i+m) cap∧w'=w.drew.setCells g (i*2) (aE (l.drop (i+1)))) ⟨_,_,hap _ _,rfl,rfl⟩ ?_;rintro v' w' ⟨rfl,rfl⟩)
  go_wp2_with fail
  go_ret;exact⟨rfl,by have:=HR1.o.cleared (i+m) (List.replicate (1*2) (.int .i64 0));rw[sL (by rw[HRL.o];omega)]at this;exact this,eI _ _ HC1.o⟩
theorem delete0_any(g i:Nat)(l:List Rf)(w:World)(h:bF w g l)(hn:l.length=i+1)(hl:i≤1000000):
 Calls Tryz.prog 93 #[.slice (some ⟨g,0,none⟩) (i+1) (i+1),.int .i64 i,.int .i64 ((i:Int)+1)] w fun e w' =>
  e=.returned (.slice (some ⟨g,0,none⟩) i (i+1))∧bF w' g (l.eraseIdx i)∧Chg (fun k=>k=g) w w':=by
 have hap:=fun c2 B ty=>append_down0 w.drew g i (i+1) c2 B ty (by omega)
 have HR1:Hid (bF w.drew g l):=h.keep (w':=w.drew) rfl;have hzz:∀j,j<1*2→(w.drew.cell? ⟨g,i*2+j,none⟩).isSome=true∧w.drew.frozen? ⟨g,i*2+j,none⟩=false:=by
  intro j hj;obtain⟨u,hu⟩:∃u,(aE l)[i*2+j]?=some u:=⟨_,sD (by rw[aY];omega)⟩
  have:=HR1.o _ u hu
  exact⟨by rw[this.1];rfl,this.2⟩
 have hclr:=clear_refs w.drew g (i*2) 1 1 (by omega) (fun j hj=>(hzz j hj).1) (fun j hj=>(hzz j hj).2);have HRL:Hid (l.eraseIdx i=l.take i):=by show _=_;rw[List.eraseIdx_eq_take_drop_succ,uW (by omega),uL]
 clear hzz;have hkm:i+1-i=1:=by omega
 have hic:i≤i+1:=by omega
 have hi0:0≤(i:Int)+1:=by omega
 have hcm:¬i+1=i:=by omega
 have hi2:(i:Int)≤(i:Int)+1:=by omega
 clear h hn;go_enter Tryz.func93,Tryz.ntmps93;go_wp2_with fail
 refine wp_region_still_tail 6 (by kernel_rfl) (by kernel_rfl) ?_;simp only[sV,tG,sY,tH];repeat (first|(refine aK rfl (fun K hK=>?_);go_simp;refine hK _ ?_;clear hK K)|(refine aO rfl ?_;go_frame))
 refine wpStill_nil ?_;change wpList _ _ _ _ _ w.drew;go_wp2_with (refine gD rfl (.tmp 22) (.tmp 25) 79 79 rfl _ _ rfl rfl (fun v' w'=>v'=.slice (some ⟨g,0,none⟩) i (i+1)∧w'=w.drew) ⟨_,_,hap _ _ _,rfl,rfl⟩ ?_;rintro v' w' ⟨rfl,rfl⟩)
 go_wp2_with fail
 go_ret;exact⟨rfl,by rw[HRL.o];exact HR1.o.cleared i (List.replicate (1*2) (.int .i64 0)),eI _ _ (Chg.refl w).drew⟩
theorem delete_any(g cap i n m:Nat)(l:List Rf)(w:World)(h:bF w g l)(hn:l.length=n)(hi:i+1+m=n)(hl:n≤1000000)(hc:n≤cap)(hm:cap≤9223372036854775807):
 Calls Tryz.prog 93 #[.slice (some ⟨g,0,none⟩) n cap,.int .i64 i,.int .i64 ((i:Int)+1)] w fun e w' =>
  e=.returned (.slice (some ⟨g,0,none⟩) (i+m) cap)∧bF w' g (l.eraseIdx i)∧Chg (fun k=>k=g) w w':=by
 by_cases hcj:cap=i+1
 ·obtain rfl:m=0:=by omega
  obtain rfl:n=i+1:=by omega
  subst hcj;exact delete0_any g i l w h hn (by omega)
 ·exact delete1_any g cap i n m l w h hn hi hl hc hm hcj
end
section
structure SetV(w:World)(q m:Nat)(S:List Rf):Prop where
 cell:w.cell? ⟨q,0,none⟩=some (.map (some m))
 lt:q<w.heap.size
 set:fF w m S
theorem SetV.below{w w':World}{q m:Nat}{S:List Rf}(h:SetV w q m S)(hb:Below w.heap.size w w'):SetV w' q m S :=
 ⟨(sM (hb.block _ h.lt)).trans h.cell,sE h.lt hb.size,h.set.keep (hb.block _ (aI.lt h.set))⟩
theorem all11_any(S:List Rf)(r:Rf)(hr:I64R r)(q m:Nat)(w:World)(hS:SetV w q m S):
 Calls Tryz.prog 91 (#[.agg #[.int .i64 r.1,.int .i64 r.2]]++#[.pointer (some ⟨q,0,none⟩)]) w fun e w'=>e=.returned (.bool (!decide (r∈S)))∧Below w.heap.size w w':=by
 have hW:Below w.heap.size w (w.alloc (.cells #[.int .i64 r.1,.int .i64 r.2] 77)):=(sB _ w).alloc (sC _) _;have hQ:=Blk.new w 77 #[.int .i64 r.1,.int .i64 r.2];have hS2:=hS.below hW;have HW:=Hi hW;obtain⟨ok,hok⟩:∃ok,decide (r∈S)=ok:=⟨_,rfl⟩
 rw[hok];clear hS hW;show Calls _ _ #[.agg #[.int .i64 r.1,.int .i64 r.2],.pointer (some ⟨q,0,none⟩)] _ _;go_enter Tryz.func91,Tryz.ntmps91;go_upto_region 1 with fail
 generalize w.alloc (.cells #[.int .i64 r.1,.int .i64 r.2] 77)=V at *;have r1:=cZ hQ 0 rfl;have r2:=cZ hQ 1 rfl
 have m1:=hS2.cell;have hlk:=hS2.set.look hr;rw[hok]at hlk;unfold bB at hlk;clear hS2 hQ hok;go_wp2_with fail
 go_ret;exact⟨rfl,HW.o⟩
theorem field_deps(a s st:Int)(A:Option Addr)(n c:Nat)(A':Option Addr)(n' c':Nat)(w:World):
 (Instr.field 82 (.agg #[.int .i64 a,.int .i64 s,.int .i64 st,.slice A n c,.slice A' n' c']) 3).run Tryz.prog w=.ok (.slice A n c) w:=by kernel_rfl
theorem all1_any(L:List ChD)(x:ChD)(hf:aW L x.rf=some x)(hr:I64R x.rf)(hd:∀d∈x.deps,I64R d)(S:List Rf)(g bh q q2 m:Nat)(V2 V3:Value)(w:World)(hB:HB w g bh V2 V3 L)(hx:ChIn (fun k=>k<w.heap.size) w x)
 (hq:w.cell? ⟨q,0,none⟩=some (.pointer (some ⟨g,0,none⟩))) (hql:q<w.heap.size) (hS:SetV w q2 m S) :
 Calls Tryz.prog 89 (#[.agg #[.int .i64 x.a,.int .i64 x.s]]++#[.pointer (some ⟨q,0,none⟩),.pointer (some ⟨q2,0,none⟩)]) w fun e w'=>e=.returned (.bool (x.deps.all fun d=>decide (d∈S)))∧Below w.heap.size w w':=by
 have hW:Below w.heap.size w (w.alloc (.cells #[.int .i64 x.a,.int .i64 x.s] 77)):=(sB _ w).alloc (sC _) _;have hQ:=Blk.new w 77 #[.int .i64 x.a,.int .i64 x.s];have hS2:=hS.below hW;have hB2:=hB.below hW;have hq2:(w.alloc (.cells #[.int .i64 x.a,.int .i64 x.s] 77)).cell? ⟨q,0,none⟩=some (.pointer (some ⟨g,0,none⟩)):=by rw[tI _ _ _ hql];exact hq
 have hxd:=aA hx.hd hW;have hxl:=hx.hdl;have HW:=Hi hW;have EG:∀args w,(callFunc 91 args).run Tryz.prog w=.ok (.enter 91 args) w:=enters_of Tryz.func91 (by kernel_rfl) (wY (show Tryz.f91.body.isSome=true by kernel_rfl)).symm;have hall:(x.deps.all fun d=>decide (d∈S))=!(x.deps.any fun d=>!decide (d∈S)):=by rw[List.not_any_eq_all_not];simp
 obtain⟨ok,hok⟩:∃ok,(x.deps.any fun d=>!decide (d∈S))=ok:=⟨_,rfl⟩
 rw[hall,hok];clear hS hW hB hq hall hx;show Calls _ _ #[.agg #[.int .i64 x.a,.int .i64 x.s],.pointer (some ⟨q,0,none⟩),.pointer (some ⟨q2,0,none⟩)] _ _;go_enter Tryz.func89,Tryz.ntmps89;go_upto_region 1 with fail
 generalize w.alloc (.cells #[.int .i64 x.a,.int .i64 x.s] 77)=V at *;have r1:=cZ hQ 0 rfl;have r2:=cZ hQ 1 rfl
 have g0:=cZ hB2.blk 0 rfl;have hlk:=(hB2.below (sB _ V).drew).mh.look hr false;have hlv:iW L x.rf=x.v:=by unfold iW;rw[hf]
 rw[hlv]at hlk;unfold ChD.v ChD.rf at hlk;simp only[vB,if_false]at hlk;have C1:=nY x.deps x.DA x.DC V.drew (hxd.keep fun k hk=>rfl) hxl 91 #[.pointer (some ⟨q2,0,none⟩)] (fun d=>!decide (d∈S)) EG
  (fun W r hr' hb=>all11_any S r (hd r hr') q2 m W ((hS2.below (sB _ V).drew).below hb))
 rw[hok]at C1;have hfl:=fun w=>field_deps x.a x.s x.st x.DA x.deps.length x.DC x.OA x.ops.length x.OC w
 clear hS2 hQ hB2 hlv;refine wp_region_still_tail 8 (by kernel_rfl) (by kernel_rfl) ?_;simp only[sV,tG,sY,tH];repeat (first|(refine aK rfl (fun K hK=>?_);go_simp;refine hK _ ?_;clear hK K)|(refine aO rfl ?_;go_frame))
 refine wpStill_nil ?_;change wpList _ _ _ _ _ V.drew;go_wp2_with fail
 go_at_call 90;refine C1.mono ?_;rintro e w2 ⟨rfl,hb⟩;replace HW:Hid (Below w.heap.size w w2):=HW.o.drew.trans (hb.mono HW.o.size);go_wp2_with fail
 go_ret;exact⟨rfl,HW.o⟩
end
section
def PredG(gf:Nat)(lb:Array Value)(l:List Rf)(p:Rf→Bool)(g:Nat)(w:World):Prop :=
 ∀(W:World) (r:Rf),r∈l→Chg (fun k=>k=g) w W→Calls Tryz.prog gf (#[.agg #[.int .i64 r.1,.int .i64 r.2]]++lb) W fun e w'=>e=.returned (.bool (p r))∧Below W.heap.size W w'
theorem filter_snoc{p:Rf→Bool}{l:List Rf}{j:Nat}{x:Rf}(h:l[j]?=some x):(l.take (j+1)).filter p=(l.take j).filter p++(if p x then [x] else []):=by
 rw[sS,h,uM,uN];cases h:p x<;>simp[h]
end
section
def oJ(x:OpI):Value:=.agg #[.int .i64 x.1.on,.int .i64 x.1.oa,.string x.1.key,.int .i64 (dI x).1,.int .i64 (dI x).2]
theorem mQ(x:OpI)(w:World):Calls Tryz.prog 189 #[jK x] w fun e w'=>e=.returned (oJ x)∧Below w.heap.size w w':=by
 have hres:Tryz.f189.results=#[.cell 2 270]:=by kernel_rfl
 unfold jK oJ dI;cases hi:x.1.ins with
 |true =>
  simp only[if_true];go_enter Tryz.func189,Tryz.ntmps189;go_wp2_with fail
  refine bodyPost_ret (v:=.agg #[.int .i64 x.1.on,.int .i64 x.1.oa,.string x.1.key,.int .i64 x.2.1,.int .i64 x.2.2]) ?_ rfl ⟨rfl,?_⟩
  ·simp only[results,hres];go_simp
  ·repeat first
    |exact sB _ _
    |refine Below.setCell ?_ (by simp;try omega) _
    |refine tW ?_ (by simp;try omega) _
 |false =>
  simp only[vB,if_false];go_enter Tryz.func189,Tryz.ntmps189;go_wp2_with fail
  refine bodyPost_ret (v:=.agg #[.int .i64 x.1.on,.int .i64 x.1.oa,.string x.1.key,.int .i64 x.1.en,.int .i64 x.1.ea]) ?_ rfl ⟨rfl,?_⟩
  ·simp only[results,hres];go_simp
  ·repeat first
    |exact sB _ _
    |refine Below.setCell ?_ (by simp;try omega) _
    |refine tW ?_ (by simp;try omega) _
def gO(w:World)(b:Nat)(K:List OpI):Prop:=aI w 24 b (K.map fun x=>(bB x.2,jK x))
theorem zero_op(w:World):(zeroValue 250).run Tryz.prog w=.ok rH w:=by kernel_rfl
def mC(K:List OpI)(r:Rf):Value:=match cE K r with|some y=>jK y|none=>rH
theorem lookP_in{K:List OpI}{r:Rf}{y:OpI}(h:cE K r=some y):y∈K∧y.2=r:=by
 unfold cE at h;exact⟨uB h,by simpa using vR h⟩
theorem lookP_out{K:List OpI}{r:Rf}(h:cE K r=none):∀y∈K,y.2≠r:=by
 unfold cE at h;intro y hy;simpa using uR.1 h y hy
theorem gO.look{w:World}{b:Nat}{K:List OpI}(h:gO w b K){r:Rf}(hr:I64R r):
 (Instr.lookup 248 (.map (some b)) (.agg #[.int .i64 r.1,.int .i64 r.2]) true).run Tryz.prog w=.ok (.tuple #[mC K r,.bool (cE K r).isSome]) w:=by
 unfold mC;cases hf:cE K r with
 |some y =>
  obtain⟨h1,h2⟩:=lookP_in hf
  subst h2;exact aI.hit h dW Tryz.underlying248 (zero_op w) (sH.2 ⟨y,h1,rfl⟩) true
 |none =>
  obtain⟨kl,hk⟩:=gU hr
  refine aI.miss h dW Tryz.underlying248 (zero_op w) hk (fun p hp e=>?_) true;obtain⟨q,hq,rfl⟩:=sH.1 hp
  exact lookP_out hf q hq (iN e)
set_option maxRecDepth 100000 in
theorem eq_place(a b:Int)(t:ByteArray)(c d a' b':Int)(t':ByteArray)(c' d':Int)(w:World):
 (Op.equalIn 10000 270 (.agg #[.int .i64 a,.int .i64 b,.string t,.int .i64 c,.int .i64 d]) (.agg #[.int .i64 a',.int .i64 b',.string t',.int .i64 c',.int .i64 d'])).run Tryz.prog w=.ok ((a == a'&&b == b')&&(t.toList == t'.toList&&(c == c'&&d == d'))) w:=by
 have hS:Tryz.prog.underlying 270=some (.struct (Tryz.prog.fieldsOf 270)):=by kernel_rfl
 have hp:Tryz.prog.stoodInHeld 270=false:=by kernel_rfl
 have hT:∀(x y:ByteArray) (w:World),(Op.equalIn 9999 9 (.string x) (.string y)).run Tryz.prog w=.ok (x.toList == y.toList) w:=fun x y w=>run_equalIn_string w 9998 9 x y Tryz.underlying9
 have hD:=eq_id9;rw[show(10000:Nat)=9999+1 from rfl,run_equalIn_agg w 9999 270 _ _ hS hp];simp only[Program.fieldsOf,Tryz.underlying270,Op.eqFields];generalize Op.equalIn 9999=EQ at hT hD ⊢;go_simp;by_cases h1:a=a'<;>by_cases h2:b=b'<;>by_cases h3:t.toList=t'.toList<;>by_cases h4:c=c'<;>by_cases h5:d=d'<;>simp[h1,h2,h3,h4,h5]
theorem eq_places(y x:OpI)(w:World):(Op.equalIn 10000 270 (oJ y) (oJ x)).run Tryz.prog w=.ok (gF y x) w:=by
 unfold oJ gF;rw[eq_place];congr 1;have e:decide (y.1.key=x.1.key)=(y.1.key.toList == x.1.key.toList):=by
  rw[dec_key];by_cases h:y.1.key.toList=x.1.key.toList<;>simp[h]
 rw[e];by_cases h1:y.1.on=x.1.on<;>by_cases h2:y.1.oa=x.1.oa<;>by_cases h4:(dI y).1=(dI x).1<;>by_cases h5:(dI y).2=(dI x).2<;>simp[eG,h1,h2,h4,h5,Prod.ext_iff]
end
end Go.Proofs.YtmpkejflgpodkaaGreatDoor
