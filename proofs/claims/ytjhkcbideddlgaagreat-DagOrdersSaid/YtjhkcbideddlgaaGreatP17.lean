/- Contracts: a row of refs sorted, and turned round. -/
import Derived.Test.YtjhkcbideddlgaaGreatP16
import Derived.Test.YtjhkcbideddlgaaGreatShelf
import Derived.Shelf.SlSortCmp.WholeK
import Derived.Shelf.SlSortCmp.NoneTotal
import Derived.Test.YtjhkcbideddlgaaGreatP11
import Derived.Test.YtjhkcbideddlgaaGreatP15
import Derived.Test.YtjhkcbideddlgaaGreatP14
import Derived.Test.YtjhkcbideddlgaaGreatP1
import Derived.Test.YtjhkcbideddlgaaGreatP12
import Derived.Test.YtjhkcbideddlgaaGreatP0
import Derived.Deep.DeepCutAuto
set_option maxHeartbeats 8000000
set_option maxRecDepth 20000
set_option linter.unusedVariables false
set_option linter.unusedSimpArgs false
namespace Go.Proofs.YtjhkcbideddlgaaGreat
open Go.ChangeShapes Go.WideShapes Go.ChangeAt Go.RowKit
section
def lM(r:Rf):List Value:=[.int .i64 r.1,.int .i64 r.2]
def bY(w:World)(g:Nat)(l:List Rf):Prop:=∀j u,(aF l)[j]?=some u→w.cell? ⟨g,j,none⟩=some u∧w.frozen? ⟨g,j,none⟩=false
theorem refC_get(l:List Rf)(t:Nat)(h:t<l.length*2):(aF l)[t]?=some ((lM (l.toArray[t / 2]!))[t % 2]!):=by
 obtain⟨q,m,ht,hm⟩:∃q m,t=q*2+m∧m<2:=⟨t / 2,t % 2,by omega,by omega⟩
 subst ht;rw[show(q*2+m) / 2=q from by omega,show(q*2+m) % 2=m from by omega];have hk:q<l.length:=by omega
 obtain⟨h1,h2⟩:=aN (sC hk)
 rw[getElem!_pos l.toArray q (by simpa using hk)]
 match m,hm with
 |0,_=>simpa[lM] using h1
 |1,_=>simpa[lM] using h2
theorem bY.holds{w:World}{g:Nat}{l:List Rf}(h:bY w g l):Sort.HoldsK lM 2 w g 0 l.toArray:=by
 intro j hj;have hj':j<l.length*2:=by simpa using hj
 have:=h j _ (refC_get l j hj')
 rw[Sort.get_flatK lM 2 l.toArray j (by simpa using hj')];simpa using this
theorem bY.of_holds{w:World}{g:Nat}{l:List Rf}(h:Sort.HoldsK lM 2 w g 0 l.toArray):bY w g l:=by
 intro j u hu;have hj':j<l.length*2:=by
  rcases wI j (l.length*2) with h|h
  ·exact h
  ·rw[vA (by rw[cG];exact h)]at hu;cases hu
 have h1:=h j (by simpa using hj');rw[Sort.get_flatK lM 2 l.toArray j (by simpa using hj')]at h1;rw[refC_get l j hj']at hu;obtain rfl:=tK hu;simpa using h1
theorem bY.keep{w w':World}{g:Nat}{l:List Rf}(h:bY w g l)(hk:w'.heap[g]?=w.heap[g]?):bY w' g l:=fun j u hu=>by
 obtain⟨h1,h2⟩:=h j u hu
 exact⟨(sK (w:=w) (a:=⟨g,j,none⟩) hk).trans h1,(World.frozen?_of_block (w:=w) (a:=⟨g,j,none⟩) hk).trans h2⟩
theorem bY.reads{w:World}{g:Nat}{l:List Rf}(h:bY w g l):aC (fun k=>k=g) w 2 (some ⟨g,0,none⟩) l.length (aF l) :=
 ⟨cG l,fun _=>⟨_,rfl,rfl,fun j u hu=>by
  have:=(h j u hu).1
  unfold Addr.add;split
  ·rename_i e;rw[e]at this;exact this
  ·simpa using this⟩⟩
theorem sortWorld_chg{w:World}{g n:Nat}{d:Array Rf}{os:Array Obj}: Chg (fun k=>k=g) w (sortWorldK lM 2 w g 0 n d os):=by
 refine⟨rfl,rfl,rfl,size_sortWorldK_c lM 2 w g 0 n d os,fun k hk hne=>?_⟩
 have e:(sortWorldK lM 2 w g 0 n d os).heap=(w.heap.modify g (Sort.onCells (Sort.putCells id 0 (Sort.flatK lM 2 d))))++os:=rfl;rw[e,Array.getElem?_append_left (by simpa using hk),Array.getElem?_modify,sT (fun h=>hne h.symm)]
theorem encR_one(x:Rf):∀v∈lM x,v.oneCell'=true:=by
 intro v hv;simp only[lM,sO,uB,or_false]at hv;rcases hv with rfl|rfl<;>rfl
theorem lt_cmp(x y:Rf):ltOf cmpR x y=decide (x.1<y.1∨x.1=y.1∧x.2<y.2):=by
 unfold ltOf cmpR Lib.compareInt;by_cases h1:x.1<y.1
 ·simp[h1]
 ·by_cases h2:y.1<x.1
  ·have h3:x.1≠y.1:=by omega
   simp[h1,h2,h3]
  ·have h3:x.1=y.1:=by omega
   by_cases h4:x.2<y.2
   ·simp[h3,h4]
   ·by_cases h5:y.2<x.2<;>simp[h3,h4,h5]
theorem swo_cmp:Sort.SWO (ltOf cmpR) where
 irrefl x:=by rw[lt_cmp];simp
 trans x y z h1 h2:=by rw[lt_cmp]at *;simp only[tL]at *;omega
 ntrans x y z h1 h2:=by rw[lt_cmp]at *;simp only[decide_eq_false_iff_not]at *;omega
def lN(l:List Rf):Prop:=∀(i j:Nat) (x y:Rf),i<j→l[i]?=some x→l[j]?=some y→¬(y.1<x.1∨y.1=x.1∧y.2<x.2)
theorem sortA_any(g cap:Nat)(l:List Rf)(w:World)(h:bY w g l)(hg:g<w.heap.size)(hl:l.length≤1000000):
 Calls Tryz.prog 92 #[.slice (some ⟨g,0,none⟩) l.length cap,.func (.func 93) #[] #[]] w fun e w' =>
  e=.returned (.tuple #[])∧∃l',l'.Perm l∧lN l'∧bY w' g l'∧Chg (fun k=>k=g) w w':=by
 have eg:∀args w,(callFunc 93 args).run Tryz.prog w=.ok (.enter 93 args) w:=enters_of Tryz.func93 (by kernel_rfl) (wV (show Tryz.f93.body.isSome=true by kernel_rfl)).symm;have hc:CmpLays Tryz.prog 93 #[] lM 2 cmpR g 0 l.toArray.size w:=fun _ _ _ _ x y=>qD x y _
 have:=AnyQ.slices_SortFunc Tryz.sortRef 2 Tryz.isAgg45 Tryz.sizeOf45 lM (fun _=>rfl) encR_one cmpR swo_cmp 93 #[] g 0 cap l.toArray w eg hc h.holds hg (by simp;omega)
 rw[show l.toArray.size=l.length from by simp]at this;refine this.mono ?_;rintro e w' ⟨rfl,d',n,os,hp,hs,rfl⟩;have hsz:d'.size=l.length:=by simpa using hp.1
 refine⟨rfl,d'.toList,?_,?_,bY.of_holds (by simpa using holdsK_sortWorldK_c lM 2 w g 0 l.toArray d' n os h.holds hg (by simpa using hsz)),sortWorld_chg⟩
 ·have h1:d'.extract 0 l.length=d':=by rw[←hsz];exact Array.extract_size
  have h2:l.toArray.extract 0 l.length=l.toArray:=by
   have:l.length=l.toArray.size:=by simp
   rw[this];exact Array.extract_size
  have h3:=hp.2.2;rw[h1,h2]at h3;exact h3
 ·intro i j x y hij hx hy;have hj:j<l.length:=by
   rw[←hsz];rcases wI j d'.size with h|h
   ·exact h
   ·rw[vA (by simpa using h)]at hy;cases hy
  have h1:=hs i j (uU _) hij hj;have ex:d'[i]! = x:=by
   rw[Array.getElem?_toList]at hx;rw[Array.getElem!_eq_getD,Array.getD_eq_getD_getElem?,hx];rfl
  have ey:d'[j]! = y:=by
   rw[Array.getElem?_toList]at hy;rw[Array.getElem!_eq_getD,Array.getD_eq_getD_getElem?,hy];rfl
  rw[lt_cmp,ex,ey]at h1;simpa using h1
end
section
def kv(p:Rf×Value):Value×Value:=(dB p.1,p.2)
theorem sortNone(p:Option Addr)(cap:Nat)(fv:Value)(w:World):Calls Tryz.prog 92 #[.slice p 0 cap,fv] w fun e w'=>e=.returned (.tuple #[])∧w'=w:=by
 have:=AnyF.slices_SortFunc_none Tryz.sortRef p cap fv w
 exact this
theorem wpK_next(w:World){ops:Array Oper}{rest:List Oper}{o:Oper}{a:Act}{Q:Exit→Act→World→Prop}(hg:o.guard=none)(it:Operand)(hop:o.op=Op.next it false)(b r:Nat)(K todo:List (Rf×Value))(hit:a.eval it=.pointer (some ⟨r,0,none⟩))(h:bC w 45 b r (K.map kv) (todo.map kv))
 (hDone:todo=[]→wpList Tryz.prog ops Q rest (a.put o.dst (.tuple #[.bool false])) w)
 (hMore:∀(x:Rf×Value) (todo':List (Rf×Value)) (w':World),todo.Perm (x::todo')→bC w' 45 b r (K.map kv) (todo'.map kv)→w.grownBy w' (some r)→w'.heap.size=w.heap.size →
   (Instr.entry (.pointer (some ⟨r,0,none⟩))).run Tryz.prog w'=.ok (.tuple #[.agg #[.int .i64 x.1.1,.int .i64 x.1.2],x.2]) w'→wpList Tryz.prog ops Q rest (a.put o.dst (.tuple #[.bool true,.agg #[.int .i64 x.1.1,.int .i64 x.1.2],x.2])) w') :
 wpList Tryz.prog ops Q (o::rest) a w:=by
 refine wpL_next w hg it hop _ b r _ _ hit h (fun e=>hDone (List.map_eq_nil_iff.1 e)) fun key v todo' w' hp hI hg hs hen=>?_
 obtain⟨x,t',hx,hp1,hp2⟩:=rG _ hp
 have e1:dB x.1=key:=congrArg Prod.fst hx;have e2:x.2=v:=congrArg Prod.snd hx;subst e1 e2;exact hMore x t' w' hp1 (hI.perm hp2) hg hs hen
theorem mE(K:List (Rf×Value))(b:Nat)(w:World)(h:aJ w 45 b (K.map kv))(hl:K.length≤1000000):
 Calls Tryz.prog 44 #[.map (some b)] w fun e w'=>∃A c S,e=.returned (.slice A S.length c)∧S.Perm (K.map Prod.fst)∧lN S∧(S=[]∨∃g,w.heap.size≤g∧g<w'.heap.size∧A=some ⟨g,0,none⟩∧bY w' g S∧S.length≤c∧c≤9223372036854775807)∧Below w.heap.size w w':=by
 have HM:=Hi h;go_enter Tryz.func44,Tryz.ntmps44;go_wp2_with (refine lE w rfl (.tmp 5) 90 rfl 45 33 Tryz.underlying90 b (K.map kv) rfl HM.o ?_;intro w1 hI1 hb1 hs1)
 have HI1:=Hi hI1;have HB1:=Hi hb1;clear hI1 hb1 h;simp only[Act.put,zA,zB,zC];go_loopw [3,4] (fun s3 _ wr=>∃done todo:List (Rf×Value),Hid ((done++todo).Perm K)∧Hid (bC wr 45 b w.heap.size (K.map kv) (todo.map kv))∧Hid (wr.ownsRow (w.heap.size+1) 45 2 s3 done.length (aF (done.map Prod.fst)))∧Hid (Below w.heap.size w wr)) (fun s3 _ _=>K.length-slen s3)
 case atStart=>exact⟨[],K,vF _,HI1,bB _ _ _ _,HB1⟩
 case round =>
  clear HI1 HB1;obtain⟨done,todo,HP,HI,HO,HW⟩:=hrel
  have hlen:done.length+todo.length=K.length:=by rw[←sF];exact HP.o.length_eq
  go_wp2_with (refine wpK_next _ rfl (.tmp 6) rfl b w.heap.size K todo rfl HI.o ?_ ?_)
  ·intro ht;subst ht;have HPD:Hid (done.Perm K):=by have:=HP.o;rwa [uW]at this
   obtain⟨Ao,co,hv,hco,hcm,-⟩:=aC.of_own HO.o
   have HCO:Hid (done.length≤co∧co≤9223372036854775807):=⟨hco,by simpa[maxLen] using hcm⟩;subst hv;clear hcm;have HDN:Hid (done.length=K.length):=HPD.o.length_eq;clear hlen;go_wp2_with fail
   by_cases h0:done.length=0
   ·have hd0:done=[]:=uK.1 h0;rw[h0];go_at_call 92;refine(sortNone Ao co _ wr).mono ?_
    rintro e w2 ⟨rfl,rfl⟩;go_wp2_with fail
    go_ret;exact⟨Ao,co,[],rfl,by have:=HPD.o;rw[hd0]at this;rw[List.nil_perm.1 this];exact vF _,fun i j x y _ hx=>by simp at hx,.inl rfl,HW.o⟩
   ·obtain⟨g,cap,hA,hg1,hg2⟩:=HO.o.form (by omega)
    simp only[tS,true_and]at hA;obtain⟨rfl,rfl⟩:=hA
    have hrow:bY wr g (done.map Prod.fst):=fun j u hu=>by
     have hj:j<done.length*2:=by
      rcases wI j (done.length*2) with h|h
      ·exact h
      ·rw[vA (by rw[cG,tF];exact h)]at hu;cases hu
     exact⟨(World.ownsRow.cellAt HO.o j hj).trans hu,World.ownsRow.frozenAt HO.o j⟩
    have C1:=sortA_any g co (done.map Prod.fst) wr hrow hg2 (by rw[tF,HDN.o];exact hl);rw[tF]at C1;go_at_call 92;refine C1.mono ?_;rintro e w2 ⟨rfl,S,hp,hasc,hrow2,hch⟩;have HLS:Hid (S.length=done.length):=by show _=_;rw[hp.length_eq,tF]
    have HW2:Hid (Below w.heap.size w w2):=HW.o.trans (hch.below HW.o.size fun k hk=>by rw[hk];omega);have HS:Hid (S.Perm (K.map Prod.fst)):=hp.trans (HPD.o.map _);have HAS:=Hi hasc;have HRW:=Hi hrow2;have hsz2:=hch.size;clear hp hasc hrow2 hch C1 hrow;go_wp2_with fail
    go_ret;exact⟨_,co,S,by rw[HLS.o];rfl,HS.o,HAS.o,.inr ⟨g,by omega,by omega,rfl,HRW.o,by rw[HLS.o];exact HCO.o.1,HCO.o.2⟩,HW2.o⟩
  ·intro a1 a2 v todo' w2 hp hI2 hg2 hs2 hen;have HI2:=Hi hI2;have HW2:Hid (Below w.heap.size w w2):=HW.o.grown hg2 HW.o.size (fun k hk=>by cases hk;exact sB _);have hwl:w.heap.size<w2.heap.size:=by have:=HI2.o.lt;omega
   have HO2:Hid (w2.ownsRow (w.heap.size+1) 45 2 _ done.length (aF (done.map Prod.fst))):=HO.o.kept hg2 (by
    cases ho:Value.ownBlock _ with
    |none=>exact .inl rfl
    |some k=>exact .inr (fun e=>by cases e;have:=(aD HO.o ho).1;omega))
   clear hI2 hg2 HI HO HW;have hbl:b<w.heap.size:=HM.o.lt;obtain⟨Ao,co,hv,hco,-,-⟩:=aC.of_own HO2.o
   subst hv;clear hs2;go_upto_region 5 with fail
   have HW3:Hid (Below w.heap.size w (w2.alloc (.cells #[.int .i64 a1,.int .i64 a2] 45))):=HW2.o.alloc HW2.o.size _;have HQ3:Hid (Blk (w2.alloc (.cells #[.int .i64 a1,.int .i64 a2] 45)) w2.heap.size 45 #[.int .i64 a1,.int .i64 a2]):=Blk.new w2 _ _;have HI3:Hid (bC (w2.alloc (.cells #[.int .i64 a1,.int .i64 a2] 45)) 45 b w.heap.size (K.map kv) (todo'.map kv)):=HI2.o.keep (sM _ _ _ (by omega)) (sM _ _ _ hwl);have HO3:=Hi (HO2.o.alloc (.cells #[.int .i64 a1,.int .i64 a2] 45));clear HW2 HI2 HO2 hen;have hw3:(w2.alloc (.cells #[.int .i64 a1,.int .i64 a2] 45)).heap.size=w2.heap.size+1:=by simp
   generalize w2.alloc (.cells #[.int .i64 a1,.int .i64 a2] 45)=w3 at HW3 HQ3 HI3 HO3 hw3 ⊢;generalize hB2:w2.heap.size=B2 at HQ3 hwl hw3 ⊢;clear hB2;have hw4:w.heap.size<w3.heap.size:=by omega
   clear hw3;obtain⟨r1,r2⟩:=ce2 HQ3.o
   obtain⟨i0,hi,hz0,hz1,hz2⟩:=info_parts gD
   go_wp2_with (at_builtin;refine aG _ rfl (.tmp 11) (.tmp 13) _ rfl (w.heap.size+1) 45 i0 _ 2 16 Tryz.underlying30 hi hz0 hz1 hz2 rfl (by omega) (.slice Ao done.length co) (done.length) (aF (done.map Prod.fst)) rfl (HO3.o.alloc _) _ (some ⟨w3.heap.size,0,none⟩) (1) (1) ([.int .i64 a1,.int .i64 a2]) rfl ((cD (by exact Blk.new w3 _ #[.int .i64 a1,.int .i64 a2]) (n:=2) rfl)) ((by intro u hu;exact aY [(a1,a2)] u (by simpa[aF] using hu))) ?c1 ?c2 ?c3 ?_)
   try case c1=>simp only[maxLen];have:=hlen;omega
   try case c2=>have:=hlen;omega
   try case c3=>simp;omega
   intro v4 w4 ho4 hg4 hat4;have hbk:Below (w.heap.size+1) w3 w4:=((sA _ w3).alloc (by omega) _).grown hg4 (by simp;omega) (fun k hk=>(aD HO3.o hk).1);have HW4:Hid (Below w.heap.size w w4):=HW3.o.trans (hbk.mono (Nat.le_succ _));have HI4:Hid (bC w4 45 b w.heap.size (K.map kv) (todo'.map kv)):=HI3.o.keep (hbk.block _ (by omega)) (hbk.block _ (by omega));have HO4:Hid (w4.ownsRow (w.heap.size+1) 45 2 v4 (done++[((a1,a2),v)]).length (aF ((done++[((a1,a2),v)]).map Prod.fst))):=by
    show World.ownsRow _ _ _ _ _ _ _;rw[sF,tN,bH];simpa[aF] using ho4
   have HP2:Hid (((done++[((a1,a2),v)])++todo').Perm K):=by
    show List.Perm _ _;rw[sX];exact(hp.symm.append_left done).trans HP.o
   have hsl:slen v4=done.length+1:=by
    obtain⟨_,_,hv,_⟩:=aC.of_own ho4
    rw[hv];rfl
   have hdl:done.length<K.length:=by have:=hp.length_eq;simp only[sV]at this;omega
   clear ho4 hg4 hat4 hbk r1 r2 HQ3 HI3 HO3 HW3;go_wp2_with fail
   go_roundw
   case rel=>exact⟨done++[((a1,a2),v)],todo',HP2,HI4,HO4,HW4⟩
   case measure =>
    show K.length-slen v4<K.length-slen (.slice Ao done.length co);rw[hsl];show K.length-(done.length+1)<K.length-done.length;omega
end
section
theorem new_any(w:World):
 Calls Tryz.prog 7 #[] w fun e w'=>∃g bh bw bb,e=.returned (.pointer (some ⟨g,0,none⟩))∧Blk w' g 93 #[.map (some bh),.map (some bw),.map (some bb)]∧dS w' bh []∧dS w' bw []∧aJ w' 45 bb []∧(bh≠bw∧bh≠bb∧bw≠bb)∧(w.heap.size≤bh∧w.heap.size≤bw∧w.heap.size≤bb∧w.heap.size≤g)∧Below w.heap.size w w':=by
 have hmm:∀(t:TypeId) (w:World),(Instr.makeMap t none).run Tryz.prog w=.ok (.map (some w.heap.size)) (w.alloc (.map #[] 0)):=fun _ _=>rfl
 have h1:dS (w.alloc (.map #[] 0)) w.heap.size []:=aJ.made w _;have hb1:Below w.heap.size w (w.alloc (.map #[] 0)):=(sA _ w).alloc (sB _) _;have hz1:(w.alloc (.map #[] 0)).heap.size=w.heap.size+1:=by simp
 generalize hw1:w.alloc (.map #[] 0)=w1 at h1 hb1 hz1;have h2:dS (w1.alloc (.map #[] 0)) w1.heap.size []:=aJ.made w1 _;have hb2:=(sA w1.heap.size w1).alloc (sB _) (.map #[] 0);have hz2:(w1.alloc (.map #[] 0)).heap.size=w1.heap.size+1:=by simp
 generalize hw2:w1.alloc (.map #[] 0)=w2 at h2 hb2 hz2;have h3:aJ (w2.alloc (.map #[] 0)) 45 w2.heap.size []:=aJ.made w2 _;have hb3:=(sA w2.heap.size w2).alloc (sB _) (.map #[] 0);have hz3:(w2.alloc (.map #[] 0)).heap.size=w2.heap.size+1:=by simp
 generalize hw3:w2.alloc (.map #[] 0)=w3 at h3 hb3 hz3;have hq:=Blk.new w3 93 #[.map (some w.heap.size),.map (some w1.heap.size),.map (some w2.heap.size)];have hb4:=(sA w3.heap.size w3).alloc (sB _) (.cells #[.map (some w.heap.size),.map (some w1.heap.size),.map (some w2.heap.size)] 93);have HZ:=Hi (And.intro hz1 (And.intro hz2 hz3));clear hz1 hz2 hz3;go_enter Tryz.func7,Tryz.ntmps7;go_wp2_with fail
 go_ret;obtain⟨hz1,hz2,hz3⟩:=HZ.o
 have l1:=aJ.lt h1;have l2:=aJ.lt h2;have l3:=aJ.lt h3;have k1:dS w3 w.heap.size []:=aJ.keep (aJ.keep h1 (hb2.block _ (by omega))) (hb3.block _ (by omega));have k2:dS w3 w1.heap.size []:=aJ.keep h2 (hb3.block _ (by omega));refine⟨w3.heap.size,w.heap.size,w1.heap.size,w2.heap.size,rfl,hq,aJ.keep k1 (hb4.block _ (aJ.lt k1)),aJ.keep k2 (hb4.block _ (aJ.lt k2)),aJ.keep h3 (hb4.block _ l3),⟨by omega,by omega,by omega⟩,⟨by omega,by omega,by omega,by omega⟩,?_⟩
 exact((hb1.trans (hb2.mono (by omega))).trans (hb3.mono (by omega))).trans (hb4.mono (by omega))
def NF(w:World)(bh bw bb k:Nat):Prop:=k<w.heap.size∧k≠bh∧k≠bw∧k≠bb
structure PB(w:World)(g bh bw bb:Nat)(X:List (ChD×Nat×List Rf))(W:List ChD):Prop where
 blk:Blk w g 93 #[.map (some bh),.map (some bw),.map (some bb)]
 mh:dS w bh (X.map Prod.fst)
 mw:dS w bw W
 mb:aJ w 45 bb (X.map fun x=>(dB x.1.rf,.map (some x.2.1)))
 ne:bh≠bw∧bh≠bb∧bw≠bb
 sets:∀x∈X,fD w x.2.1 x.2.2∧NF w bh bw bb x.2.1∧∀r,r∈x.2.2↔r∈aP (X.map Prod.fst) [x.1.rf]
 inL:∀x∈X,ChIn (NF w bh bw bb) w x.1
 inW:∀c∈W,ChIn (NF w bh bw bb) w c
theorem NF.more{w w':World}{bh bw bb k:Nat}(h:NF w bh bw bb k)(hs:w.heap.size≤w'.heap.size):NF w' bh bw bb k:=⟨sD h.1 hs,h.2⟩
theorem PB.below{w w':World}{g bh bw bb:Nat}{X:List (ChD×Nat×List Rf)}{W:List ChD}(h:PB w g bh bw bb X W)(hb:Below w.heap.size w w'):PB w' g bh bw bb X W :=
 ⟨h.blk.keep (hb.block _ h.blk.lt),aJ.keep h.mh (hb.block _ (aJ.lt h.mh)),aJ.keep h.mw (hb.block _ (aJ.lt h.mw)),aJ.keep h.mb (hb.block _ (aJ.lt h.mb)),h.ne,
  fun x hx=>⟨(h.sets x hx).1.keep (hb.block _ (h.sets x hx).2.1.1),(h.sets x hx).2.1.more hb.size,(h.sets x hx).2.2⟩,
  fun x hx=>((h.inL x hx).keep fun k hk=>hb.block k hk.1).more fun k hk=>hk.more hb.size,
  fun c hc=>((h.inW c hc).keep fun k hk=>hb.block k hk.1).more fun k hk=>hk.more hb.size⟩
theorem PB.hb{w:World}{g bh bw bb:Nat}{X:List (ChD×Nat×List Rf)}{W:List ChD}(h:PB w g bh bw bb X W):HB w g bh (.map (some bw)) (.map (some bb)) (X.map Prod.fst):=⟨h.blk,h.mh⟩
theorem PB.nil{w:World}{g bh bw bb:Nat}(hb:Blk w g 93 #[.map (some bh),.map (some bw),.map (some bb)])(h1:dS w bh [])(h2:dS w bw [])(h3:aJ w 45 bb [])(hn:bh≠bw∧bh≠bb∧bw≠bb):PB w g bh bw bb [] [] :=
 ⟨hb,h1,h2,h3,hn,(fun _ h=>by cases h),(fun _ h=>by cases h),(fun _ h=>by cases h)⟩
end
section
open Go.RowKit
theorem qO{a b:ByteArray}(h:(a.toList == b.toList)=true):a=b:=by
 have h':=eq_of_beq h;rw[wK,wK]at h';obtain⟨⟨x⟩⟩:=a
 obtain⟨⟨y⟩⟩:=b
 have h2:x=y:=h';rw[h2]
theorem sameO_iff(x y:OpD):qW x y=true↔base x=base y:=by
 obtain⟨k,on,oa,key,en,ea,ins,vk,vn,vt,va,vb,A,c,l⟩:=x
 obtain⟨k',on',oa',key',en',ea',ins',vk',vn',vt',va',vb',A',c',l'⟩:=y
 simp only[qW,idE,valE,base,tJ,beq_iff_eq,tL,OpD.mk.injEq,true_and];constructor
 ·rintro⟨h1,⟨h2,h3⟩,h4,⟨h5,h6⟩,h7,⟨h8,h9,h10,h11,h12⟩,h13⟩
  exact⟨h1,h2,h3,qO (by simpa using h4),h5,h6,h7,h8,h9,qO (by simpa using h10),h11,h12,h13⟩
 ·rintro⟨h1,h2,h3,rfl,h5,h6,h7,h8,h9,rfl,h11,h12,h13⟩
  exact⟨h1,⟨h2,h3⟩,rfl,⟨h5,h6⟩,h7,⟨h8,h9,rfl,h11,h12⟩,h13⟩
theorem mC:∀(l m:List OpD),eC l m=true↔l.map base=m.map base
 | [],[]=>by simp[eC]
 | [],_::_=>by simp[eC]
 |_::_,[]=>by simp[eC]
 |x::l,y::m=>by
  simp only[eC,tJ,tU,wH];rw[sameO_iff,mC l m]
theorem enc_inj{c d:ChD}(hc:c.err=0)(hd:d.err=0)(hcv:∀o∈c.ops,(Lit.int .i64 o.vn).wf=true)(hdv:∀o∈d.ops,(Lit.int .i64 o.vn).wf=true)(h:c.enc=d.enc):
 c.st=d.st∧c.deps=d.deps∧c.ops.map base=d.ops.map base:=by
 have h1:=read_back (show dK c.a c.s c.st c.deps c.ops=0 from hc) hcv [];have h2:=read_back (show dK d.a d.s d.st d.deps d.ops=0 from hd) hdv [];rw[show gZ c.a c.s c.st c.deps c.ops=gZ d.a d.s d.st d.deps d.ops from h,h2]at h1;simp only[Rd.mk.injEq]at h1;obtain⟨_,_,h3,h4,h5,_⟩:=h1
 have b1:=(eE hc).1;have b2:=(eE hd).1;exact⟨by omega,h4.symm,h5.symm⟩
theorem sameC_enc{c d:ChD}(hc:c.err=0)(hd:d.err=0)(hcv:∀o∈c.ops,(Lit.int .i64 o.vn).wf=true)(hdv:∀o∈d.ops,(Lit.int .i64 o.vn).wf=true)(hr:c.rf=d.rf):pI c d=decide (c.enc=d.enc):=by
 have hr1:c.a=d.a:=congrArg Prod.fst hr;have hr2:c.s=d.s:=congrArg Prod.snd hr;by_cases he:c.enc=d.enc
 ·obtain⟨h1,h2,h3⟩:=enc_inj hc hd hcv hdv he
  rw[sH he];unfold pI;rw[(mC _ _).2 h3,h1,h2];simp
 ·rw[sI he];cases h:pI c d with
  |false=>rfl
  |true =>
   unfold pI at h;simp only[tJ,beq_iff_eq,tL]at h;obtain⟨h1,h2,h3⟩:=h
   refine absurd ?_ he;unfold ChD.enc;rw[hr1,hr2,h1,h2];exact oZ ((mC _ _).1 h3)
end
section
open Go.RowKit
theorem gF(c:ChD):c.base.rf=c.rf:=rfl
theorem iJ(c:ChD):c.base.err=c.err:=chgE_base (pA c.ops)
theorem nY(c:ChD):c.base.enc=c.enc:=oZ (pA c.ops)
def bI(x:OpI):OpI:=(base x.1,x.2)
theorem nQ:∀(a st:Int) (l:List OpD),cC a st (l.map base)=(cC a st l).map bI
 |_,_,[]=>rfl
 |a,st,o::l=>by simp only[tU,cC,nQ a (st+1) l];rfl
theorem base_opsI(c:ChD):c.base.opsI=c.opsI.map bI:=nQ c.a c.st c.ops
theorem lH(L:List ChD):aB (L.map ChD.base)=aB L:=by
 unfold aB;rw[List.map_map];rfl
theorem back_base:∀(L:List ChD) (w:List Rf),dM (L.map ChD.base) w=dM L w
 | [],_=>rfl
 |c::L,w=>by
  simp only[tU,dM,gF,back_base L];rfl
theorem behind_base(L:List ChD)(hs:List Rf):aP (L.map ChD.base) hs=aP L hs:=by
 unfold aP;rw[←List.map_reverse];exact back_base _ _
theorem known_base(L:List ChD)(R:List Rf):bV (L.map ChD.base) R=(bV L R).map bI:=by
 unfold bV;induction L with
 |nil=>rfl
 |cons c L ih =>
  by_cases h:c.rf∈R
  ·simp only[tU,List.filter_cons,gF,h,decide_true,if_true,tQ,tN,base_opsI];rw[ih]
  ·simp only[tU,List.filter_cons,gF,h,decide_false,uT,if_false];exact ih
theorem oX(l:List OpI)(n:Rf):cX (l.map bI) n=(cX l n).map bI:=by
 unfold cX;induction l with
 |nil=>rfl
 |cons x l ih =>
  by_cases h:x.2=n
  ·simp[bI,h]
  ·simp only[tU,List.find?_cons,show(bI x).2=x.2 from rfl,sI h];exact ih
theorem kind_base(x:OpI)(K:List OpI):eS (bI x) (K.map bI)=eS x K:=by
 unfold eS;rw[show fQ (bI x)=fQ x from rfl,oX];cases cX K (fQ x)<;>rfl
theorem elem_base(x:OpI)(K:List OpI):dA (bI x) (K.map bI)=dA x K:=by
 unfold dA;rw[show elP (bI x)=elP x from rfl,oX];cases cX K (elP x)<;>rfl
theorem pred_base(x:OpI)(K:List OpI)(p:Rf):bJ (bI x) (K.map bI) p=bJ x K p:=by
 unfold bJ;rw[oX];cases cX K p<;>rfl
theorem may_base(x:OpI)(K:List OpI):cY (bI x) (K.map bI)=cY x K:=by
 unfold cY;rw[kind_base,elem_base];cases eS x K with
 |none=>rfl
 |some kd =>
  show(kW x kd&&dA x K&&x.1.l.all (bJ (bI x) (K.map bI)))=_
  rw[show bJ (bI x) (K.map bI)=bJ x K from funext (pred_base x K)]
theorem pV:∀(l K:List OpI),dD (l.map bI) (K.map bI)=dD l K
 | [],_=>rfl
 |x::l,K=>by
  simp only[tU,dD,may_base];have:=pV l (K++[x])
  rw[tN]at this;rw[←this];rfl
theorem lK(L:List ChD)(c:ChD):bR (L.map ChD.base) c.base=bR L c:=by
 unfold bR eO;rw[show c.base.deps=c.deps from rfl,behind_base,known_base,base_opsI,pV];rw[List.all_map];rfl
theorem jV(L:List ChD)(c:ChD):aU (L.map ChD.base) c.base=aU L c:=by
 unfold aU;rw[lH];rfl
theorem jW(p q:ChD→Bool)(h:∀c,p c.base=q c):∀(W:List ChD) (i:Nat) (b:Option (Nat×Rf)),gB p (W.map ChD.base) i b=gB q W i b
 | [],_,_=>rfl
 |c::W,i,b=>by
  simp only[tU,gB,h,gF];exact jW p q h W _ _
theorem least_base(L W:List ChD):bN (aU (L.map ChD.base)) (W.map ChD.base)=bN (aU L) W:=jW _ _ (jV L) W 0 none
theorem lW{α β:Type}(f:α→β):∀(l:List α) (i:Nat),(l.map f).eraseIdx i=(l.eraseIdx i).map f
 | [],_=>rfl
 |_::_,0=>rfl
 |a::l,i+1=>by simp only[tU,List.eraseIdx_cons_succ,lW f l i]
theorem kI:∀(n:Nat) (L W:List ChD),bO n (L.map ChD.base) (W.map ChD.base)=((bO n L W).1.map ChD.base,(bO n L W).2.map ChD.base)
 |0,_,_=>rfl
 |n+1,L,W=>by
  unfold bO;rw[least_base];cases bN (aU L) W with
  |none=>rfl
  |some b =>
   obtain⟨i,r⟩:=b
   simp only[uQ];cases W[i]? with
   |none=>rfl
   |some x =>
    simp only[vC,lK];have h1:=kI n (L++[x]) (W.eraseIdx i);have h2:=kI n L (W.eraseIdx i);rw[tN]at h1;rw[lW];cases bR L x with
    |true=>simp only[if_true];exact h1
    |false=>simp only[uT,if_false];exact h2
theorem find_base(L:List ChD)(r:Rf):aV (L.map ChD.base) r=(aV L r).map ChD.base:=by
 unfold aV;induction L with
 |nil=>rfl
 |cons c L ih =>
  by_cases h:c.rf=r
  ·simp[gF,h]
  ·rw[tU,List.find?_cons,List.find?_cons,gF,sI h];exact ih
theorem qX(c d:ChD):fF c.base d.base=fF c d:=by
 unfold fF;rw[nY,nY]
theorem take_base(L W:List ChD)(c:ChD):aS (L.map ChD.base) (W.map ChD.base) c.base=(((aS L W c).1.1.map ChD.base,(aS L W c).1.2.map ChD.base),(aS L W c).2):=by
 unfold aS;rw[iJ,gF];by_cases he:c.err≠0
 ·rw[tA he,tA he]
 rw[sT he,sT he,find_base,find_base];cases h1:aV L c.rf with
 |some d=>simp only[vC,qX]
 |none =>
  cases h2:aV W c.rf with
  |some d=>simp only[vC,Option.map_none,qX]
  |none =>
   simp only[Option.map_none,tF];by_cases h3:120≤L.length+W.length
   ·rw[tA h3,tA h3]
   rw[sT h3,sT h3,jV,lK];cases aU L c with
   |false=>simp
   |true =>
    cases bR L c with
    |false=>simp
    |true =>
     simp only[Bool.true_eq_false,if_false];have:=kI W.length (L++[c]) W
     rw[tN]at this;rw[show L.map ChD.base++[c.base]=L.map ChD.base++[c].map ChD.base from rfl,this]
theorem next_base(L out:List ChD)(c:ChD):dG (L.map ChD.base) (out.map ChD.base) c.base=dG L out c:=by
 unfold dG;rw[lH];rfl
theorem allGo_base(L:List ChD):∀(n:Nat) (out:List ChD),fJ (L.map ChD.base) n (out.map ChD.base)=(fJ L n out).map ChD.base
 |0,_=>rfl
 |n+1,out=>by
  unfold fJ;rw[show bN (dG (L.map ChD.base) (out.map ChD.base)) (L.map ChD.base)=bN (dG L out) L from jW _ _ (next_base L out) L 0 none];cases bN (dG L out) L with
  |none=>rfl
  |some b =>
   obtain⟨i,r⟩:=b
   simp only[uQ];cases L[i]? with
   |none=>rfl
   |some x =>
    simp only[vC];have:=allGo_base L n (out++[x])
    rw[tN]at this;exact this
theorem allP_base(L:List ChD):dU (L.map ChD.base)=(dU L).map ChD.base:=by
 unfold dU;rw[tF];exact allGo_base L L.length []
end
section
open Go.RowKit
structure Ag(L0 W0:List ChD)(S:List Rf)(i:Nat)(L W:List ChD):Prop where
 inv:Inv L W
 eq:bO W0.length L0 W0=bO W.length L W
 old:∀c∈W,c.rf∈S.take i→aU L c=false
 all:∀c∈W,c.rf∈S
 new:∀r∈S.drop i,r∈aB W
 asc:lN S
 nd:S.Nodup
section
variable{L0 W0 L W:List ChD}{S:List Rf}{i j:Nat}{r:Rf}{x:ChD}
theorem Ag.start(h:Inv L W)(he:bO W0.length L0 W0=bO W.length L W)(hp:S.Perm (aB W))(ha:lN S):Ag L0 W0 S 0 L W :=
 ⟨h,he,(fun _ _ h=>by simp at h),(fun c hc=>hp.mem_iff.2 (bX hc)),(fun r hr=>hp.mem_iff.1 (by simpa using hr)),ha,hp.nodup_iff.2 h.nd⟩
theorem refs_at(h:r∈aB W):∃(j:Nat) (x:ChD),W[j]?=some x∧x.rf=r:=by
 obtain⟨x,hx,e⟩:=sW.1 h
 obtain⟨j,hj,hx⟩:=wB hx
 exact⟨j,x,sE.2 ⟨hj,hx⟩,e⟩
theorem Ag.at(h:Ag L0 W0 S i L W)(hs:S[i]?=some r):∃(j:Nat) (x:ChD),W[j]?=some x∧x.rf=r:=by
 refine refs_at (h.new r ?_);obtain⟨hi,e⟩:=sE.1 hs
 rw[uE hi,e];exact tM ..
theorem lQ(hs:S[i]?=some r){q:Rf}(h:q∈S.take (i+1)):q∈S.take i∨q=r:=by
 rw[sQ,hs,uH]at h;rcases sG.1 h with h|h
 ·exact .inl h
 ·exact .inr (sP.1 h)
theorem lX{q:Rf}(h:q∈S.drop (i+1)):q∈S.drop i:=by
 rw[←wZ]at h;exact List.mem_of_mem_drop h
theorem inv_one(h:Inv L W){c d:ChD}(hc:c∈W)(hd:d∈W)(e:c.rf=d.rf):c=d:=by
 have h1:=dQ h.nd hc;have h2:=dQ h.nd hd;rw[e,h2]at h1;exact(tK h1).symm
theorem Ag.skip(h:Ag L0 W0 S i L W)(hs:S[i]?=some r)(hx:W[j]?=some x)(hr:x.rf=r)(hn:aU L x=false):Ag L0 W0 S (i+1) L W :=
 ⟨h.inv,h.eq,(fun c hc hm=>by
  rcases lQ hs hm with hm|hm
  ·exact h.old c hc hm
  ·rw[inv_one h.inv hc (sJ hx) (by rw[hm,hr])];exact hn),h.all,(fun q hq=>h.new q (lX hq)),h.asc,h.nd⟩
theorem Ag.least(h:Ag L0 W0 S i L W)(hs:S[i]?=some r)(hx:W[j]?=some x)(hr:x.rf=r)(hn:aU L x=true):bN (aU L) W=some (j,x.rf):=by
 refine mM h.inv.nd hx hn fun d hd hdr=>?_
 obtain⟨k,hk,e⟩:=wB (h.all d hd)
 have hk':S[k]?=some d.rf:=sE.2 ⟨hk,e⟩;rw[hr];rcases Nat.lt_trichotomy k i with hlt|rfl|hgt
 ·have:=h.old d hd (by
   rw[List.mem_take_iff_getElem];exact⟨k,by omega,e⟩)
  rw[this]at hdr;cases hdr
 ·rw[hk']at hs;cases hs;unfold aM;rw[decide_eq_false_iff_not];omega
 ·have:=h.asc i k r d.rf hgt hs hk'
  unfold aM;rw[decide_eq_false_iff_not];exact this
theorem drop_next(hn:S.Nodup)(hs:S[i]?=some r):r∉S.drop (i+1):=by
 obtain⟨hi,e⟩:=sE.1 hs
 have h1:(S.drop i).Nodup:=hn.sublist (List.drop_sublist _ _);rw[uE hi,e]at h1;exact(uI.1 h1).1
theorem refs_erase(hn:(aB W).Nodup)(hx:W[j]?=some x){q:Rf}(hq:q∈aB W)(hne:q≠x.rf):q∈aB (W.eraseIdx j):=by
 obtain⟨c,hc,rfl⟩:=sW.1 hq
 refine bX ?_;have hp:=iC W j x hx;rcases sO.1 (hp.mem_iff.1 hc) with h|h
 ·exact absurd (congrArg ChD.rf h) hne
 ·exact h
theorem refs_gone(hn:(aB W).Nodup)(hx:W[j]?=some x){c:ChD}(hc:c∈W.eraseIdx j):c.rf≠x.rf:=by
 have hp:=iC W j x hx;have h1:(aB (x::W.eraseIdx j)).Nodup:=(hp.map ChD.rf).nodup_iff.1 hn;intro he;exact(uI.1 h1).1 (by show x.rf∈aB (W.eraseIdx j);rw[←he];exact bX hc)
theorem Ag.lose(h:Ag L0 W0 S i L W)(hs:S[i]?=some r)(hx:W[j]?=some x)(hr:x.rf=r)(hn:aU L x=true)(hf:bR L x=false):Ag L0 W0 S (i+1) L (W.eraseIdx j):=by
 refine⟨h.inv.drop j,?_,fun c hc hm=>?_,fun c hc=>h.all c (dJ hc),fun q hq=>?_,h.asc,h.nd⟩
 ·rw[h.eq,oM (h.least hs hx hr hn) hx,hf];rfl
 ·rcases lQ hs hm with hm|hm
  ·exact h.old c (dJ hc) hm
  ·exact absurd (hm.trans hr.symm) (refs_gone h.inv.nd hx hc)
 ·refine refs_erase h.inv.nd hx (h.new q (lX hq)) ?_;rw[hr];rintro rfl;exact drop_next h.nd hs hq
theorem Ag.win(h:Ag L0 W0 S i L W)(hs:S[i]?=some r)(hx:W[j]?=some x)(hr:x.rf=r)(hn:aU L x=true)(hf:bR L x=true):
 bO W0.length L0 W0=bO (W.eraseIdx j).length (L++[x]) (W.eraseIdx j)∧Inv (L++[x]) (W.eraseIdx j)∧(W.eraseIdx j).length<W.length:=by
 refine⟨by rw[h.eq,oM (h.least hs hx hr hn) hx,hf];rfl,h.inv.move hx hn hf,?_⟩
 have hj:=(sE.1 hx).1;rw[uP hj];omega
theorem Ag.done(h:Ag L0 W0 S i L W)(hi:S.length≤i):bO W0.length L0 W0=(L,W):=by
 rw[h.eq];refine pH ?_;cases hl:bN (aU L) W with
 |none=>rfl
 |some b =>
  obtain⟨j,q⟩:=b
  obtain⟨x,hx,rfl,hp,-⟩:=dL hl
  have:=h.old x (sJ hx) (by rw[sL hi];exact h.all x (sJ hx))
  rw[this]at hp;cases hp
end
section
variable{L W:List ChD}{c d:ChD}
theorem takeP_err(he:c.err≠0):aS L W c=((L,W),c.err):=by unfold aS;rw[tA he]
theorem takeP_found(he:c.err=0)(h:(aV L c.rf).or (aV W c.rf)=some d):aS L W c=((L,W),fF d c):=by
 unfold aS;rw[sT (by simp[he])];cases h1:aV L c.rf with
 |some x=>rw[h1]at h;simp at h;subst h;rfl
 |none=>rw[h1]at h;simp at h;rw[h]
theorem takeP_none(he:c.err=0)(h:(aV L c.rf).or (aV W c.rf)=none):aV L c.rf=none∧aV W c.rf=none:=by
 cases h1:aV L c.rf with
 |some x=>rw[h1]at h;simp at h
 |none=>rw[h1]at h;simp at h;exact⟨rfl,h⟩
theorem takeP_full(he:c.err=0)(h1:aV L c.rf=none)(h2:aV W c.rf=none)(h3:120≤L.length+W.length):aS L W c=((L,W),4):=by
 unfold aS;rw[sT (by simp[he]),h1,h2];simp only[tA h3]
theorem qP(he:c.err=0)(h1:aV L c.rf=none)(h2:aV W c.rf=none)(h3:¬120≤L.length+W.length)(h4:aU L c=false):aS L W c=((L,W++[c]),0):=by
 unfold aS;rw[sT (by simp[he]),h1,h2];simp only[sT h3,tA h4]
theorem takeP_bad(he:c.err=0)(h1:aV L c.rf=none)(h2:aV W c.rf=none)(h3:¬120≤L.length+W.length)(h4:aU L c=true)(h5:bR L c=false):aS L W c=((L,W),7):=by
 unfold aS;rw[sT (by simp[he]),h1,h2];simp only[sT h3,h4,Bool.true_eq_false,if_false,h5,if_true]
theorem takeP_go(he:c.err=0)(h1:aV L c.rf=none)(h2:aV W c.rf=none)(h3:¬120≤L.length+W.length)(h4:aU L c=true)(h5:bR L c=true):aS L W c=(bO W.length (L++[c]) W,0):=by
 unfold aS;rw[sT (by simp[he]),h1,h2];simp only[sT h3,h4,Bool.true_eq_false,if_false,h5]
theorem found_in(h:(aV L c.rf).or (aV W c.rf)=some d):(d∈L∨d∈W)∧d.rf=c.rf:=by
 cases h1:aV L c.rf with
 |some x=>rw[h1]at h;simp at h;subst h;exact⟨.inl (cK h1).1,(cK h1).2⟩
 |none=>rw[h1]at h;simp at h;exact⟨.inr (cK h).1,(cK h).2⟩
end
end
section
open Go.RowKit
structure AllG(L:List ChD)(S:List Rf)(out:List ChD):Prop where
 fin:dU L=fJ L S.length out
 len:S.length+out.length=L.length
 mem:∀r,r∈S↔r∈aB L∧r∉aB out
 asc:lN S
 nd:S.Nodup
section
variable{L out:List ChD}{S:List Rf}{k:Nat}{r:Rf}{x:ChD}
theorem AllG.start(hn:(aB L).Nodup)(hp:S.Perm (aB L))(ha:lN S):AllG L S []:=by
 have hl:S.length=L.length:=by rw[hp.length_eq];simp[aB]
 exact⟨by rw[hl];rfl,by simp[hl],fun r=>by simp[aB,hp.mem_iff],ha,hp.nodup_iff.2 hn⟩
theorem lN.erase(h:lN S)(k:Nat):lN (S.eraseIdx k):=by
 intro i j x y hij hx hy;rw[List.getElem?_eraseIdx]at hx hy;by_cases h1:i<k
 ·rw[tA h1]at hx;by_cases h2:j<k
  ·rw[tA h2]at hy;exact h i j x y hij hx hy
  ·rw[sT h2]at hy;exact h i (j+1) x y (by omega) hx hy
 ·rw[sT h1]at hx;rw[sT (by omega)]at hy;exact h (i+1) (j+1) x y (by omega) hx hy
def gA(L out:List ChD)(r:Rf):Bool:=match aV L r with
 |some c=>c.deps.all fun d=>decide (d∈aB out)
 |none=>false
theorem AllG.step(h:AllG L S out)(hb:Bk L)(hk:S.findIdx? (gA L out)=some k)(hr:S[k]?=some r):∃x,aV L r=some x∧x∈L∧x.rf=r∧AllG L (S.eraseIdx k) (out++[x]):=by
 obtain⟨hkl,hpk,hlt⟩:=List.findIdx?_eq_some_iff_getElem.1 hk
 have er:S[k]=r:=by have:=sE.1 hr;exact this.2
 rw[er]at hpk;have hrL:=(h.mem r).1 (sJ hr);cases hf:aV L r with
 |none=>exact absurd hrL.1 (bW.1 hf)
 |some x =>
  obtain⟨hx,hxr⟩:=cK hf
  have hall:(x.deps.all fun d=>decide (d∈aB out))=true:=by unfold gA at hpk;rw[hf]at hpk;exact hpk
  have hnx:dG L out x=true:=by
   unfold dG;rw[hall,hxr,sI hrL.2];rfl
  obtain⟨i,hi,ei⟩:=wB hx
  have hxi:L[i]?=some x:=sE.2 ⟨hi,ei⟩;have hl:bN (dG L out) L=some (i,x.rf):=by
   refine mM hb.nodup hxi hnx fun d hd hpd=>?_
   unfold dG at hpd;rw[tJ]at hpd;have hdo:d.rf∉aB out:=by simpa using hpd.1
   obtain⟨j,hj,ej⟩:=wB ((h.mem d.rf).2 ⟨bX hd,hdo⟩)
   have hdj:S[j]?=some d.rf:=sE.2 ⟨hj,ej⟩;rw[hxr];rcases Nat.lt_trichotomy j k with hlt'|rfl|hgt
   ·have:=hlt j hlt'
    rw[ej]at this;unfold gA at this;rw[dQ hb.nodup hd]at this;simp only[Bool.not_eq_true]at this;rw[this]at hpd;cases hpd.2
   ·rw[hdj]at hr;cases hr;exact dZ _
   ·have:=h.asc k j r d.rf hgt hr hdj
    unfold aM;rw[decide_eq_false_iff_not];exact this
  have hln:S.length=(S.eraseIdx k).length+1:=by rw[uP hkl];omega
  refine⟨x,rfl,hx,hxr,⟨by rw[h.fin,hln];exact mR hl hxi,by have:=h.len;simp only[sF,sV,vU];omega,fun q=>?_,h.asc.erase k,h.nd.sublist (wT _ _)⟩⟩
  have hp:=iC S k r hr;have hnd:(r::S.eraseIdx k).Nodup:=hp.nodup_iff.1 h.nd;have h1:q∈S↔q=r∨q∈S.eraseIdx k:=by rw[hp.mem_iff,sO]
  have h2:q∈aB (out++[x])↔q∈aB out∨q=r:=by
   rw[bZ,sG];simp[aB,hxr]
  rw[h2];constructor
  ·intro hq;have:=(h.mem q).1 (h1.2 (.inr hq))
   refine⟨this.1,?_⟩
   rintro(h'|rfl)
   ·exact this.2 h'
   ·exact(uI.1 hnd).1 hq
  ·rintro⟨hq,hn⟩
   rcases h1.1 ((h.mem q).2 ⟨hq,fun h'=>hn (.inl h')⟩) with rfl|h'
   ·exact absurd (.inr rfl) hn
   ·exact h'
theorem AllG.more(h:AllG L S out)(hb:Bk L)(hs:0<S.length):∃k,S.findIdx? (gA L out)=some k∧k<S.length:=by
 cases hk:S.findIdx? (gA L out) with
 |some k=>exact⟨k,rfl,(List.findIdx?_eq_some_iff_getElem.1 hk).1⟩
 |none =>
  obtain⟨c,hc,hp⟩:=next_ex hb (out:=out) (by have:=h.len;omega)
  unfold dG at hp;rw[tJ]at hp;have hm:=(h.mem c.rf).2 ⟨bX hc,by simpa using hp.1⟩;have:=wG.1 hk c.rf hm
  unfold gA at this;rw[dQ hb.nodup hc]at this;simp only at this;rw[this]at hp;cases hp.2
theorem AllG.done(h:AllG L S out)(hs:S.length=0):dU L=out:=by
 rw[h.fin,hs];rfl
end
/-! ### lists of refs, ascending -/
theorem aheadR_asc{l:List Rf}(h:jA l):lN l∧l.Nodup:=by
 unfold jA at h;constructor
 ·intro i j x y hij hx hy hh;obtain⟨h1,e1⟩:=sE.1 hx
  obtain⟨h2,e2⟩:=sE.1 hy
  have:=List.pairwise_iff_getElem.1 h i j h1 h2 hij
  rw[e1,e2]at this;unfold aM at this;simp only[tL]at this;omega
 ·exact h.imp fun {a b} hab e=>by subst e;rw[dZ]at hab;cases hab
theorem asc_eq:∀ {a b:List Rf},lN a→a.Nodup→lN b→b.Nodup→(∀r,r∈a↔r∈b)→a=b
 | [],[],_,_,_,_,_=>rfl
 | [],y::b,_,_,_,_,h=>absurd ((h y).2 (tM ..)) (by simp)
 |x::a,[],_,_,_,_,h=>absurd ((h x).1 (tM ..)) (by simp)
 |x::a,y::b,ha,na,hb,nb,h=>by
  have tail:∀ {z:Rf} {l:List Rf},lN (z::l)→lN l:=fun hl i j x y hij hx hy=>hl (i+1) (j+1) x y (by omega) (by simpa using hx) (by simpa using hy)
  have least:∀ {z:Rf} {l:List Rf},lN (z::l)→∀u∈l,¬(u.1<z.1∨u.1=z.1∧u.2<z.2):=fun {z l} hl u hu=>by
   obtain⟨j,hj,e⟩:=wB hu
   exact hl 0 (j+1) z u (by omega) rfl (by simpa using sE.2 ⟨hj,e⟩)
  have hxy:x=y:=by
   have h1:=(h x).1 (tM ..);have h2:=(h y).2 (tM ..);rcases sO.1 h1 with e|h1
   ·exact e
   rcases sO.1 h2 with e|h2
   ·exact e.symm
   have q1:=least hb x h1;have q2:=least ha y h2;exact Prod.ext (by omega) (by omega)
  subst hxy;congr 1;refine asc_eq (tail ha) (uI.1 na).2 (tail hb) (uI.1 nb).2 fun r=>?_
  have hr:=h r;rw[sO,sO]at hr;constructor
  ·intro h';rcases hr.1 (.inr h') with rfl|h''
   ·exact absurd h' (uI.1 na).1
   ·exact h''
  ·intro h';rcases hr.2 (.inr h') with rfl|h''
   ·exact absurd h' (uI.1 nb).1
   ·exact h''
end
section
open Go.RowKit
theorem ins_asc{r:Rf}: ∀ {l:List Rf},jA l→r∉l→jA (l.takeWhile (fun x=>aM x r)++r::l.dropWhile (fun x=>aM x r))
 | [],_,_=>by simp[jA]
 |x::l,h,hn=>by
  obtain⟨h1,h2⟩:=uZ.1 h
  have hxr:x≠r:=fun e=>hn (by rw[e];exact tM ..)
  cases hx:aM x r with
  |true =>
   rw[List.takeWhile_cons_of_pos (by simpa using hx),List.dropWhile_cons_of_pos (by simpa using hx),vX];refine uZ.2 ⟨fun y hy=>?_,ins_asc h2 (fun e=>hn (uO _ e))⟩;rcases sG.1 hy with hy|hy
   ·exact h1 y ((List.takeWhile_sublist _).subset hy)
   ·rcases sO.1 hy with rfl|hy
    ·exact hx
    ·exact h1 y ((List.dropWhile_sublist _).subset hy)
  |false =>
   rw[List.takeWhile_cons_of_neg (by simp[hx]),List.dropWhile_cons_of_neg (by simp[hx]),vR];have hrx:aM r x=true:=by
    rcases hZ hxr with h'|h'
    ·rw[hx]at h';cases h'
    ·exact h'
   refine uZ.2 ⟨fun y hy=>?_,h⟩;rcases sO.1 hy with rfl|hy
   ·exact hrx
   ·exact fB hrx (h1 y hy)
theorem putQ_asc{l:List Rf}{r:Rf}(h:jA l):jA (cV l r):=by
 unfold cV;by_cases hm:r∈l
 ·rw[tA hm];exact h
 ·rw[sT hm];exact ins_asc h hm
theorem putQ_mem{l:List Rf}{r q:Rf}: q∈cV l r↔q=r∨q∈l:=by
 unfold cV;by_cases hm:r∈l
 ·rw[tA hm];exact⟨.inr,fun h=>h.elim (fun e=>by rw[e];exact hm) id⟩
 ·rw[sT hm];have e:q∈l↔q∈l.takeWhile (fun x=>aM x r)∨q∈l.dropWhile (fun x=>aM x r):=by
   rw[←sG,uJ]
  rw[sG,sO,e];constructor
  ·rintro(h|h|h)
   ·exact .inr (.inl h)
   ·exact .inl h
   ·exact .inr (.inr h)
  ·rintro(h|h|h)
   ·exact .inr (.inl h)
   ·exact .inl h
   ·exact .inr (.inr h)
theorem mG:∀(L:List ChD) (out:List Rf),jA out→jA (L.foldl (fun out c=>cV out c.rf) out)∧∀q,q∈L.foldl (fun out c=>cV out c.rf) out↔q∈out∨q∈aB L
 | [],out,h=>⟨h,fun q=>by simp[aB]⟩
 |c::L,out,h=>by
  obtain⟨h1,h2⟩:=mG L (cV out c.rf) (putQ_asc h)
  refine⟨h1,fun q=>?_⟩
  rw[vJ,h2 q,putQ_mem];simp only[aB,tU,sO];constructor
  ·rintro((h|h)|h)
   ·exact .inr (.inl h)
   ·exact .inl h
   ·exact .inr (.inr h)
  ·rintro(h|h|h)
   ·exact .inl (.inr h)
   ·exact .inl (.inl h)
   ·exact .inr h
theorem refsP_asc(L:List ChD):jA (eJ L):=(mG L [] List.Pairwise.nil).1
theorem refsP_mem(L:List ChD)(q:Rf):q∈eJ L↔q∈aB L:=by
 have:=(mG L [] List.Pairwise.nil).2 q
 simpa[eJ] using this
theorem waits_eq{W:List ChD}{S:List Rf}(hn:(aB W).Nodup)(hp:S.Perm (aB W))(ha:lN S):S=eJ W:=by
 obtain⟨h1,h2⟩:=aheadR_asc (refsP_asc W)
 exact asc_eq ha (hp.nodup_iff.2 hn) h1 h2 fun r=>by rw[hp.mem_iff,refsP_mem]
end
section
open Go.RowKit
theorem nO(a:Int):∀(l:List OpD) (st:Int),(cC a st l).Pairwise fun x y=>x.2.1<y.2.1
 | [],_=>List.Pairwise.nil
 |o::l,st=>by
  rw[cC,uZ];exact⟨fun y hy=>by have:=(bQ hy).2.1;show st<_;omega,nO a l _⟩
theorem pU:∀ {l K:List OpI},dD l K=true→l.Pairwise (fun x y=>x.2.1<y.2.1)→∀x∈l,∃K',cY x K'=true∧(∀y∈K',y∈K∨y∈l∧y.2.1<x.2.1)
 | [],_,_,_,x,hx=>by cases hx
 |z::l,K,h,hp,x,hx=>by
  rw[dD,tJ]at h;obtain⟨hp1,hp2⟩:=uZ.1 hp
  rcases sO.1 hx with rfl|hx
  ·exact⟨K,h.1,fun y hy=>.inl hy⟩
  ·obtain⟨K',h1,h2⟩:=pU h.2 hp2 x hx
   refine⟨K',h1,fun y hy=>?_⟩
   rcases h2 y hy with h3|h3
   ·rcases sG.1 h3 with h4|h4
    ·exact .inl h4
    ·rw[sP.1 h4];exact .inr ⟨tM ..,hp1 x hx⟩
   ·exact .inr ⟨uO _ h3.1,h3.2⟩
theorem iL{L:List ChD}{x:OpI}: x∈bE L↔∃c∈L,x∈c.opsI:=by
 unfold bE;rw[vG]
theorem iY(A B:List ChD):bE (A++B)=bE A++bE B:=by unfold bE;rw[uC]
theorem Bk.may{L:List ChD}(h:Bk L):∀x∈bE L,∃K,cY x K=true∧∀y∈K,y∈bE L∧y.2.1<x.2.1:=by
 induction h with
 |nil=>intro x hx;cases hx
 | @snoc L c hb he hw hn hr hf ih =>
   intro x hx;rw[iY,sG]at hx;rcases hx with hx|hx
   ·obtain⟨K,h1,h2⟩:=ih x hx
    exact⟨K,h1,fun y hy=>⟨by rw[iY];exact tI _ (h2 y hy).1,(h2 y hy).2⟩⟩
   ·have hx2:x∈c.opsI:=by simpa[bE] using hx
    simp only[bR,eO,tJ]at hf;obtain⟨⟨⟨-,-⟩,h3⟩,h4⟩:=hf
    obtain⟨K,h5,h6⟩:=pU h4 (nO _ _ _) x hx2
    refine⟨K,h5,fun y hy=>?_⟩
    rw[iY,sG];rcases h6 y hy with h7|h7
    ·obtain⟨b,hb1,hb2⟩:=vG.1 h7
     refine⟨.inl (iL.2 ⟨b,(vT.1 hb1).1,hb2⟩),?_⟩
     have h8:=tR.1 h3 y h7;have h9:=(bQ hx2).2.1;simp only[tL]at h8;omega
    ·exact⟨.inr (by simpa[bE] using h7.1),h7.2⟩
theorem lookP_some{K:List OpI}{n:Rf}{y:OpI}(h:cX K n=some y):y∈K∧y.2=n:=⟨vE h,by simpa using wW h⟩
theorem Bk.num{L:List ChD}(h:Bk L):∀x∈bE L,1≤x.2.1∧x.2.1≤1000100∧1≤x.2.2∧x.2.2≤99:=fun x hx=>by
 obtain⟨c,hc,hxc⟩:=iL.1 hx
 obtain⟨h1,h2,h3,-⟩:=bQ hxc
 have h4:=(h.err c hc).1;have h5:=eE h4;have h6:=eU (iX h4).1;unfold ChOk at h5;have h7:c.rf.1=c.a:=rfl;omega
theorem Bk.tree{L:List ChD}(h:Bk L):KTree (bE L) 1000100 where
 nd:=h.ids
 pos:=fun x hx=>(h.num x hx).1
 top:=fun x hx=>(h.num x hx).2.1
 up:=fun x hx _=>by
  obtain⟨K,h1,h2⟩:=h.may x hx
  unfold cY at h1;cases hk:eS x K with
  |none=>rw[hk]at h1;cases h1
  |some kd =>
   rw[hk]at h1;simp only[tJ]at h1;have h3:=h1.1.2;unfold dA at h3;by_cases he:elP x=(0,0)
   ·have:=(h.num x hx).1;rw[he];show(0:Int)<_;omega
   ·rw[sT he]at h3;cases hl:cX K (elP x) with
    |none=>rw[hl]at h3;cases h3
    |some y =>
     obtain⟨h4,h5⟩:=lookP_some hl
     have:=(h2 y h4).2
     rw[←h5];exact this
def kV(K:List OpI)(obj:Rf):Int:=if obj=(0,0) then 5 else match cX K obj with|some y=>if y.1.k=2 then y.1.vk else 0|none=>0
/-! ### All is another order of the same changes -/
theorem allGo_all{L:List ChD}(hb:Bk L):∀(n:Nat) (out:List ChD),(aB out).Nodup→(∀c∈out,c∈L)→out.length+n=L.length →
 (aB (fJ L n out)).Nodup∧(∀c∈fJ L n out,c∈L)∧(fJ L n out).length=L.length
 |0,out,h1,h2,h3=>⟨h1,h2,by simpa[fJ] using h3⟩
 |n+1,out,h1,h2,h3=>by
  obtain⟨d,hd1,hd2⟩:=next_ex hb (out:=out) (by omega)
  cases hl:bN (dG L out) L with
  |none=>have:=gC hl d hd1;rw[hd2]at this;cases this
  |some jr =>
   obtain⟨j,r⟩:=jr
   obtain⟨c,hc,hcr,hp,-⟩:=dL hl
   rw[mR hl hc];have hnew:c.rf∉aB out:=fun hm=>by
    unfold dG at hp;rw[sH hm]at hp;cases hp
   refine allGo_all hb n (out++[c]) ?_ ?_ ?_
   ·rw[bZ,uM];exact⟨h1,by simp[aB],fun a ha b hb' e=>hnew (by simp[aB]at hb';rw[←hb',←e];exact ha)⟩
   ·intro x hx;rcases sG.1 hx with hx|hx
    ·exact h2 x hx
    ·rw[sP.1 hx];exact sJ hc
   ·rw[sF,wS];omega
theorem lV{L:List ChD}(h:(aB L).Nodup):L.Nodup:=by
 unfold aB at h;rw[List.Nodup,vY]at h;exact h.imp fun h e=>h (by rw[e])
theorem gU{L:List ChD}(hb:Bk L):(dU L).Perm L:=by
 obtain⟨h1,h2,h3⟩:=allGo_all hb L.length [] (by simp[aB]) (by simp) (by simp)
 have hn:=lV h1;refine iW hn (lV hb.nodup) fun x=>⟨fun hx=>h2 x hx,fun hx=>?_⟩
 have hsub:∀r∈aB (dU L),r∈aB L:=fun r hr=>by
  obtain⟨c,hc,rfl⟩:=sW.1 hr
  exact bX (h2 c hc)
 have hr:x.rf∈aB (dU L):=Decidable.byContradiction fun hh=>by
  have h4:=oV (x.rf::aB (dU L)) (aB L) (uI.2 ⟨hh,h1⟩) (fun r hr=>by
   rcases sO.1 hr with rfl|hr
   ·exact bX hx
   ·exact hsub r hr)
  have h5:(aB (dU L)).length=L.length:=by unfold aB;rw[tF];exact h3
  have h6:(aB L).length=L.length:=by unfold aB;rw[tF]
  simp only[sV]at h4;omega
 obtain⟨c,hc,hcr⟩:=sW.1 hr
 have h7:=dQ hb.nodup (h2 c hc);have h8:=dQ hb.nodup hx;rw[hcr,h8]at h7;rw[tK h7];exact hc
theorem all_len{L:List ChD}(hb:Bk L):(dU L).length=L.length:=(gU hb).length_eq
end
section
open Go.RowKit
theorem same_rf{L:List ChD}(hn:(aB L).Nodup){b c:ChD}(hb:b∈L)(hc:c∈L)(e:b.rf=c.rf):b=c:=by
 have h1:=dQ hn hb;have h2:=dQ hn hc;rw[e,h2]at h1;exact(tK h1).symm
theorem pY{A L:List ChD}(hA:Bk A)(hL:Bk L)(hs:∀c∈A,c∈L){w:List Rf}(hw:∀r∈w,r∈aB A)(r:Rf):r∈aP A w↔r∈aP L w:=by
 have sub:∀ {q},q∈aB A→q∈aB L:=fun hq=>by
  obtain⟨c,hc,rfl⟩:=sW.1 hq
  exact bX (hs c hc)
 constructor
 ·intro h;refine gN (L:=A.reverse) (fun r=>r∈aP L w) (fun q hq _=>lA hq (sub (hw q hq))) (fun c hc hb d hd _=>?_) r h;exact eW hL.top (uN.2 (hs c (uN.1 hc))) hb hd
 ·intro h;refine gN (L:=L.reverse) (fun r=>r∈aP A w) (fun q hq _=>lA hq (hw q hq)) (fun c hc hb d hd _=>?_) r h;obtain⟨b,hb1,hb2⟩:=sW.1 (bL hb)
  have hbc:b=c:=same_rf hL.nodup (hs b hb1) (uN.1 hc) hb2;subst hbc;exact eW hA.top (uN.2 hb1) hb hd
theorem Bk.split{L:List ChD}(h:Bk L):∀c∈L,∃A,Bk A∧(∀b∈A,b∈L)∧aU A c=true∧bR A c=true:=by
 induction h with
 |nil=>intro c hc;cases hc
 | @snoc L c hb he hw hn hr hf ih =>
   intro x hx;rcases sG.1 hx with hx|hx
   ·obtain⟨A,h1,h2,h3,h4⟩:=ih x hx
    exact⟨A,h1,fun b hb=>tI _ (h2 b hb),h3,h4⟩
   ·rw[sP.1 hx];exact⟨L,hb,fun b hb=>tI _ hb,hr,hf⟩
theorem behind_dup{L:List ChD}(hb:Bk L)(w:List Rf):∃S:List Rf,S.Nodup∧∀r,r∈S↔r∈aP L w:=by
 refine⟨(aB L).filter (fun r=>decide (r∈aP L w)),hb.nodup.filter _,fun r=>?_⟩
 rw[vT,tL];exact⟨fun h=>h.2,fun h=>⟨bL h,h⟩⟩
theorem rI{A L:List ChD}(hA:(aB A).Nodup)(hL:(aB L).Nodup)(hs:∀c∈A,c∈L){r:Rf}(hr:r∈aB A):dO A r=dO L r:=by
 obtain⟨c,hc,rfl⟩:=sW.1 hr
 unfold dO;have h1:=dQ hA hc;have h2:=dQ hL (hs c hc);unfold ChD.rf at h1 h2 ⊢;rw[h1,h2]
theorem fits_part{A B L:List ChD}(hA:Bk A)(hB:Bk B)(hL:Bk L)(hAL:∀c∈A,c∈L)(hBL:∀c∈B,c∈L){c:ChD}(hrA:aU A c=true)(hrB:aU B c=true)(hf:bR A c=true):bR B c=true:=by
 obtain⟨S,hS,hSm⟩:=behind_dup hL c.deps
 have hSA:∀r,r∈S↔r∈aP A c.deps:=fun r=>by rw[hSm r,pY hA hL hAL (eZ hrA) r]
 have hSB:∀r,r∈S↔r∈aP B c.deps:=fun r=>by rw[hSm r,pY hB hL hBL (eZ hrB) r]
 have heq:S.flatMap (dO A)=S.flatMap (dO B):=dC fun r hr=>by
  rw[rI hA.nodup hL.nodup hAL (bL ((hSA r).1 hr)),rI hB.nodup hL.nodup hBL (bL ((hSB r).1 hr))]
 have hsubA:∀r∈S,r∈aB A:=fun r hr=>bL ((hSA r).1 hr)
 have hin:eO A c S=true:=by rw[hX hSA];exact hf
 unfold eO at hin;simp only[tJ]at hin;obtain⟨⟨⟨h1,-⟩,h3⟩,-⟩:=hin
 have hk:=iQ hA.nodup hS hsubA;have q1:∀r∈S,¬(r.1=c.a∧c.s≤r.2):=fun r hr=>by
  have:=tR.1 h1 r hr
  simp only[Bool.not_eq_true',Bool.and_eq_false_iff,decide_eq_false_iff_not]at this;rintro⟨a,b⟩
  rcases this with h|h
  ·exact h a
  ·exact h b
 have q2:∀x∈S.flatMap (dO A),x.2.1<c.st:=fun x hx=>by
  have:=tR.1 h3 x (hk.mem_iff.1 hx)
  simpa using this
 have e1:=fits_yes hA hS hSA (vF _) q1 q2;have e2:=fits_yes hB hS hSB (vF _) q1 (by rw[←heq];exact q2);rw[e2,←heq,←e1];exact hf
theorem Bk.reorder{L L':List ChD}(hb:Bk L)(hp:L'.Perm L)(hr:∀A c B,L'=A++c::B→∀d∈c.deps,d∈aB A):Bk L':=by
 have hn:(aB L').Nodup:=by
  unfold aB;exact(hp.map ChD.rf).nodup_iff.2 hb.nodup
 have key:∀n,n≤L'.length→Bk (L'.take n):=by
  intro n;induction n with
  |zero=>intro _;rw[tO];exact .nil
  |succ n ih =>
   intro hlt;obtain⟨c,hc⟩:∃c,L'[n]?=some c:=⟨_,sC (by omega)⟩
   have hA:=ih (by omega);have hcL:c∈L:=hp.mem_iff.1 (sJ hc);have hsplit:L'=L'.take n++c::L'.drop (n+1):=by
    obtain⟨h1,h2⟩:=sE.1 hc
    rw[←h2,wO,uL]
   have hd:=hr _ _ _ hsplit;have hready:aU (L'.take n) c=true:=tR.2 fun d hdd=>sH (hd d hdd)
   have hsub:∀b∈L'.take n,b∈L:=fun b hb'=>hp.mem_iff.1 (uY hb')
   have hnew:c.rf∉aB (L'.take n):=by
    rw[hsplit,bZ,uM]at hn;exact fun hm=>hn.2.2 _ hm c.rf (by simp[aB]) rfl
   obtain⟨A0,a1,a2,a3,a4⟩:=hb.split c hcL
   rw[sQ,hc,uH];exact .snoc hA (hb.err c hcL).1 (hb.err c hcL).2 hnew hready (fits_part a1 hA hb a2 hsub a3 hready a4)
 have:=key L'.length (sB _)
 rwa [sL (sB _)]at this
theorem pZ(L:List ChD):∀(n:Nat) (out:List ChD),(∀A c B,out=A++c::B→∀d∈c.deps,d∈aB A)→∀A c B,fJ L n out=A++c::B→∀d∈c.deps,d∈aB A
 |0,out,h=>h
 |n+1,out,h=>by
  unfold fJ;cases hl:bN (dG L out) L with
  |none=>exact h
  |some jr =>
   obtain⟨j,r⟩:=jr
   obtain⟨c,hc,hcr,hp,-⟩:=dL hl
   simp only[hc];refine pZ L n (out++[c]) fun A x B e d hd=>?_
   rcases wE B with rfl|⟨B',y,rfl⟩
   ·obtain⟨e1,e2⟩:=List.append_inj' e rfl
    cases e2;rw[←e1];unfold dG at hp;rw[tJ]at hp;exact of_decide_eq_true (tR.1 hp.2 d hd)
   ·rw[wF,←vX,←sX]at e;obtain⟨e1,-⟩:=List.append_inj' e rfl
    exact h A x B' e1 d hd
theorem Bk.all{L:List ChD}(hb:Bk L):Bk (dU L) :=
 hb.reorder (gU hb) (pZ L L.length [] fun A c B e=>by
  have:=congrArg List.length e
  simp at this)
end
section
open Go.RowKit
def VD.add(v:VD)(d:Int):VD:=⟨v.k,IntKind.i64.wrap (v.n+d),v.t,v.a,v.b⟩
def wh1(x:OpI):Wh:=(fQ x,x.1.key,eV x)
def jR(x:OpI):VD:=if x.1.k=2 then ⟨x.1.vk,x.1.vn,x.1.vt,x.2.1,x.2.2⟩ else ⟨x.1.vk,x.1.vn,x.1.vt,x.1.va,x.1.vb⟩
def nB(K:List OpI)(n:Rf):Bool:=K.any fun y=>decide (y.1.k≠4)&&decide (n∈y.1.l)
def oY(K:List OpI)(n:Rf):Int:=(K.map fun y=>if y.1.k=4 then (y.1.l.count n:Int)*y.1.vn else 0).sum
def mL(K:List OpI)(w:Wh)(x:OpI):Bool:=decide (wh1 x=w)&&(decide (x.1.k=1)||decide (x.1.k=2))&&!nB K x.2
theorem incP_snoc(K:List OpI)(x:OpI)(n:Rf):oY (K++[x]) n=oY K n+if x.1.k=4 then (x.1.l.count n:Int)*x.1.vn else 0:=by
 unfold oY;rw[tN,List.sum_append];simp
theorem wrap_congr{a b:Int}(h:a % 18446744073709551616=b % 18446744073709551616):IntKind.i64.wrap a=IntKind.i64.wrap b:=by
 have h':a % 2 ^ IntKind.i64.bits=b % 2 ^ IntKind.i64.bits:=h;unfold IntKind.wrap;simp only[h']
theorem wrap_mod(a:Int):∃t,IntKind.i64.wrap a=a+18446744073709551616*t:=by
 simp only[IntKind.wrap,IntKind.bits,IntKind.signed,vL,tL,Nat.reduceSub,Int.reducePow];split
 ·exact⟨-(a / 18446744073709551616)-1,by omega⟩
 ·exact⟨-(a / 18446744073709551616),by omega⟩
theorem wrap_wrap(a b:Int):IntKind.i64.wrap (IntKind.i64.wrap a+b)=IntKind.i64.wrap (a+b):=by
 obtain⟨t,ht⟩:=wrap_mod a
 rw[ht];apply wrap_congr;rw[show a+18446744073709551616*t+b=(a+b)+18446744073709551616*t from by omega,Int.add_mul_emod_self_left]
end
section
open Go.RowKit
def pN(l:List (Rf×VD))(e:Rf×VD):List (Rf×VD):=l.takeWhile (fun q=>aM e.1 q.1)++e::l.dropWhile (fun q=>aM e.1 q.1)
theorem putDV_perm(l:List (Rf×VD))(e:Rf×VD):(pN l e).Perm (e::l):=by
 unfold pN;have:=uJ (p:=fun q:Rf×VD=>aM e.1 q.1) (l:=l)
 conv=>rhs;rw[←this]
 exact wL
end
section
open Go.RowKit
def valJ(K:List OpI)(x:OpI):VD:=if x.1.vk=4 then (jR x).add (oY K x.2) else jR x
theorem valOf0_k(x:OpI):(jR x).k=x.1.vk:=by unfold jR;split<;>rfl
theorem valOf0_n(x:OpI):(jR x).n=x.1.vn:=by unfold jR;split<;>rfl
def atG(K:List OpI)(w:Wh)(i:Nat):List (Rf×VD):=(((K.take i).filter (mL K w)).map fun x=>(x.2,valJ K x)).foldl pN []
def atJ(K:List OpI)(w:Wh):List (Rf×VD):=atG K w K.length
theorem atG_yes{K:List OpI}{w:Wh}{i:Nat}{x:OpI}(h:K[i]?=some x)(hl:mL K w x=true):atG K w (i+1)=pN (atG K w i) (x.2,valJ K x):=by
 unfold atG;rw[sQ,h];simp[wQ,hl]
theorem atG_no{K:List OpI}{w:Wh}{i:Nat}{x:OpI}(h:K[i]?=some x)(hl:mL K w x=false):atG K w (i+1)=atG K w i:=by
 unfold atG;rw[sQ,h];simp[wQ,hl]
theorem fallV_len:∀(E out:List (Rf×VD)),(E.foldl pN out).length=out.length+E.length
 | [],out=>by simp
 |e::E,out=>by
  rw[vJ,fallV_len E];have:=(putDV_perm out e).length_eq
  simp only[sV]at this ⊢;omega
theorem atG_len(K:List OpI)(w:Wh)(i:Nat):(atG K w i).length≤i:=by
 unfold atG;rw[fallV_len,tF];have h1:=wD (mL K w) (K.take i);rw[tD]at h1;simp only[vU];omega
theorem putDV_at{l:List (Rf×VD)}{e:Rf×VD}{k:Nat}(hk:k≤l.length)(h1:∀x∈l.take k,aM e.1 x.1=true)(h2:∀x,l[k]?=some x→aM e.1 x.1=false):pN l e=l.take k++e::l.drop k:=by
 unfold pN;obtain⟨e1,e2⟩:=fL (fun q:Rf×VD=>aM e.1 q.1) l k hk h1 h2
 rw[e1,e2]
theorem overP_no{K:List OpI}{n:Rf}(h:∀y∈K,¬y.1.k=4→n∉y.1.l):nB K n=false:=by
 unfold nB;rw[List.any_eq_false];intro y hy;by_cases hk:y.1.k=4
 ·simp[hk]
 ·simp[h y hy hk]
theorem overP_yes{K:List OpI}{n:Rf}{y:OpI}(hy:y∈K)(hk:¬y.1.k=4)(hm:n∈y.1.l):nB K n=true:=by
 unfold nB;rw[wM];exact⟨y,hy,by simp[hk,hm]⟩
theorem incP_take{K:List OpI}{n:Rf}{i:Nat}{y:OpI}(h:K[i]?=some y):oY (K.take (i+1)) n=oY (K.take i) n+if y.1.k=4 then (y.1.l.count n:Int)*y.1.vn else 0:=by
 rw[sQ,h];exact incP_snoc _ _ _
end
section
structure OpsR(D:Nat→Prop)(w:World)(A:Option Addr)(K:List OpI):Prop where
 row:aC D w 15 A K.length (bS K)
 each:∀x∈K,aC D w 2 x.1.A x.1.l.length (aF x.1.l)∧x.1.l.length≤100000
theorem OpsR.keep{D:Nat→Prop}{w w':World}{A:Option Addr}{K:List OpI}(h:OpsR D w A K)(hk:lD D w w'):OpsR D w' A K :=
 ⟨h.row.keep hk,fun x hx=>⟨(h.each x hx).1.keep hk,(h.each x hx).2⟩⟩
theorem OpsR.more{D D':Nat→Prop}{w:World}{A:Option Addr}{K:List OpI}(h:OpsR D w A K)(hD:∀k,D k→D' k):OpsR D' w A K :=
 ⟨h.row.more hD,fun x hx=>⟨(h.each x hx).1.more hD,(h.each x hx).2⟩⟩
theorem OpsR.below{w w':World}{A:Option Addr}{K:List OpI}(h:OpsR (fun k=>k<w.heap.size) w A K)(hb:Below w.heap.size w w'):OpsR (fun k=>k<w'.heap.size) w' A K :=
 (h.keep fun k hk=>hb.block k hk).more fun _ hk=>sD hk hb.size
theorem OpsR.preds{D:Nat→Prop}{w:World}{A:Option Addr}{K:List OpI}(h:OpsR D w A K){i:Nat}{x:OpI}(hx:K[i]?=some x):aC D w 2 x.1.A x.1.l.length (aF x.1.l):=(h.each x (sJ hx)).1
theorem gO{α:Type}{l:List α}{k:Nat}{x y:α}(h:l[k]?=some x)(hy:y∈l.take (k+1)):y∈l.take k∨y=x:=by
 rw[sQ,h]at hy;simpa using hy
theorem sOver_any(K:List OpI)(n1 n2:Int)(A:Option Addr)(c:Nat)(w:World)(hr:OpsR (fun k=>k<w.heap.size) w A K)(hl:K.length≤100000):
 Calls Tryz.prog 103 #[.agg #[.slice A K.length c],.agg #[.int .i64 n1,.int .i64 n2]] w fun e w'=>e=.returned (.bool (nB K (n1,n2)))∧Below w.heap.size w w':=by
 obtain⟨n,hn⟩:∃n,K.length=n:=⟨_,rfl⟩
 have HN:=Hi hn;have hb1:Below w.heap.size w (w.alloc (.cells #[.slice A n c] 58)):=(sA _ w).alloc (sB _) _;have h1:=Blk.new w 58 #[.slice A n c];have hb2:Below w.heap.size w ((w.alloc (.cells #[.slice A n c] 58)).alloc (.cells #[.int .i64 n1,.int .i64 n2] 48)):=hb1.alloc hb1.size _;have h2:=Blk.new (w.alloc (.cells #[.slice A n c] 58)) 48 #[.int .i64 n1,.int .i64 n2];have H1:=Hi (h1.keep (sM _ (.cells #[.int .i64 n1,.int .i64 n2] 48) _ h1.lt));have H2:=Hi h2;have HB:=Hi hb2;have HR:=Hi (hr.below hb2);rw[tB]at H2;rw[hn]at hl ⊢;clear hr hb1 hb2 h1 h2 hn;go_enter Tryz.func103,Tryz.ntmps103;go_upto_region 2 with fail
 generalize (w.alloc (.cells #[.slice A n c] 58)).alloc (.cells #[.int .i64 n1,.int .i64 n2] 48)=V at H1 H2 HB HR ⊢;obtain⟨B,hB⟩:∃B,w.heap.size=B:=⟨_,rfl⟩
 have HBB:=Hi hB;rw[hB]at H1 H2 HB ⊢;clear hB;go_loopw [4,5,6] (fun s4 s5 _ wr=>∃i:Nat,s5=.int .i64 i∧s4=.bool false∧i≤n∧Hid (∀y∈K.take i,¬y.1.k=4→(n1,n2)∉y.1.l)∧∃m,wr=V.drewN m) (fun _ s5 _ _=>n-(intOf s5).toNat)
 case atStart=>exact⟨0,rfl,rfl,by omega,by show ∀y∈_,_;simp,0,rfl⟩
 case round =>
  obtain⟨i,rfl,rfl,hi,HI,m,rfl⟩:=hrel
  have p0:=cZ H1.o 0 rfl;by_cases hlt:i<n
  ·obtain⟨y,hy⟩:∃y,K[i]?=some y:=⟨_,sC (by rw[HN.o];exact hlt)⟩
   obtain⟨b,o,hA,-,key⟩:=gJ (show aC _ V 15 A n (bS K) from HN.o▸HR.o.row) HN.o hy
   have HPR:=Hi (HR.o.preds hy);have HYL:=(HR.o.each y (sJ hy)).2;have HY:=Hi hy;subst hA;have y0:V.cell? ⟨b,o+i*15,none⟩=some (.int .i64 y.1.k):=key 0 _ (by omega) rfl;have y12:V.cell? ⟨b,o+i*15+12,none⟩=some (.slice y.1.A y.1.l.length y.1.c):=key 12 _ (by omega) rfl;obtain⟨nl,hnl⟩:∃k,y.1.l.length=k:=⟨_,rfl⟩
   obtain⟨PA,hPA⟩:∃k,y.1.A=k:=⟨_,rfl⟩
   have HNL:=Hi hnl;rw[hnl,hPA]at y12 HPR;rw[hnl]at HYL;clear key hy hnl hPA;by_cases hk:y.1.k=4
   ·have e1:(y.1.k == 4)=true:=by simp[hk]
    have HI2:Hid (∀y∈K.take (i+1),¬y.1.k=4→(n1,n2)∉y.1.l):=fun z hz h4=>by
     rcases gO HY.o hz with h|h
     ·exact HI.o z h h4
     ·exact(h4 (h▸hk)).elim
    clear hk;go_wp2_with fail
    go_roundw
    case rel=>exact⟨i+1,by go_num,rfl,by omega,HI2,m,rfl⟩
    case measure=>simp[intOf];omega
   ·have e1:(y.1.k == 4)=false:=by simp[hk]
    have HK:=Hi hk;clear hk;go_upto_region 6 with fail
    go_loopw [4,6] (fun s4 s6 wr=>∃j:Nat,s6=.int .i64 j∧s4=.bool false∧j≤nl∧Hid ((n1,n2)∉y.1.l.take j)∧∃m,wr=V.drewN m) (fun _ s6 _=>nl-(intOf s6).toNat)
    case atStart=>exact⟨0,rfl,rfl,by omega,by show _∉_;simp,m,rfl⟩
    case round =>
     obtain⟨j,rfl,rfl,hj,HJ,m2,rfl⟩:=hrel
     obtain⟨q1,q2⟩:=ce2 H2.o
     by_cases hjl:j<nl
     ·obtain⟨⟨p1,p2⟩,hp⟩:∃p,y.1.l[j]?=some p:=⟨_,sC (by rw[HNL.o];exact hjl)⟩
      obtain⟨pb,po,rfl,-,hc⟩:=HPR.o.at_ (by omega) (by omega)
      have z0:V.cell? ⟨pb,po+j*2,none⟩=some (.int .i64 p1):=hc _ _ ((aN hp).1);have z1:V.cell? ⟨pb,po+j*2+1,none⟩=some (.int .i64 p2):=by have:=hc _ _ ((aN hp).2);rw[←tY]at this;exact this
      have HP:=Hi hp;have E:=fun w=>kC p1 p2 n1 n2 w
      obtain⟨eb,heb⟩:∃eb,(p1 == n1&&p2 == n2)=eb:=⟨_,rfl⟩
      rw[heb]at E;have HEB:Hid (eb=decide ((p1,p2)=(n1,n2))):=by show _=_;rw[gR,heb]
      clear hc hp heb;go_upto_region 8 with fail
      go_quiet (fail)
      change Exit.then _ _ _ _ ((V.drewN m2).drewN nq);have HD:Hid ((V.drewN m2).drewN nq=V.drewN (m2+nq)):=by show _=_;rw[tV]
      generalize hm9:m2+nq=m9 at HD;rw[HD.o];clear HD hm9;cases eb with
      |true =>
       have HE:Hid (nB K (n1,n2)=true):=overP_yes (sJ HY.o) HK.o (by rw[←of_decide_eq_true HEB.o.symm];exact sJ HP.o);clear z0 z1 q1 q2 E;go_wp2_with fail
       go_ret;exact⟨by rw[HE.o];rfl,by rw[HBB.o];exact aH HB.o _⟩
      |false =>
       have HJ2:Hid ((n1,n2)∉y.1.l.take (j+1)):=fun h=>by
        rcases gO HP.o h with h|h
        ·exact HJ.o h
        ·exact of_decide_eq_false HEB.o.symm h.symm
       clear z0 z1 q1 q2 E;go_wp2_with fail
       go_roundw
       case rel=>exact⟨j+1,by go_num,rfl,by omega,HJ2,_,rfl⟩
       case measure=>simp[intOf];omega
     ·have HI2:Hid (∀y∈K.take (i+1),¬y.1.k=4→(n1,n2)∉y.1.l):=fun z hz h4=>by
       rcases gO HY.o hz with h|h
       ·exact HI.o z h h4
       ·have:=HJ.o
        rw[sL (by rw[HNL.o];omega)]at this;rw[h];exact this
      clear HJ;go_wp2_with fail
      go_roundw
      case rel=>exact⟨i+1,by go_num,rfl,by omega,HI2,m2,rfl⟩
      case measure=>simp[intOf];omega
  ·have HE:Hid (nB K (n1,n2)=false):=overP_no fun y hy h4=>HI.o y (by rw[sL (by rw[HN.o];omega)];exact hy) h4
   go_wp2_with fail
   go_ret;exact⟨by rw[HE.o];rfl,by rw[HBB.o];exact aH HB.o _⟩
end
section
def mJ(x:OpI):Value:=.agg #[.int .i64 x.1.on,.int .i64 x.1.oa,.string x.1.key,.int .i64 (eV x).1,.int .i64 (eV x).2]
theorem lI(x:OpI)(w:World):Calls Tryz.prog 117 #[iH x] w fun e w'=>e=.returned (mJ x)∧Below w.heap.size w w':=by
 have hres:Tryz.f117.results=#[.cell 2 174]:=by kernel_rfl
 unfold iH mJ eV;cases hi:x.1.ins with
 |true =>
  simp only[if_true];go_enter Tryz.func117,Tryz.ntmps117;go_wp2_with fail
  refine bodyPost_ret (v:=.agg #[.int .i64 x.1.on,.int .i64 x.1.oa,.string x.1.key,.int .i64 x.2.1,.int .i64 x.2.2]) ?_ rfl ⟨rfl,?_⟩
  ·simp only[results,hres];go_simp
  ·repeat first
    |exact sA _ _
    |refine Below.setCell ?_ (by simp;try omega) _
    |refine tZ ?_ (by simp;try omega) _
 |false =>
  simp only[uT,if_false];go_enter Tryz.func117,Tryz.ntmps117;go_wp2_with fail
  refine bodyPost_ret (v:=.agg #[.int .i64 x.1.on,.int .i64 x.1.oa,.string x.1.key,.int .i64 x.1.en,.int .i64 x.1.ea]) ?_ rfl ⟨rfl,?_⟩
  ·simp only[results,hres];go_simp
  ·repeat first
    |exact sA _ _
    |refine Below.setCell ?_ (by simp;try omega) _
    |refine tZ ?_ (by simp;try omega) _
def fU(w:World)(b:Nat)(K:List OpI):Prop:=aJ w 48 b (K.map fun x=>(dB x.2,iH x))
theorem zero_op(w:World):(zeroValue 143).run Tryz.prog w=.ok mS w:=by kernel_rfl
def kT(K:List OpI)(r:Rf):Value:=match cX K r with|some y=>iH y|none=>mS
theorem rM{K:List OpI}{r:Rf}{y:OpI}(h:cX K r=some y):y∈K∧y.2=r:=by
 unfold cX at h;exact⟨vE h,by simpa using wW h⟩
theorem lookP_out{K:List OpI}{r:Rf}(h:cX K r=none):∀y∈K,y.2≠r:=by
 unfold cX at h;intro y hy;simpa using wP.1 h y hy
theorem fU.look{w:World}{b:Nat}{K:List OpI}(h:fU w b K){r:Rf}(hr:eL r):
 (Instr.lookup 141 (.map (some b)) (.agg #[.int .i64 r.1,.int .i64 r.2]) true).run Tryz.prog w=.ok (.tuple #[kT K r,.bool (cX K r).isSome]) w:=by
 unfold kT;cases hf:cX K r with
 |some y =>
  obtain⟨h1,h2⟩:=rM hf
  subst h2;exact aJ.hit h rR Tryz.underlying141 (zero_op w) (sW.2 ⟨y,h1,rfl⟩) true
 |none =>
  obtain⟨kl,hk⟩:=keyOf_id hr
  refine aJ.miss h rR Tryz.underlying141 (zero_op w) hk (fun p hp e=>?_) true;obtain⟨q,hq,rfl⟩:=sW.1 hp
  exact lookP_out hf q hq (gP e)
set_option maxRecDepth 100000 in
theorem eq_place(a b:Int)(t:ByteArray)(c d a' b':Int)(t':ByteArray)(c' d':Int)(w:World):
 (Op.equalIn 10000 174 (.agg #[.int .i64 a,.int .i64 b,.string t,.int .i64 c,.int .i64 d]) (.agg #[.int .i64 a',.int .i64 b',.string t',.int .i64 c',.int .i64 d'])).run Tryz.prog w=.ok ((a == a'&&b == b')&&(t.toList == t'.toList&&(c == c'&&d == d'))) w:=by
 have hS:Tryz.prog.underlying 174=some (.struct (Tryz.prog.fieldsOf 174)):=by kernel_rfl
 have hp:Tryz.prog.stoodInHeld 174=false:=by kernel_rfl
 have hT:∀(x y:ByteArray) (w:World),(Op.equalIn 9999 9 (.string x) (.string y)).run Tryz.prog w=.ok (x.toList == y.toList) w:=fun x y w=>run_equalIn_string w 9998 9 x y Tryz.underlying9
 have hD:=eq_id9;rw[show(10000:Nat)=9999+1 from rfl,run_equalIn_agg w 9999 174 _ _ hS hp];simp only[Program.fieldsOf,Tryz.underlying174,Op.eqFields];generalize Op.equalIn 9999=EQ at hT hD ⊢;go_simp;by_cases h1:a=a'<;>by_cases h2:b=b'<;>by_cases h3:t.toList=t'.toList<;>by_cases h4:c=c'<;>by_cases h5:d=d'<;>simp[h1,h2,h3,h4,h5]
theorem eq_places(y x:OpI)(w:World):(Op.equalIn 10000 174 (mJ y) (mJ x)).run Tryz.prog w=.ok (fY y x) w:=by
 unfold mJ fY;rw[eq_place];congr 1;have e:decide (y.1.key=x.1.key)=(y.1.key.toList == x.1.key.toList):=by
  rw[dec_key];by_cases h:y.1.key.toList=x.1.key.toList<;>simp[h]
 rw[e];by_cases h1:y.1.on=x.1.on<;>by_cases h2:y.1.oa=x.1.oa<;>by_cases h4:(eV y).1=(eV x).1<;>by_cases h5:(eV y).2=(eV x).2<;>simp[fQ,h1,h2,h4,h5,Prod.ext_iff]
end
section
open Go.RowKit
theorem Bk.of_base{M:List ChD}(h:Bk M):∀ {L:List ChD},L.map ChD.base=M.map ChD.base→Bk L:=by
 induction h with
 |nil =>
  intro L e;rw[wY,List.map_eq_nil_iff]at e;subst e;exact .nil
 |snoc hb he hw hn hr hf ih =>
  rename_i M c;intro L e;rcases wE L with rfl|⟨L',c',rfl⟩
  ·simp at e
  ·rw[wF]at e ⊢;rw[tN,tN]at e;obtain⟨e1,e2⟩:=List.append_inj' e rfl
   simp only[tU,wY,wH,and_true]at e2;have hrefs:aB L'=aB M:=by rw[←lH L',←lH M,e1]
   have hrf:c'.rf=c.rf:=by rw[←gF c',←gF c,e2]
   refine .snoc (ih e1) ?_ ?_ ?_ ?_ ?_
   ·rw[←iJ,e2,iJ];exact he
   ·intro o ho;have h1:Go.Proofs.YtjhkcbideddlgaaGreat.base o∈c'.base.ops:=vQ ho;rw[e2]at h1;obtain⟨o2,ho2,e3⟩:=sW.1 h1
    have h4:(Go.Proofs.YtjhkcbideddlgaaGreat.base o2).vn=(Go.Proofs.YtjhkcbideddlgaaGreat.base o).vn:=by rw[e3]
    have h4:o2.vn=o.vn:=h4;rw[←h4];exact hw o2 ho2
   ·rw[hrf,hrefs];exact hn
   ·rw[←jV,e1,e2,jV];exact hr
   ·rw[←lK,e1,e2,lK];exact hf
theorem opE_sizes{o:OpD}(h:eP o=0):o.key.size≤20∧o.l.length≤12∧o.k≤4:=by
 unfold eP opE at h;obtain⟨h1,h⟩:=aR h (by omega)
 obtain⟨h2,h⟩:=aR h (by omega)
 obtain⟨h3,h⟩:=aR h (by omega)
 by_cases h4:eQ o.l≠0
 ·rw[tA h4]at h;exact absurd h h4
 ·refine⟨by omega,?_,by omega⟩
  simp only[ne_eq,Decidable.not_not]at h4;unfold eQ at h4;obtain⟨h5,_⟩:=aR h4 (by omega)
  omega
theorem wrap_wf{x:Int}(h:(Lit.int .i64 x).wf=true):IntKind.i64.wrap x=x:=by
 simp only[Lit.wf,IntKind.min,IntKind.max,IntKind.signed,IntKind.bits]at h;simp at h;exact tH _ (by omega)
theorem Bk.opsOk{L:List ChD}(h:Bk L){x:OpI}(hx:x∈bE L):eP x.1=0∧(Lit.int .i64 x.1.vn).wf=true:=by
 obtain⟨c,hc,hxc⟩:=iL.1 hx
 have h1:=bQ hxc;exact⟨nV (h.err c hc).1 _ h1.2.2.2,(h.err c hc).2 _ h1.2.2.2⟩
theorem opsI_len'(c:ChD):c.opsI.length=c.ops.length:=by
 unfold ChD.opsI;generalize c.st=st;generalize c.ops=l;induction l generalizing st with
 |nil=>rfl
 |cons o l ih=>rw[cC,sV,sV,ih]
theorem Bk.lenOps{L:List ChD}(h:Bk L):(bE L).length≤40*L.length:=by
 have hk:∀c∈L,c.ops.length≤40:=fun c hc=>(eE (h.err c hc).1).2.2.1
 clear h;induction L with
 |nil=>simp[bE]
 |cons c L ih =>
  have h1:=hk c (tM ..);have h2:=ih fun d hd=>hk d (uO _ hd)
  have h3:bE (c::L)=c.opsI++bE L:=by simp[bE]
  rw[h3,sF,opsI_len',sV];omega
end
section
theorem bY.cell1{w:World}{g:Nat}{l:List Rf}(h:bY w g l){k:Nat}{r:Rf}(hr:l[k]?=some r):w.cell? ⟨g,k*2,none⟩=some (.int .i64 r.1):=(h _ _ (aN hr).1).1
theorem bY.cell2{w:World}{g:Nat}{l:List Rf}(h:bY w g l){k:Nat}{r:Rf}(hr:l[k]?=some r):w.cell? ⟨g,k*2+1,none⟩=some (.int .i64 r.2):=(h _ _ (aN hr).2).1
theorem bY.cleared{w:World}{g:Nat}{l:List Rf}(h:bY w g l)(m:Nat)(vs:List Value):bY (w.setCells g (m*2) vs) g (l.take m):=by
 intro j u hu;have hl:(aF (l.take m)).length≤m*2:=by rw[cG,tD];omega
 have hj:j<(aF (l.take m)).length:=(sE.1 hu).1;have e:aF l=aF (l.take m)++aF (l.drop m):=by rw[←bH,uL]
 have:=h j u (by rw[e,uD hj];exact hu)
 rw[wN,World.cell?_setCells_out g _ _ _ _ (fun _ _=>.inl (show j<m*2 by omega))];exact this
theorem eG{w:World}{g:Nat}: ∀(vs:List Value) (o:Nat) {w':World},Chg (fun k=>k=g) w w'→Chg (fun k=>k=g) w (w'.setCells g o vs)
 | [],_,_,h=>h
 |v::vs,o,_,h=>eG vs (o+1) (h.setCell (p:=⟨g,o,none⟩) (.inl rfl) v)
theorem clear_refs(w:World)(g o n c:Nat)(hn:0<n)(hc:∀i,i<n*2→(w.cell? ⟨g,o+i,none⟩).isSome=true)(hf:∀i,i<n*2→w.frozen? ⟨g,o+i,none⟩=false):
 (Builtin.clear_ #[30] 0 #[.slice (some ⟨g,o,none⟩) n c]).run Tryz.prog w=.ok (.tuple #[]) (w.setCells g o (List.replicate (n*2) (.int .i64 0))):=by
 have hz:(zeroValue 45).run Tryz.prog w=.ok (.agg #[.int .i64 0,.int .i64 0]) w:=Tryz.zeroValue45 w;have hzc:(Builtin.zeroCells (Value.agg #[.int .i64 0,.int .i64 0]).cells n).toList=List.replicate (n*2) (.int .i64 0):=by
  apply List.ext_getElem
  ·simp[Builtin.zeroCells,Value.cells]
  ·intro i h1 h2;simp only[Builtin.zeroCells,Value.cells];rcases Nat.mod_two_eq_zero_or_one i with h|h<;>simp[h]
 have hst:=run_storeCells_cells (P:=Tryz.prog) g o (List.replicate (n*2) (.int .i64 0)) 0 w (by simpa using hc) (by simpa using hf) (by intro v hv;rw[List.eq_of_mem_replicate hv];rfl);simp only[Nat.add_zero]at hst;obtain⟨m,rfl⟩:∃m,n=m+1:=⟨n-1,by omega⟩
 simp[Builtin.clear_,run_underlying Tryz.underlying30,hz,hzc,hst]
theorem bY.shifted{w:World}{g:Nat}{l:List Rf}(h:bY w g l){i:Nat}(hi:i<l.length):bY (w.setCells g (i*2) (aF (l.drop (i+1)))) g (l.eraseIdx i):=by
 intro j u hu;have e1:l.eraseIdx i=l.take i++l.drop (i+1):=vV l i;have hlt:(aF (l.take i)).length=i*2:=by rw[cG,tD];omega
 have hld:(aF (l.drop (i+1))).length=(l.length-(i+1))*2:=by rw[cG,uG]
 have H:∀j u,(aF l)[j]?=some u→w.cell? ⟨g,j,none⟩=some u∧w.frozen? ⟨g,j,none⟩=false:=h;have hh:∀j,j<l.length*2→(w.cell? ⟨g,j,none⟩).isSome=true∧w.frozen? ⟨g,j,none⟩=false:=fun j hj=>by
  obtain⟨u,hu⟩:∃u,(aF l)[j]?=some u:=⟨_,sC (by rw[cG];exact hj)⟩
  exact⟨by rw[(H j u hu).1];rfl,(H j u hu).2⟩
 rw[e1,bH]at hu;rcases wI j (i*2) with hj|hj
 ·rw[uD (by omega)]at hu;have e2:l=l.take i++l.drop i:=(uL i l).symm;have:=H j u (by rw[e2,bH,uD (by omega)];exact hu)
  rw[wN,World.cell?_setCells_out g _ _ _ _ (fun _ _=>.inl hj)];exact this
 ·rw[uS (by omega),hlt]at hu;have hj2:j-i*2<(aF (l.drop (i+1))).length:=(sE.1 hu).1;obtain⟨k,rfl⟩:∃k,j=i*2+k:=⟨j-i*2,by omega⟩
  rw[show i*2+k-i*2=k from by omega]at hu hj2;rw[wN,World.cell?_setCells_in g (aF (l.drop (i+1))) (i*2) w (fun t ht=>(hh (i*2+t) (by rw[hld]at ht;omega)).1) k hj2];rw[sC hj2]at hu;exact⟨hu,(hh (i*2+k) (by rw[hld]at hj2;omega)).2⟩
theorem append_down(w:World)(g i m cap cap2:Nat)(ty:TypeId)(l:List Rf)(h:bY w g l)(hi:i+1+m=l.length)(hc:l.length≤cap)(hcm:cap≤9223372036854775807):
 (Builtin.append_ #[30,30] ty #[.slice (some ⟨g,0,none⟩) i cap,.slice (some ⟨g,(i+1)*2,none⟩) m cap2]).run Tryz.prog w=.ok (.slice (some ⟨g,0,none⟩) (i+m) cap) (w.setCells g (i*2) (aF (l.drop (i+1)))):=by
 obtain⟨i0,hi0,hz0,hz1,hz2⟩:=info_parts gD
 have hld:(aF (l.drop (i+1))).length=m*2:=by rw[cG,uG,show l.length-(i+1)=m from by omega]
 have hh:∀j u,(aF (l.drop (i+1)))[j]?=some u→w.cell? ⟨g,(i+1)*2+j,none⟩=some u:=fun j u hu=>by
  have e2:l=l.take (i+1)++l.drop (i+1):=(uL (i+1) l).symm;have hlt:(aF (l.take (i+1))).length=(i+1)*2:=by rw[cG,tD,Nat.min_eq_left (by omega)]
  refine(h ((i+1)*2+j) u ?_).1
  rw[e2,bH,uS (by omega),hlt,show(i+1)*2+j-(i+1)*2=j from by omega];exact hu
 have hcell:∀j,j<l.length*2→(w.cell? ⟨g,j,none⟩).isSome=true∧w.frozen? ⟨g,j,none⟩=false:=fun j hj=>by
  obtain⟨u,hu⟩:∃u,(aF l)[j]?=some u:=⟨_,sC (by rw[cG];exact hj)⟩
  have:=h j u hu
  exact⟨by rw[this.1];rfl,this.2⟩
 have hfo:=run_firstCells_some (P:=Tryz.prog) w 2 m ⟨g,(i+1)*2,none⟩ m cap2 (aF (l.drop (i+1))) hld (fun j u hu=>by
  have:=hh j u hu
  unfold Addr.add;split
  ·rename_i e;rw[e]at this;exact this
  ·simpa using this)
 have hst:=run_storeCells_cells (P:=Tryz.prog) g (i*2) (aF (l.drop (i+1))) 0 w (fun j hj=>(hcell (i*2+j) (by rw[hld]at hj;omega)).1) (fun j hj=>(hcell (i*2+j) (by rw[hld]at hj;omega)).2) (aY _);simp only[Nat.add_zero]at hst;have hroom:i+m≤cap:=by omega
 simp[Builtin.append_,run_underlying Tryz.underlying30,sizeOf,typeInfo,hi0,hz1,Builtin.lenOf,hroom,hfo,Addr.add_lit,hst]
theorem append_down0(w:World)(g i cap cap2:Nat)(B:Option Addr)(ty:TypeId)(hi:i≤cap):
 (Builtin.append_ #[30,30] ty #[.slice (some ⟨g,0,none⟩) i cap,.slice B 0 cap2]).run Tryz.prog w=.ok (.slice (some ⟨g,0,none⟩) i cap) w:=by
 obtain⟨i0,hi0,hz0,hz1,hz2⟩:=info_parts gD
 have hf:(Builtin.firstCells 2 0 (.slice B 0 cap2)).run Tryz.prog w=.ok #[] w:=by
  cases B with
  |none=>exact run_firstCells_none (P:=Tryz.prog) w 2 0 0 cap2
  |some A=>exact run_firstCells_some (P:=Tryz.prog) w 2 0 A 0 cap2 [] rfl (fun j u hu=>by simp at hu)
 have hst:=run_storeCells_cells (P:=Tryz.prog) g (i*2) [] 0 w (fun j hj=>by simp at hj) (fun j hj=>by simp at hj) (fun u hu=>by simp at hu);simp only[Nat.add_zero]at hst;simp[Builtin.append_,run_underlying Tryz.underlying30,sizeOf,typeInfo,hi0,hz1,Builtin.lenOf,hi,hf,Addr.add_lit,hst];rfl
theorem delete1_any(g cap i n m:Nat)(l:List Rf)(w:World)(h:bY w g l)(hn:l.length=n)(hi:i+1+m=n)(hl:n≤1000000)(hc:n≤cap)(hm:cap≤9223372036854775807)(hcj:¬cap=i+1):
 Calls Tryz.prog 49 #[.slice (some ⟨g,0,none⟩) n cap,.int .i64 i,.int .i64 ((i:Int)+1)] w fun e w' =>
  e=.returned (.slice (some ⟨g,0,none⟩) (i+m) cap)∧bY w' g (l.eraseIdx i)∧Chg (fun k=>k=g) w w':=by
 have HN:=Hi hn;have hap:=fun c2 ty=>append_down w.drew g i m cap c2 ty l (h.keep (w':=w.drew) rfl) (by omega) (by omega) hm
 have HR1:Hid (bY (w.drew.setCells g (i*2) (aF (l.drop (i+1)))) g (l.eraseIdx i)):=(h.keep (w':=w.drew) rfl).shifted (by omega);have HC1:Hid (Chg (fun k=>k=g) w (w.drew.setCells g (i*2) (aF (l.drop (i+1))))):=eG _ _ (Chg.refl w).drew;have hld:(aF (l.drop (i+1))).length=m*2:=by rw[cG,uG,show l.length-(i+1)=m from by omega]
 have hzz:∀j,j<1*2→((w.drew.setCells g (i*2) (aF (l.drop (i+1)))).cell? ⟨g,(i+m)*2+j,none⟩).isSome=true∧(w.drew.setCells g (i*2) (aF (l.drop (i+1)))).frozen? ⟨g,(i+m)*2+j,none⟩=false:=by
  intro j hj;obtain⟨u,hu⟩:∃u,(aF l)[(i+m)*2+j]?=some u:=⟨_,sC (by rw[cG];omega)⟩
  have:=h _ u hu
  rw[wN,World.cell?_setCells_out g _ _ _ _ (fun _ _=>.inr (by show i*2+_≤(i+m)*2+j;rw[hld];omega))];exact⟨by rw[show w.drew.cell? ⟨g,(i+m)*2+j,none⟩=w.cell? ⟨g,(i+m)*2+j,none⟩ from rfl,this.1];rfl,this.2⟩
 have hclr:=clear_refs (w.drew.setCells g (i*2) (aF (l.drop (i+1)))) g ((i+m)*2) 1 (cap-(i+m)) (by omega) (fun j hj=>(hzz j hj).1) (fun j hj=>(hzz j hj).2);have HRL:Hid ((l.eraseIdx i).length=i+m):=by show _=_;rw[uP (by omega)];omega
 clear hzz hld;have hki:n-(i+1)=m:=by omega
 have hkm:n-(i+m)=1:=by omega
 have hcm:¬cap=i+m:=by omega
 have him:i+m≤n:=by omega
 have hic:i≤cap:=by omega
 have hin:i+1≤n:=by omega
 have hi0:0≤(i:Int)+1:=by omega
 have hi1:(i:Int)+1≤(n:Int):=by omega
 clear h hn;go_enter Tryz.func49,Tryz.ntmps49
 ·go_wp2_with fail
  refine wp_region_still_tail 6 (by kernel_rfl) (by kernel_rfl) ?_;simp only[tE,tO,tG,tT];repeat (first|(refine aQ rfl (fun K hK=>?_);go_simp;refine hK _ ?_;clear hK K)|(refine wpStill_skip rfl ?_;go_frame))
  refine wpStill_nil ?_;change wpList _ _ _ _ _ w.drew;go_wp2_with (refine fN rfl (.tmp 22) (.tmp 25) 30 30 rfl _ _ rfl rfl (fun v' w'=>v'=.slice (some ⟨g,0,none⟩) (i+m) cap∧w'=w.drew.setCells g (i*2) (aF (l.drop (i+1)))) ⟨_,_,hap _ _,rfl,rfl⟩ ?_;rintro v' w' ⟨rfl,rfl⟩)
  go_wp2_with fail
  go_ret;exact⟨rfl,by have:=HR1.o.cleared (i+m) (List.replicate (1*2) (.int .i64 0));rw[sL (by rw[HRL.o];omega)]at this;exact this,eG _ _ HC1.o⟩
theorem delete0_any(g i:Nat)(l:List Rf)(w:World)(h:bY w g l)(hn:l.length=i+1)(hl:i≤1000000):
 Calls Tryz.prog 49 #[.slice (some ⟨g,0,none⟩) (i+1) (i+1),.int .i64 i,.int .i64 ((i:Int)+1)] w fun e w' =>
  e=.returned (.slice (some ⟨g,0,none⟩) i (i+1))∧bY w' g (l.eraseIdx i)∧Chg (fun k=>k=g) w w':=by
 have hap:=fun c2 B ty=>append_down0 w.drew g i (i+1) c2 B ty (by omega)
 have HR1:Hid (bY w.drew g l):=h.keep (w':=w.drew) rfl;have hzz:∀j,j<1*2→(w.drew.cell? ⟨g,i*2+j,none⟩).isSome=true∧w.drew.frozen? ⟨g,i*2+j,none⟩=false:=by
  intro j hj;obtain⟨u,hu⟩:∃u,(aF l)[i*2+j]?=some u:=⟨_,sC (by rw[cG];omega)⟩
  have:=HR1.o _ u hu
  exact⟨by rw[this.1];rfl,this.2⟩
 have hclr:=clear_refs w.drew g (i*2) 1 1 (by omega) (fun j hj=>(hzz j hj).1) (fun j hj=>(hzz j hj).2);have HRL:Hid (l.eraseIdx i=l.take i):=by show _=_;rw[vV,uR (by omega),uW]
 clear hzz;have hkm:i+1-i=1:=by omega
 have hic:i≤i+1:=by omega
 have hi0:0≤(i:Int)+1:=by omega
 have hcm:¬i+1=i:=by omega
 have hi2:(i:Int)≤(i:Int)+1:=by omega
 clear h hn;go_enter Tryz.func49,Tryz.ntmps49;go_wp2_with fail
 refine wp_region_still_tail 6 (by kernel_rfl) (by kernel_rfl) ?_;simp only[tE,tO,tG,tT];repeat (first|(refine aQ rfl (fun K hK=>?_);go_simp;refine hK _ ?_;clear hK K)|(refine wpStill_skip rfl ?_;go_frame))
 refine wpStill_nil ?_;change wpList _ _ _ _ _ w.drew;go_wp2_with (refine fN rfl (.tmp 22) (.tmp 25) 30 30 rfl _ _ rfl rfl (fun v' w'=>v'=.slice (some ⟨g,0,none⟩) i (i+1)∧w'=w.drew) ⟨_,_,hap _ _ _,rfl,rfl⟩ ?_;rintro v' w' ⟨rfl,rfl⟩)
 go_wp2_with fail
 go_ret;exact⟨rfl,by rw[HRL.o];exact HR1.o.cleared i (List.replicate (1*2) (.int .i64 0)),eG _ _ (Chg.refl w).drew⟩
theorem delete_any(g cap i n m:Nat)(l:List Rf)(w:World)(h:bY w g l)(hn:l.length=n)(hi:i+1+m=n)(hl:n≤1000000)(hc:n≤cap)(hm:cap≤9223372036854775807):
 Calls Tryz.prog 49 #[.slice (some ⟨g,0,none⟩) n cap,.int .i64 i,.int .i64 ((i:Int)+1)] w fun e w' =>
  e=.returned (.slice (some ⟨g,0,none⟩) (i+m) cap)∧bY w' g (l.eraseIdx i)∧Chg (fun k=>k=g) w w':=by
 by_cases hcj:cap=i+1
 ·obtain rfl:m=0:=by omega
  obtain rfl:n=i+1:=by omega
  subst hcj;exact delete0_any g i l w h hn (by omega)
 ·exact delete1_any g cap i n m l w h hn hi hl hc hm hcj
end
section
structure SetV(w:World)(q m:Nat)(S:List Rf):Prop where
 cell:w.cell? ⟨q,0,none⟩=some (.map (some m))
 lt:q<w.heap.size
 set:fD w m S
theorem SetV.below{w w':World}{q m:Nat}{S:List Rf}(h:SetV w q m S)(hb:Below w.heap.size w w'):SetV w' q m S :=
 ⟨(sK (hb.block _ h.lt)).trans h.cell,sD h.lt hb.size,h.set.keep (hb.block _ (aJ.lt h.set))⟩
theorem all11_any(S:List Rf)(r:Rf)(hr:eL r)(q m:Nat)(w:World)(hS:SetV w q m S):
 Calls Tryz.prog 48 (#[.agg #[.int .i64 r.1,.int .i64 r.2]]++#[.pointer (some ⟨q,0,none⟩)]) w fun e w'=>e=.returned (.bool (!decide (r∈S)))∧Below w.heap.size w w':=by
 have hW:Below w.heap.size w (w.alloc (.cells #[.int .i64 r.1,.int .i64 r.2] 45)):=(sA _ w).alloc (sB _) _;have hQ:=Blk.new w 45 #[.int .i64 r.1,.int .i64 r.2];have hS2:=hS.below hW;have HW:=Hi hW;obtain⟨ok,hok⟩:∃ok,decide (r∈S)=ok:=⟨_,rfl⟩
 rw[hok];clear hS hW;show Calls _ _ #[.agg #[.int .i64 r.1,.int .i64 r.2],.pointer (some ⟨q,0,none⟩)] _ _;go_enter Tryz.func48,Tryz.ntmps48;go_upto_region 1 with fail
 generalize w.alloc (.cells #[.int .i64 r.1,.int .i64 r.2] 45)=V at *;obtain⟨r1,r2⟩:=ce2 hQ
 have m1:=hS2.cell;have hlk:=hS2.set.look hr;rw[hok]at hlk;unfold dB at hlk;clear hS2 hQ hok;go_wp2_with fail
 go_ret;exact⟨rfl,HW.o⟩
theorem field_deps(a s st:Int)(A:Option Addr)(n c:Nat)(A':Option Addr)(n' c':Nat)(w:World):
 (Instr.field 33 (.agg #[.int .i64 a,.int .i64 s,.int .i64 st,.slice A n c,.slice A' n' c']) 3).run Tryz.prog w=.ok (.slice A n c) w:=by kernel_rfl
theorem all1_any(L:List ChD)(x:ChD)(hf:aV L x.rf=some x)(hr:eL x.rf)(hd:∀d∈x.deps,eL d)(S:List Rf)(g bh q q2 m:Nat)(V2 V3:Value)(w:World)(hB:HB w g bh V2 V3 L)(hx:ChIn (fun k=>k<w.heap.size) w x)
 (hq:w.cell? ⟨q,0,none⟩=some (.pointer (some ⟨g,0,none⟩))) (hql:q<w.heap.size) (hS:SetV w q2 m S) :
 Calls Tryz.prog 46 (#[.agg #[.int .i64 x.a,.int .i64 x.s]]++#[.pointer (some ⟨q,0,none⟩),.pointer (some ⟨q2,0,none⟩)]) w fun e w'=>e=.returned (.bool (x.deps.all fun d=>decide (d∈S)))∧Below w.heap.size w w':=by
 have hW:Below w.heap.size w (w.alloc (.cells #[.int .i64 x.a,.int .i64 x.s] 45)):=(sA _ w).alloc (sB _) _;have hQ:=Blk.new w 45 #[.int .i64 x.a,.int .i64 x.s];have hS2:=hS.below hW;have hB2:=hB.below hW;have hq2:(w.alloc (.cells #[.int .i64 x.a,.int .i64 x.s] 45)).cell? ⟨q,0,none⟩=some (.pointer (some ⟨g,0,none⟩)):=by rw[tP _ _ _ hql];exact hq
 have hxd:=aA hx.hd hW;have hxl:=hx.hdl;have HW:=Hi hW;have EG:∀args w,(callFunc 48 args).run Tryz.prog w=.ok (.enter 48 args) w:=enters_of Tryz.func48 (by kernel_rfl) (wV (show Tryz.f48.body.isSome=true by kernel_rfl)).symm;have hall:(x.deps.all fun d=>decide (d∈S))=!(x.deps.any fun d=>!decide (d∈S)):=by rw[List.not_any_eq_all_not];simp
 obtain⟨ok,hok⟩:∃ok,(x.deps.any fun d=>!decide (d∈S))=ok:=⟨_,rfl⟩
 rw[hall,hok];clear hS hW hB hq hall hx;show Calls _ _ #[.agg #[.int .i64 x.a,.int .i64 x.s],.pointer (some ⟨q,0,none⟩),.pointer (some ⟨q2,0,none⟩)] _ _;go_enter Tryz.func46,Tryz.ntmps46;go_upto_region 1 with fail
 generalize w.alloc (.cells #[.int .i64 x.a,.int .i64 x.s] 45)=V at *;obtain⟨r1,r2⟩:=ce2 hQ
 have g0:=cZ hB2.blk 0 rfl;have hlk:=(hB2.below (sA _ V).drew).mh.look hr false;have hlv:hN L x.rf=x.v:=by unfold hN;rw[hf]
 rw[hlv]at hlk;unfold ChD.v ChD.rf at hlk;simp only[uT,if_false]at hlk;have C1:=lY x.deps x.DA x.DC V.drew (hxd.keep fun k hk=>rfl) hxl 48 #[.pointer (some ⟨q2,0,none⟩)] (fun d=>!decide (d∈S)) EG
  (fun W r hr' hb=>all11_any S r (hd r hr') q2 m W ((hS2.below (sA _ V).drew).below hb))
 rw[hok]at C1;have hfl:=fun w=>field_deps x.a x.s x.st x.DA x.deps.length x.DC x.OA x.ops.length x.OC w
 clear hS2 hQ hB2 hlv;refine wp_region_still_tail 8 (by kernel_rfl) (by kernel_rfl) ?_;simp only[tE,tO,tG,tT];repeat (first|(refine aQ rfl (fun K hK=>?_);go_simp;refine hK _ ?_;clear hK K)|(refine wpStill_skip rfl ?_;go_frame))
 refine wpStill_nil ?_;change wpList _ _ _ _ _ V.drew;go_wp2_with fail
 go_at_call 47;refine C1.mono ?_;rintro e w2 ⟨rfl,hb⟩;replace HW:Hid (Below w.heap.size w w2):=HW.o.drew.trans (hb.mono HW.o.size);go_wp2_with fail
 go_ret;exact⟨rfl,HW.o⟩
end
section
end
section
theorem sKind_any(K:List OpI)(o1 o2:Int)(A:Option Addr)(c:Nat)(w:World)(hr:aC (fun k=>k<w.heap.size) w 15 A K.length (bS K))(hl:K.length≤100000):
 Calls Tryz.prog 22 #[.agg #[.slice A K.length c],.agg #[.int .i64 o1,.int .i64 o2]] w fun e w'=>e=.returned (.int .i64 (kV K (o1,o2)))∧Below w.heap.size w w':=by
 obtain⟨n,hn⟩:∃n,K.length=n:=⟨_,rfl⟩
 have HN:=Hi hn;have hb1:Below w.heap.size w (w.alloc (.cells #[.slice A n c] 58)):=(sA _ w).alloc (sB _) _;have h1:=Blk.new w 58 #[.slice A n c];have hb2:Below w.heap.size w ((w.alloc (.cells #[.slice A n c] 58)).alloc (.cells #[.int .i64 o1,.int .i64 o2] 48)):=hb1.alloc hb1.size _;have h2:=Blk.new (w.alloc (.cells #[.slice A n c] 58)) 48 #[.int .i64 o1,.int .i64 o2];have H1:=Hi (h1.keep (sM _ (.cells #[.int .i64 o1,.int .i64 o2] 48) _ h1.lt));have H2:=Hi h2;have HB:=Hi hb2;have HR:=Hi (aA hr hb2);rw[tB]at H2;rw[hn]at hl HR ⊢;clear hr hb1 hb2 h1 h2 hn;go_enter Tryz.func22,Tryz.ntmps22;go_upto_region 1 with fail
 generalize (w.alloc (.cells #[.slice A n c] 58)).alloc (.cells #[.int .i64 o1,.int .i64 o2] 48)=w1 at H1 H2 HB HR ⊢;obtain⟨B,hB⟩:∃B,w.heap.size=B:=⟨_,rfl⟩
 have HBB:=Hi hB;rw[hB]at H1 H2 HB ⊢;clear hB;obtain⟨p1,p2⟩:=ce2 H2.o
 have C1:=cB o1 o2 w1;obtain⟨rb,hrb⟩:∃b,bD o1 o2=b:=⟨_,rfl⟩
 have hrd:rb=decide (((o1,o2):Rf)=(0,0)):=by rw[←hrb,gR];rfl
 have HRD:=Hi hrd;rw[hrb]at C1;clear hrb hrd;go_wp2_with fail
 go_at_call 34;refine C1.mono ?_;rintro e w2 ⟨rfl,hb⟩;have H1b:=Hi (H1.o.keep (hb.block _ H1.o.lt));have H2b:=Hi (H2.o.keep (hb.block _ H2.o.lt));have HB2:Hid (Below B w w2):=HB.o.trans (hb.mono (by rw[←HBB.o];exact HB.o.size));have HR2:=Hi (aA HR.o hb);clear C1 hb p1 p2 H1 H2 HB HR;cases rb with
 |true =>
  have HK:Hid (kV K (o1,o2)=5):=by show _=_;unfold kV;rw[tA (of_decide_eq_true HRD.o.symm)]
  go_wp2_with fail
  go_ret;exact⟨by rw[HK.o];rfl,by rw[HBB.o];exact HB2.o⟩
 |false =>
  have HNR:Hid (¬((o1,o2):Rf)=(0,0)):=of_decide_eq_false HRD.o.symm;have p0:=cZ H1b.o 0 rfl;obtain⟨p1,p2⟩:=ce2 H2b.o
  have C2:=slook_any K (o1,o2) (fun k=>k<w2.heap.size) A c w2 (by rw[HN.o];exact HR2.o) (fun _ h=>h) (by rw[HN.o];omega);rw[HN.o]at C2;go_wp2_with fail
  go_at_call 62;refine C2.mono ?_;rintro e w3 ⟨i,rfl,hi,hb⟩;have H1c:=Hi (H1b.o.keep (hb.block _ H1b.o.lt));have HB3:Hid (Below B w w3):=HB2.o.trans (hb.mono (by rw[←HBB.o];exact HB2.o.size));have HR3:=Hi (aA HR2.o hb);clear C2 hb p0 p1 p2 H1b H2b HB2 HR2;rcases hi with⟨rfl,hno⟩|⟨kk,y,rfl,hy,hlk⟩
  ·have HK:Hid (kV K (o1,o2)=0):=by show _=_;unfold kV;rw[sT HNR.o,hno]
   clear hno;go_wp2_with fail
   go_ret;exact⟨by rw[HK.o];rfl,by rw[HBB.o];exact HB3.o⟩
  ·have hK2:=HR3.o;obtain⟨b,o,hA,-,key⟩:=gJ hK2 HN.o hy
   subst hA;have hkn:kk<n:=by rw[←HN.o];exact(sE.1 hy).1
   have p0:=cZ H1c.o 0 rfl;have d0:w3.cell? ⟨b,o+kk*15,none⟩=some (.int .i64 y.1.k):=key 0 _ (by omega) rfl;have d7:w3.cell? ⟨b,o+kk*15+7,none⟩=some (.int .i64 y.1.vk):=key 7 _ (by omega) rfl;have hk0:decide ((kk:Int)<0)=false:=sI (by omega);clear key hK2;by_cases h2:y.1.k=2
   ·have HK:Hid (kV K (o1,o2)=y.1.vk):=by show _=_;unfold kV;rw[sT HNR.o,hlk];simp only[h2,if_true]
    have e1:(y.1.k != 2)=false:=by simp[h2]
    clear hlk hy h2;go_wp2_with fail
    go_ret;exact⟨by rw[HK.o];rfl,by rw[HBB.o];exact HB3.o⟩
   ·have HK:Hid (kV K (o1,o2)=0):=by show _=_;unfold kV;rw[sT HNR.o,hlk];simp only[h2,if_false]
    have e1:(y.1.k != 2)=true:=by simp[h2]
    clear hlk hy h2;go_wp2_with fail
    go_ret;exact⟨by rw[HK.o];rfl,by rw[HBB.o];exact HB3.o⟩
end
section
theorem qY(L W:List ChD)(g:Nat)(w:World)(hB:BR w g L W)(hk:Bk L)(hl:L.length≤1000000):
 Calls Tryz.prog 35 #[.pointer (some ⟨g,0,none⟩)] w fun e w'=>∃v,e=.returned v∧w'.ownsRow w.heap.size 33 5 v (dU L).length (aW (dU L))∧Below w.heap.size w w':=by
 obtain⟨A,c,A',c',hg,hL,hW'⟩:=hB
 have HG:=Hi hg;have HL:=Hi hL;have HK:=Hi hk;obtain⟨n,hn⟩:∃n,L.length=n:=⟨_,rfl⟩
 have HN:=Hi hn;rw[hn]at hl HG;clear hg hL hW' hn hk;have C1:=fun(V:World) (out:List ChD) (r:Rf) A cc h1 h2=>jD out r (fun k=>k<V.heap.size) A cc V h1 (fun _ h=>h) h2
 go_enter Tryz.func35,Tryz.ntmps35;go_wp2_with fail
 go_loopw [3,4,5,6,7,8,9] (fun s3 _ _ _ _ _ _ wr=>∃out:List ChD,out.length≤n∧Hid (wr.ownsRow w.heap.size 33 5 s3 out.length (aW out))∧Hid (dU L=fJ L (n-out.length) out)∧Hid (Below w.heap.size w wr)) (fun s3 _ _ _ _ _ _ _=>n-slen s3)
 case atStart=>exact⟨[],by simp,bB _ _ _ _,by show _=_;rw[←HN.o];rfl,sA _ _⟩
 case round =>
  obtain⟨out,ho,HO,HA,HW⟩:=hrel
  obtain⟨Ao,co,rfl,hco,-,hro⟩:=aC.of_own HO.o
  have HRO:Hid (aC (fun k=>k<wr.heap.size) wr 5 Ao out.length (aW out)):=hro.more fun k hk=>(aD HO.o hk).2
  clear hro;have g0:=cZ (HG.o.keep (HW.o.block _ HG.o.lt)) 0 rfl;by_cases hlo:out.length<n
  ·obtain⟨wo,hwo⟩:∃wo,wo=wr:=⟨_,rfl⟩
   subst hwo;have hdo:decide ((out.length:Int)<(n:Int))=true:=sH (by omega);go_wp2_with fail
   go_loopw [4,5,6,7,8,9] (fun s4 s5 _ _ _ _ wr=>∃(i:Nat) (best:Option (Nat×Rf)),s5=.int .i64 i∧i≤n∧s4=.int .i64 (atP best)∧Hid (fE (dG L out) L i best)∧Hid (Below wo.heap.size wo wr)) (fun _ s5 _ _ _ _ _=>n-(intOf s5).toNat)
   case atStart=>exact⟨0,none,rfl,by omega,rfl,fE.start _ _,sA _ _⟩
   case round =>
    clear g0 hdo;obtain⟨i,best,rfl,hi,rfl,HSC,HWI⟩:=hrel
    have HWW:Hid (Below w.heap.size w wr):=HW.o.trans (HWI.o.mono HW.o.size);have g0:=cZ (HG.o.keep (HWW.o.block _ HG.o.lt)) 0 rfl;by_cases hlt:i<n
    ·obtain⟨y,hy⟩:∃y,L[i]?=some y:=⟨_,sC (by rw[HN.o];exact hlt)⟩
     have HY:=Hi hy;have HYI:=Hi (HL.o.each y (sJ hy));obtain⟨b,o,rfl,-,hcy⟩:=(aA HL.o.row HWW.o).at_ (by rw[HN.o];omega) (by omega)
     have y0:wr.cell? ⟨b,o+i*5,none⟩=some (.int .i64 y.a):=hcy _ _ (aI hy 0 (by omega));have y1:wr.cell? ⟨b,o+i*5+1,none⟩=some (.int .i64 y.s):=hcy _ _ (aI hy 1 (by omega));have y2:wr.cell? ⟨b,o+i*5+2,none⟩=some (.int .i64 y.st):=hcy _ _ (aI hy 2 (by omega));have y3:wr.cell? ⟨b,o+i*5+3,none⟩=some (.slice y.DA y.deps.length y.DC):=hcy _ _ (aI hy 3 (by omega));have y4:wr.cell? ⟨b,o+i*5+4,none⟩=some (.slice y.OA y.ops.length y.OC):=hcy _ _ (aI hy 4 (by omega));clear hcy hy;go_wp2_with fail
     go_at_call 55;refine(eI _ _ _ _ _ _ (by rfl) (by rfl) (by rfl)).mono ?_
     rintro e w2 ⟨rfl,hb⟩;replace HWI:Hid (Below wo.heap.size wo w2):=HWI.o.trans (hb.mono HWI.o.size);clear hb HWW y0 y1 y2 y3 y4 g0;have C2:=C1 w2 out (y.a,y.s) _ co (aA HRO.o HWI.o) (by omega);go_wp2_with fail
     go_at_call 75;refine C2.mono ?_;rintro e w3 ⟨ki,rfl,hfi,hb⟩;replace HWI:Hid (Below wo.heap.size wo w3):=HWI.o.trans (hb.mono HWI.o.size);have HFM:Hid (decide (0≤ki)=decide (y.rf∈aB out)):=findI_mem hfi;clear hb C2 hfi;by_cases hin:y.rf∈aB out
     ·have HNX:Hid (dG L out y=false):=by show _=_;unfold dG;rw[sH hin];rfl
      have hdk:decide (0≤ki)=true:=by rw[HFM.o,sH hin]
      have hdk':decide (ki≥0)=true:=hdk;have HS2:=Hi (HSC.o.skip HY.o (by rw[HNX.o];rfl));clear HFM hin HNX HSC HY HYI;go_wp2_with fail
      go_roundw
      case rel=>exact⟨i+1,best,by go_num,by omega,rfl,HS2,HWI⟩
      case measure=>simp[intOf];omega
     ·have HNX:Hid (dG L out y=y.deps.all fun d=>decide (d∈aB out)):=by show _=_;unfold dG;rw[sI hin];rfl
      have hdk:decide (0≤ki)=false:=by rw[HFM.o,sI hin]
      have hdk':decide (ki≥0)=false:=hdk;have hdl:=HYI.o.hdl;clear HFM hin;obtain⟨nd,hnd⟩:∃nd,y.deps.length=nd:=⟨_,rfl⟩
      have HND:=Hi hnd;rw[hnd]at hdl;clear hnd;go_wp2_with fail
      go_loopw [7,8,9] (fun s7 s8 _ wr=>∃j:Nat,s8=.int .i64 j∧j≤nd∧s7=.bool ((y.deps.take j).all fun d=>decide (d∈aB out))∧Hid (Below wo.heap.size wo wr)) (fun _ s8 _ _=>nd-(intOf s8).toNat)
      case atStart=>exact⟨0,rfl,by omega,rfl,HWI⟩
      case round =>
       clear HWI hdk hdk';obtain⟨j,rfl,hj,rfl,HWI⟩:=hrel
       have HWW:Hid (Below w.heap.size w wr):=HW.o.trans (HWI.o.mono HW.o.size);have g0:=cZ (HG.o.keep (HWW.o.block _ HG.o.lt)) 0 rfl;obtain⟨b',o',hA,hbl,hcy⟩:=(aA HL.o.row HWW.o).at_ (by rw[HN.o];omega) (by omega)
       simp only[tW,Addr.mk.injEq,and_true]at hA;obtain⟨rfl,rfl⟩:=hA
       have hd3:decide (0≤(i:Int))=true:=sH (by omega);by_cases hlj:j<nd
       ·have y3:wr.cell? ⟨b,o+i*5+3,none⟩=some (.slice y.DA nd y.DC):=by rw[←HND.o];exact hcy _ _ (aI HY.o 3 (by omega))
        obtain⟨r,hr⟩:∃r,y.deps[j]?=some r:=⟨_,sC (by rw[HND.o];exact hlj)⟩
        obtain⟨b1,o1,hA1,-,hc1⟩:=(aA HYI.o.hd HWW.o).at_ (by rw[HND.o];omega) (by omega)
        have x1:wr.cell? ⟨b1,o1+j*2,none⟩=some (.int .i64 r.1):=hc1 _ _ (aN hr).1;have x2:wr.cell? ⟨b1,o1+j*2+1,none⟩=some (.int .i64 r.2):=hc1 _ _ (aN hr).2;rw[hA1]at y3;have HSN:=Hi (all_snoc (fun d=>decide (d∈aB out)) hr);generalize (y.deps.take j).all (fun d=>decide (d∈aB out))=ok at HSN ⊢;have C2:=C1 wr out (r.1,r.2) _ co (aA HRO.o HWI.o) (by omega);clear hcy hc1 hr hA1;go_wp2_with fail
        go_at_call 75;refine C2.mono ?_;rintro e w4 ⟨kj,rfl,hfi,hb⟩;replace HWI:Hid (Below wo.heap.size wo w4):=HWI.o.trans (hb.mono HWI.o.size);have hfm:decide (0≤kj)=decide ((r.1,r.2)∈aB out):=findI_mem hfi;have hfm':decide (kj≥0)=decide ((r.1,r.2)∈aB out):=hfm;have HSN2:Hid ((y.deps.take (j+1)).all (fun d=>decide (d∈aB out))=(ok&&decide ((r.1,r.2)∈aB out))):=HSN.o;clear hb C2 hfi x1 x2 y3 g0 HSN;generalize decide ((r.1,r.2)∈aB out)=okr at hfm hfm' HSN2;cases ok with
        |false =>
         cases okr with
         |false =>
          go_wp2_with fail
          go_roundw
          case rel=>exact⟨j+1,by go_num,by omega,by rw[HSN2.o];rfl,HWI⟩
          case measure=>simp[intOf];omega
         |true =>
          go_wp2_with fail
          go_roundw
          case rel=>exact⟨j+1,by go_num,by omega,by rw[HSN2.o];rfl,HWI⟩
          case measure=>simp[intOf];omega
        |true =>
         cases okr with
         |false =>
          go_wp2_with fail
          go_roundw
          case rel=>exact⟨j+1,by go_num,by omega,by rw[HSN2.o];rfl,HWI⟩
          case measure=>simp[intOf];omega
         |true =>
          go_wp2_with fail
          go_roundw
          case rel=>exact⟨j+1,by go_num,by omega,by rw[HSN2.o];rfl,HWI⟩
          case measure=>simp[intOf];omega
       ·have y3:wr.cell? ⟨b,o+i*5+3,none⟩=some (.slice y.DA nd y.DC):=by rw[←HND.o];exact hcy _ _ (aI HY.o 3 (by omega))
        have HTA:Hid (y.deps.take j=y.deps):=sL (by rw[HND.o];omega);rw[HTA.o];clear hcy HTA;generalize hrb:(y.deps.all fun d=>decide (d∈aB out))=rb;have HRB:Hid (dG L out y=rb):=by show _=_;rw[HNX.o];exact hrb
        clear hrb HNX;obtain⟨w6,hw6⟩:∃w6,w6=wr:=⟨_,rfl⟩
        subst hw6;go_upto_region 15 with fail
        go_cut [93] (fun s93 wc=>s93=.bool (rb&&eK best y.rf)∧Hid (Below wo.heap.size wo wc))
        case first =>
         cases rb with
         |false =>
          go_wp2_with fail
          go_quiet (fail)
          change Exit.then _ _ _ _ (w6.drewN nq);replace HWI:Hid (Below wo.heap.size wo (w6.drewN nq)):=aH HWI.o nq;go_wp2_with fail
          go_meet
          case rel=>exact⟨rfl,HWI⟩
         |true =>
          cases best with
          |none =>
           have ha:atP none=-1:=rfl;rw[ha];clear ha;go_wp2_with fail
           go_quiet (fail)
           change Exit.then _ _ _ _ (w6.drewN nq);replace HWI:Hid (Below wo.heap.size wo (w6.drewN nq)):=aH HWI.o nq;go_wp2_with fail
           go_meet
           case rel=>exact⟨rfl,HWI⟩
          |some jr =>
           obtain⟨j',r⟩:=jr
           obtain⟨z,hz,hzr⟩:=HSC.o.2 j' r rfl
           subst hzr;have hjn:j'<n:=by have:=(sE.1 hz).1;rwa [HN.o]at this
           have ha:atP (some (j',z.rf))=(j':Int):=rfl;rw[ha];have hd1:decide ((j':Int)<0)=false:=sI (by omega);have hd2:decide (0≤(j':Int))=true:=sH (by omega);have hd5:decide ((j':Int)<(n:Int))=true:=sH (by omega);have hgl:g<w6.heap.size:=sD HG.o.lt HWW.o.size;clear y3;obtain⟨b',o',hA,-,hcy⟩:=(aA HL.o.row HWW.o).at_ (by rw[HN.o];omega) (by omega)
           simp only[tW,Addr.mk.injEq,and_true]at hA;obtain⟨rfl,rfl⟩:=hA
           have y0:w6.cell? ⟨b,o+i*5,none⟩=some (.int .i64 y.a):=hcy _ _ (aI HY.o 0 (by omega));have y1:w6.cell? ⟨b,o+i*5+1,none⟩=some (.int .i64 y.s):=hcy _ _ (aI HY.o 1 (by omega));have y2:w6.cell? ⟨b,o+i*5+2,none⟩=some (.int .i64 y.st):=hcy _ _ (aI HY.o 2 (by omega));have y3:w6.cell? ⟨b,o+i*5+3,none⟩=some (.slice y.DA y.deps.length y.DC):=hcy _ _ (aI HY.o 3 (by omega));have y4:w6.cell? ⟨b,o+i*5+4,none⟩=some (.slice y.OA y.ops.length y.OC):=hcy _ _ (aI HY.o 4 (by omega));have z0:w6.cell? ⟨b,o+j'*5,none⟩=some (.int .i64 z.a):=hcy _ _ (aI hz 0 (by omega));have z1:w6.cell? ⟨b,o+j'*5+1,none⟩=some (.int .i64 z.s):=hcy _ _ (aI hz 1 (by omega));have z2:w6.cell? ⟨b,o+j'*5+2,none⟩=some (.int .i64 z.st):=hcy _ _ (aI hz 2 (by omega));have z3:w6.cell? ⟨b,o+j'*5+3,none⟩=some (.slice z.DA z.deps.length z.DC):=hcy _ _ (aI hz 3 (by omega));have z4:w6.cell? ⟨b,o+j'*5+4,none⟩=some (.slice z.OA z.ops.length z.OC):=hcy _ _ (aI hz 4 (by omega));have KS:∀V:World,Below w6.heap.size w6 V→V.cell? ⟨g,0,none⟩=some (.slice (some ⟨b,o,none⟩) n c)∧V.cell? ⟨b,o+i*5,none⟩=some (.int .i64 y.a)∧V.cell? ⟨b,o+i*5+1,none⟩=some (.int .i64 y.s)∧V.cell? ⟨b,o+i*5+2,none⟩=some (.int .i64 y.st)∧V.cell? ⟨b,o+i*5+3,none⟩=some (.slice y.DA y.deps.length y.DC)∧V.cell? ⟨b,o+i*5+4,none⟩=some (.slice y.OA y.ops.length y.OC)∧V.cell? ⟨b,o+j'*5,none⟩=some (.int .i64 z.a)∧V.cell? ⟨b,o+j'*5+1,none⟩=some (.int .i64 z.s)∧V.cell? ⟨b,o+j'*5+2,none⟩=some (.int .i64 z.st)∧V.cell? ⟨b,o+j'*5+3,none⟩=some (.slice z.DA z.deps.length z.DC)∧V.cell? ⟨b,o+j'*5+4,none⟩=some (.slice z.OA z.ops.length z.OC)∧Below w6.heap.size w6 V:=fun V hv=>by
            have e1:∀i,V.cell? ⟨g,i,none⟩=w6.cell? ⟨g,i,none⟩:=fun i=>sK (hv.block _ hgl)
            have e2:∀i,V.cell? ⟨b,i,none⟩=w6.cell? ⟨b,i,none⟩:=fun i=>sK (hv.block _ hbl)
            rw[e1];simp only[e2];exact⟨g0,y0,y1,y2,y3,y4,z0,z1,z2,z3,z4,hv⟩
           clear hcy hz HY;go_wp2_with fail
           go_region_held3 (fun w'=>w'.cell? ⟨g,0,none⟩=some (.slice (some ⟨b,o,none⟩) n c)∧w'.cell? ⟨b,o+i*5,none⟩=some (.int .i64 y.a)∧w'.cell? ⟨b,o+i*5+1,none⟩=some (.int .i64 y.s)∧w'.cell? ⟨b,o+i*5+2,none⟩=some (.int .i64 y.st)∧w'.cell? ⟨b,o+i*5+3,none⟩=some (.slice y.DA y.deps.length y.DC)∧w'.cell? ⟨b,o+i*5+4,none⟩=some (.slice y.OA y.ops.length y.OC)∧w'.cell? ⟨b,o+j'*5,none⟩=some (.int .i64 z.a)∧w'.cell? ⟨b,o+j'*5+1,none⟩=some (.int .i64 z.s)∧w'.cell? ⟨b,o+j'*5+2,none⟩=some (.int .i64 z.st)∧w'.cell? ⟨b,o+j'*5+3,none⟩=some (.slice z.DA z.deps.length z.DC)∧w'.cell? ⟨b,o+j'*5+4,none⟩=some (.slice z.OA z.ops.length z.OC)∧Below w6.heap.size w6 w') (first|exact KS _ (sA _ w6).drew|exact q|go_keep)
            ((first
              |(go_at_call 55;refine(eI _ _ _ _ _ _ (by rfl) (by rfl) (by rfl)).mono ?_;rintro e w7 ⟨rfl,hb7⟩;have q:=KS w7 (by first|exact bT q.2.2.2.2.2.2.2.2.2.2.2 (sB _) hb7|exact bT (sA _ w6).drew (sB _) hb7))
              |(go_at_call 76;refine(pC (y.a,y.s) (z.a,z.s) _).mono ?_;rintro e w7 ⟨rfl,hb7⟩;have q:=KS w7 (by first|exact bT q.2.2.2.2.2.2.2.2.2.2.2 (sB _) hb7|exact bT (sA _ w6).drew (sB _) hb7))))
           all_goals
            replace HWI:Hid (Below wo.heap.size wo w7):=HWI.o.trans (Below.mono q.2.2.2.2.2.2.2.2.2.2.2 HWI.o.size);clear q y0 y1 y2 y3 y4 z0 z1 z2 z3 z4 g0 KS;go_wp2_with fail
            go_meet
            case rel=>exact⟨rfl,HWI⟩
        case rest =>
         obtain⟨rfl,HWI⟩:=hcut
         generalize htk:(rb&&eK best y.rf)=tk;have HTK:Hid ((dG L out y&&eK best y.rf)=tk):=by show _=_;rw[HRB.o];exact htk
         clear htk;cases tk with
         |true =>
          have HS2:=Hi (HSC.o.take HY.o HTK.o);clear HSC HTK HRB;go_wp2_with fail
          go_roundw
          case rel=>exact⟨i+1,some (i,y.rf),by go_num,by omega,rfl,HS2,HWI⟩
          case measure=>simp[intOf];omega
         |false =>
          have HS2:=Hi (HSC.o.skip HY.o HTK.o);clear HSC HTK HRB;go_wp2_with fail
          go_roundw
          case rel=>exact⟨i+1,best,by go_num,by omega,rfl,HS2,HWI⟩
          case measure=>simp[intOf];omega
    ·have hd:decide ((i:Int)<(n:Int))=false:=sI (by omega);have hin:i=n:=by omega
     have HLA:Hid (bN (dG L out) L=best):=fE.done (by rw[HN.o,←hin];exact HSC.o);clear hin;cases best with
     |none =>
      obtain⟨d,hd1,hd2⟩:=next_ex HK.o (out:=out) (by rw[HN.o];exact hlo)
      have:=gC HLA.o d hd1
      rw[hd2]at this;cases this
     |some jr =>
      obtain⟨j,r⟩:=jr
      obtain⟨x,hx,hxr⟩:=HSC.o.2 j r rfl
      have hjn:j<n:=by have:=(sE.1 hx).1;rwa [HN.o]at this
      have HS2:Hid (dU L=fJ L (n-(out++[x]).length) (out++[x])):=by
       show _=_;rw[HA.o,show n-out.length=(n-(out++[x]).length)+1 from by rw[sF,wS];omega];exact mR HLA.o hx
      have ha:atP (some (j,r))=(j:Int):=rfl;rw[ha];clear ha;have hd1:decide ((j:Int)<0)=false:=sI (by omega);have hd2:decide (0≤(j:Int))=true:=sH (by omega);have hd3:decide ((j:Int)<(n:Int))=true:=sH (by omega);obtain⟨b,o,rfl,hbl,hcy⟩:=(aA HL.o.row HWW.o).at_ (by rw[HN.o];omega) (by omega)
      have x0:wr.cell? ⟨b,o+j*5,none⟩=some (.int .i64 x.a):=hcy _ _ (aI hx 0 (by omega));have x1:wr.cell? ⟨b,o+j*5+1,none⟩=some (.int .i64 x.s):=hcy _ _ (aI hx 1 (by omega));have x2:wr.cell? ⟨b,o+j*5+2,none⟩=some (.int .i64 x.st):=hcy _ _ (aI hx 2 (by omega));have x3:wr.cell? ⟨b,o+j*5+3,none⟩=some (.slice x.DA x.deps.length x.DC):=hcy _ _ (aI hx 3 (by omega));have x4:wr.cell? ⟨b,o+j*5+4,none⟩=some (.slice x.OA x.ops.length x.OC):=hcy _ _ (aI hx 4 (by omega));clear hcy hx hxr HSC;have HO1:=Hi (aO HO.o HWI.o);obtain⟨i0,hi,hz0,hz1,hz2⟩:=info_parts infoCh
      have hws:w.heap.size≤wr.heap.size:=HWW.o.size;go_wp2_with (at_builtin;refine aG _ rfl (.tmp 95) (.tmp 103) _ rfl (w.heap.size) 33 i0 _ 5 72 Tryz.underlying23 hi hz0 hz1 hz2 rfl (by omega) (_) (out.length) (aW out) rfl (HO1.o.alloc _) _ (some ⟨wr.heap.size,0,none⟩) (1) (1) (ChD.cells x) rfl ((cD (by exact Blk.new wr _ #[.int .i64 x.a,.int .i64 x.s,.int .i64 x.st,.slice x.DA x.deps.length x.DC,.slice x.OA x.ops.length x.OC]) (n:=5) rfl)) ((by intro u hu;exact dY [x] u (by simpa[aW] using hu))) ?c1 ?c2 ?c3 ?_)
      try case c1=>simp only[maxLen];omega
      try case c2=>omega
      try case c3=>simp;omega
      intro v4 w4 ho4 hg4 _;have HW4:Hid (Below w.heap.size w w4):=(HWW.o.alloc HWW.o.size _).grown hg4 (by simp;omega) (fun g hg=>(aD HO1.o hg).1);have HO4:Hid (w4.ownsRow w.heap.size 33 5 v4 (out++[x]).length (aW (out++[x]))):=by show World.ownsRow _ _ _ _ _ _ _;rw[sF,gT];simpa[aW] using ho4
      have hsl:slen v4=out.length+1:=by
       obtain⟨_,_,hv,_⟩:=aC.of_own ho4
       rw[hv];rfl
      clear ho4 hg4 x0 x1 x2 x3 x4 g0;go_wp2_with fail
      go_roundw
      case rel=>exact⟨out++[x],by rw[sF,wS];omega,HO4,HS2,HW4⟩
      case measure =>
       show n-slen v4<n-slen (.slice Ao out.length co);rw[hsl];show n-(out.length+1)<n-out.length;omega
  ·have hen:out.length=n:=by omega
   have hdo:decide ((out.length:Int)<(n:Int))=false:=sI (by omega);have HAO:Hid (dU L=out):=by show _=_;rw[HA.o,hen,Nat.sub_self];rfl
   go_wp2_with fail
   go_ret;rw[HAO.o];exact⟨_,rfl,HO.o,HW.o⟩
end
end Go.Proofs.YtjhkcbideddlgaaGreat
