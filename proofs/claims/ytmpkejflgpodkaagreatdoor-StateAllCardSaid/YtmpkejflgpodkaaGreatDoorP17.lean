import Derived.Test.YtmpkejflgpodkaaGreatDoorP16
import Derived.Test.YtmpkejflgpodkaaGreatDoorShelf
import Derived.Shelf.SlSortCmp.NoneTotal
import Derived.Test.YtmpkejflgpodkaaGreatDoorShelfJ
import Derived.WalkSmall
set_option maxHeartbeats 8000000
set_option maxRecDepth 20000
set_option linter.unusedVariables false
set_option linter.unusedSimpArgs false
namespace Go.Proofs.YtmpkejflgpodkaaGreatDoor
open Go.ChangeShapes Go.WideShapes Go.ChangeAt Go.RowKit Go.Proofs.Tryz
variable{A:List ChD}{K K':List OpI}{a b:ByteArray}{bb bh bw g:Nat}{l:List Rf}{n obj q:Rf}{w w':World}{y:OpI}
def lG(r:Rf):List Value:=[.int .i64 r.1,.int .i64 r.2]
def bG(w:World)(g:Nat)(l:List Rf):Prop:=∀j u,(aF l)[j]?=some u→w.cell? ⟨g,j,none⟩=some u∧w.frozen? ⟨g,j,none⟩=false
theorem refC_get(l:List Rf)(t:Nat)(h:t<l.length*2):(aF l)[t]?=some ((lG (l.toArray[t / 2]!))[t % 2]!):=by obtain⟨q,m,ht,hm⟩:∃q m,t=q*2+m∧m<2:=⟨t / 2,t % 2,by omega,by omega⟩;subst ht;rw[show(q*2+m) / 2=q from by omega,show(q*2+m) % 2=m from by omega];have hk:q<l.length:=QZ;obtain⟨h1,h2⟩:=aL (sG hk);rw[getElem!_pos l.toArray q (by simpa using hk)];(match m,hm with|0,_=>simpa[lG] using h1|1,_=>simpa[lG] using h2)
theorem bG.holds(h:bG w g l):Sort.HoldsK lG 2 w g 0 l.toArray:=by intro j hj;have hj':j<l.length*2:=(by simpa using hj);have:=h j _ (refC_get l j hj');rw[Sort.get_flatK lG 2 l.toArray j (by simpa using hj')];simpa using this
theorem bG.of_holds(h:Sort.HoldsK lG 2 w g 0 l.toArray):bG w g l:=by intro j u hu;have hj':j<l.length*2:=(by rcases vM j (l.length*2) with h|h;(·exact h);(·rw[tW (by rw[bC];exact h)]at hu;cases hu));have h1:=h j (by simpa using hj');rw[Sort.get_flatK lG 2 l.toArray j (by simpa using hj')]at h1;rw[refC_get l j hj']at hu;obtain rfl:=tJ hu;simpa using h1
theorem bG.keep(h:bG w g l)(hk:w'.heap[g]?=w.heap[g]?):bG w' g l:=fun j u hu=>by
 obtain⟨h1,h2⟩:=h j u hu
 exact⟨(sU (w:=w) (a:=⟨g,j,none⟩) hk).trans h1,(World.frozen?_of_block (w:=w) (a:=⟨g,j,none⟩) hk).trans h2⟩
theorem bG.reads(h:bG w g l):aA (fun k=>k=g) w 2 (some ⟨g,0,none⟩) l.length (aF l) :=
 ⟨bC l,fun _=>⟨_,rfl,rfl,fun j u hu=>by
  have:=(h j u hu).1
  unfold Addr.add;split
  ·rename_i e;rw[e]at this;exact this
  ·simpa using this⟩⟩
theorem lV{n:Nat}{d:Array Rf}{os:Array Obj}: Chg (fun k=>k=g) w (sortWorldK lG 2 w g 0 n d os):=by refine⟨rfl,rfl,rfl,size_sortWorldK_c lG 2 w g 0 n d os,fun k hk hne=>?_⟩;have e:(sortWorldK lG 2 w g 0 n d os).heap=(w.heap.modify g (Sort.onCells (Sort.putCells id 0 (Sort.flatK lG 2 d))))++os:=rfl;rw[e,Array.getElem?_append_left (by simpa using hk),Array.getElem?_modify,sT (fun h=>hne h.symm)]
theorem encR_one(x:Rf):∀v∈lG x,v.oneCell'=true:=by intro v hv;simp only[lG,sR,uJ,or_false]at hv;rcases hv with rfl|rfl<;>rfl
theorem nD(x y:Rf):ltOf cmpR x y=decide (x.1<y.1∨x.1=y.1∧x.2<y.2):=by unfold ltOf cmpR Lib.compareInt;by_cases h1:x.1<y.1;(·simp[h1]);(·by_cases h2:y.1<x.1;(·have h3:x.1≠y.1:=QZ;simp[h1,h2,h3]);(·have h3:x.1=y.1:=QZ;by_cases h4:x.2<y.2;(·simp[h3,h4]);(·by_cases h5:y.2<x.2<;>simp[h3,h4,h5])))
theorem swo_cmp:Sort.SWO (ltOf cmpR) where
 irrefl x:=by rw[nD];simp
 trans x y z h1 h2:=by rw[nD]at *;simp only[tK]at *;omega
 ntrans x y z h1 h2:=by rw[nD]at *;simp only[decide_eq_false_iff_not]at *;omega
def nQ(l:List Rf):Prop:=∀(i j:Nat) (x y:Rf),i<j→l[i]?=some x→l[j]?=some y→¬(y.1<x.1∨y.1=x.1∧y.2<x.2)
theorem sortA_any(g cap:Nat)(l:List Rf)(w:World)(h:bG w g l)(hg:g<w.heap.size)(hl:l.length≤1000000): Calls prog 131 #[.slice (some ⟨g,0,none⟩) l.length cap,.func (.func 132) #[] #[]] w fun e w' => e=.returned (.tuple #[])∧∃l',l'.Perm l∧nQ l'∧bG w' g l'∧Chg (fun k=>k=g) w w':=by have eg:∀args w,(callFunc 132 args).run prog w=.ok (.enter 132 args) w:=enters_of func132 QQ (xO (show Tryz.f132.body.isSome=true by kernel_rfl)).symm;have hc:CmpLays prog 132 #[] lG 2 cmpR g 0 l.toArray.size w:=fun _ _ _ _ x y=>compareRefs_any x y _;have:=AnyQ.slices_SortFunc Tryz.sortRef 2 Tryz.isAgg77 Tryz.sizeOf77 lG (fun _=>rfl) encR_one cmpR swo_cmp 132 #[] g 0 cap l.toArray w eg hc h.holds hg (by simp;omega);rw[show l.toArray.size=l.length from by simp]at this;refine this.mono ?_;rintro e w' ⟨rfl,d',n,os,hp,hs,rfl⟩;have hsz:d'.size=l.length:=(by simpa using hp.1);refine⟨rfl,d'.toList,?_,?_,bG.of_holds (by simpa using holdsK_sortWorldK_c lG 2 w g 0 l.toArray d' n os h.holds hg (by simpa using hsz)),lV⟩;(·have h1:d'.extract 0 l.length=d':=(by rw[←hsz];exact xG);have h2:l.toArray.extract 0 l.length=l.toArray:=(by have:l.length=l.toArray.size:=QM;rw[this];exact xG);have h3:=hp.2.2;rw[h1,h2]at h3;exact h3);(·intro i j x y hij hx hy;have hj:j<l.length:=(by rw[←hsz];rcases vM j d'.size with h|h;(·exact h);(·rw[tW (by simpa using h)]at hy;cases hy));have h1:=hs i j (vU _) hij hj;have ex:d'[i]! = x:=(by rw[wQ]at hx;rw[wV,wI,hx];rfl);have ey:d'[j]! = y:=(by rw[wQ]at hy;rw[wV,wI,hy];rfl);rw[nD,ex,ey]at h1;simpa using h1)
def kv(p:Rf×Value):Value×Value:=(bD p.1,p.2)
theorem sortNone(p:Option Addr)(cap:Nat)(fv:Value)(w:World):Calls prog 131 #[.slice p 0 cap,fv] w fun e w'=>e=.returned (.tuple #[])∧w'=w:=by have:=AnyF.slices_SortFunc_none Tryz.sortRef p cap fv w;exact this
theorem wpK_next(w:World){ops:Array Oper}{rest:List Oper}{o:Oper}{a:Act}{Q:Exit→Act→World→Prop}(hg:o.guard=none)(it:Operand)(hop:o.op=Op.next it false)(b r:Nat)(K todo:List (Rf×Value))(hit:a.eval it=.pointer (some ⟨r,0,none⟩))(h:aV w 77 b r (K.map kv) (todo.map kv)) (hDone:todo=[]→wpList prog ops Q rest (a.put o.dst (.tuple #[.bool false])) w) (hMore:∀(x:Rf×Value) (todo':List (Rf×Value)) (w':World),todo.Perm (x::todo')→aV w' 77 b r (K.map kv) (todo'.map kv)→w.grownBy w' (some r)→w'.heap.size=w.heap.size → (Instr.entry (.pointer (some ⟨r,0,none⟩))).run prog w'=.ok (.tuple #[.agg #[x.1.1,x.1.2],x.2]) w'→wpList prog ops Q rest (a.put o.dst (.tuple #[.bool true,.agg #[x.1.1,x.1.2],x.2])) w') : wpList prog ops Q (o::rest) a w:=by refine oA w hg it hop _ b r _ _ hit h (fun e=>hDone (wN.1 e)) fun key v todo' w' hp hI hg hs hen=>?_;obtain⟨x,t',hx,hp1,hp2⟩:=kU _ hp;have e1:bD x.1=key:=congrArg Prod.fst hx;have e2:x.2=v:=congrArg Prod.snd hx;subst e1 e2;exact hMore x t' w' hp1 (hI.perm hp2) hg hs hen
theorem rising_any(K:List (Rf×Value))(b:Nat)(w:World)(h:aH w 77 b (K.map kv))(hl:K.length≤1000000): Calls prog 87 #[.map (some b)] w fun e w'=>∃A c S,e=.returned (.slice A S.length c)∧S.Perm (K.map Prod.fst)∧nQ S∧(S=[]∨∃g,w.heap.size≤g∧g<w'.heap.size∧A=some ⟨g,0,none⟩∧bG w' g S∧S.length≤c∧c≤9223372036854775807)∧Below w w w':=by have HM:=Hi h;go_enter func87,ntmps87;go_wp2_with (refine jA w rfl (.tmp 5) 159 rfl 77 82 underlying159 b (K.map kv) rfl HM.o ?_;intro w1 hI1 hb1 hs1);have HI1:=Hi hI1;have HB1:=Hi hb1;clear hI1 hb1 h;simp only[Act.put,zA,zB,zC];go_loopw [3,4] (fun s3 _ wr=>∃done todo:List (Rf×Value),Hid ((done++todo).Perm K)∧Hid (aV wr 77 b w.heap.size (K.map kv) (todo.map kv))∧Hid (wr.ownsRow (w.heap.size+1) 77 2 s3 done.length (aF (done.map Prod.fst)))∧Hid (Below w w wr)) (fun s3 _ _=>K.length-slen s3);(case atStart=>exact⟨[],K,vV _,HI1,bB _ _ _ _,HB1⟩);(case round =>clear HI1 HB1;obtain⟨done,todo,HP,HI,HO,HW⟩:=hrel;have hlen:done.length+todo.length=K.length:=(by rw[←sF];exact HP.o.length_eq);go_wp2_with (refine wpK_next _ rfl (.tmp 6) rfl b w.heap.size K todo rfl HI.o ?_ ?_);(·intro ht;subst ht;have HPD:Hid (done.Perm K):=(by have:=HP.o;rwa [uD]at this);obtain⟨Ao,co,hv,hco,hcm,-⟩:=aA.of_own HO.o;have HCO:Hid (done.length≤co∧co≤9223372036854775807):=⟨hco,by simpa[maxLen] using hcm⟩;subst hv;clear hcm;have HDN:Hid (done.length=K.length):=HPD.o.length_eq;clear hlen;go_wp2_with fail;by_cases h0:done.length=0;(·have hd0:done=[]:=uO.1 h0;rw[h0];go_at_call 131;refine(sortNone Ao co _ wr).mono ?_;rintro e w2 ⟨rfl,rfl⟩;go_wp2_with fail;go_ret;exact⟨Ao,co,[],rfl,by have:=HPD.o;rw[hd0]at this;rw[List.nil_perm.1 this];exact vV _,fun i j x y _ hx=>by simp at hx,.inl rfl,HW.o⟩);(·obtain⟨g,cap,hA,hg1,hg2⟩:=HO.o.form QZ;simp only[uW,true_and]at hA;obtain⟨rfl,rfl⟩:=hA;have hrow:bG wr g (done.map Prod.fst):=fun j u hu=>(by have hj:j<done.length*2:=(by rcases vM j (done.length*2) with h|h;(·exact h);(·rw[tW (by rw[bC,sP];exact h)]at hu;cases hu));exact⟨(wS HO.o j hj).trans hu,xP HO.o j⟩);have C1:=sortA_any g co (done.map Prod.fst) wr hrow hg2 (by rw[sP,HDN.o];exact hl);rw[sP]at C1;go_at_call 131;refine C1.mono ?_;rintro e w2 ⟨rfl,S,hp,hasc,hrow2,hch⟩;have HLS:Hid (S.length=done.length):=(by show _=_;rw[hp.length_eq,sP]);have HW2:Hid (Below w w w2):=HW.o.trans (hch.below HW.o.size fun k hk=>by rw[hk];omega);have HS:Hid (S.Perm (K.map Prod.fst)):=hp.trans (HPD.o.map _);have HAS:=Hi hasc;have HRW:=Hi hrow2;have hsz2:=hch.size;clear hp hasc hrow2 hch C1 hrow;go_wp2_with fail;go_ret;exact⟨_,co,S,by rw[HLS.o];rfl,HS.o,HAS.o,.inr ⟨g,by omega,by omega,rfl,HRW.o,by rw[HLS.o];exact HCO.o.1,HCO.o.2⟩,HW2.o⟩));(·intro a1 a2 v todo' w2 hp hI2 hg2 hs2 hen;have HI2:=Hi hI2;have HW2:Hid (Below w w w2):=HW.o.grown hg2 HW.o.size (fun k hk=>by cases hk;exact sE _);have hwl:w.heap.size<w2.heap.size:=(by have:=HI2.o.lt;omega);have HO2:Hid (w2.ownsRow (w.heap.size+1) 77 2 _ done.length (aF (done.map Prod.fst))):=HO.o.kept hg2 (by cases ho:Value.ownBlock _ with|none=>exact .inl rfl|some k=>exact .inr (fun e=>by cases e;have:=(aC HO.o ho).1;omega));clear hI2 hg2 HI HO HW;have hbl:b<w.heap.size:=HM.o.lt;obtain⟨Ao,co,hv,hco,-,-⟩:=aA.of_own HO2.o;subst hv;clear hs2;go_upto_region 5 with fail;have HW3:Hid (Below w w (w2.alloc (.cells #[a1,a2] 77))):=HW2.o.alloc HW2.o.size _;have HQ3:Hid (Blk (w2.alloc (.cells #[a1,a2] 77)) w2.heap.size 77 #[a1,a2]):=Blk.new w2 _ _;have HI3:Hid (aV (w2.alloc (.cells #[a1,a2] 77)) 77 b w.heap.size (K.map kv) (todo'.map kv)):=HI2.o.keep (sX _ _ _ QZ) (sX _ _ _ hwl);have HO3:=Hi (HO2.o.alloc (.cells #[a1,a2] 77));clear HW2 HI2 HO2 hen;have hw3:(w2.alloc (.cells #[a1,a2] 77)).heap.size=w2.heap.size+1:=QM;generalize w2.alloc (.cells #[a1,a2] 77)=w3 at HW3 HQ3 HI3 HO3 hw3 ⊢;generalize hB2:w2.heap.size=B2 at HQ3 hwl hw3 ⊢;clear hB2;have hw4:w.heap.size<w3.heap.size:=QZ;clear hw3;obtain⟨r1,r2⟩:=ce2 HQ3.o;obtain⟨i0,hi,hz0,hz1,hz2⟩:=info_parts iT;go_wp2_with (at_builtin;refine aB _ rfl (.tmp 11) (.tmp 13) _ rfl (w.heap.size+1) 77 i0 _ 2 16 underlying79 hi hz0 hz1 hz2 rfl QZ (.slice Ao done.length co) (done.length) (aF (done.map Prod.fst)) rfl (HO3.o.alloc _) _ (some ⟨w3.heap.size,0,none⟩) (1) (1) ([a1,a2]) rfl ((bR (by exact Blk.new w3 _ #[a1,a2]) (n:=2) rfl)) ((by intro u hu;exact aX [(a1,a2)] u (by simpa[aF] using hu))) ?c1 ?c2 ?c3 ?_);(try case c1=>simp only[maxLen];have:=hlen;omega);(try case c2=>have:=hlen;omega);(try case c3=>simp;omega);intro v4 w4 ho4 hg4 hat4;have hbk:Below (w.heap.size+1) w3 w4:=((sD _ w3).alloc QZ _).grown hg4 (by simp;omega) (fun k hk=>(aC HO3.o hk).1);have HW4:Hid (Below w w w4):=HW3.o.trans (hbk.mono (yL _));have HI4:Hid (aV w4 77 b w.heap.size (K.map kv) (todo'.map kv)):=HI3.o.keep (hbk.block _ QZ) (hbk.block _ QZ);have HO4:Hid (w4.ownsRow (w.heap.size+1) 77 2 v4 (done++[((a1,a2),v)]).length (aF ((done++[((a1,a2),v)]).map Prod.fst))):=(by show World.ownsRow _ _ _ _ _ _ _;rw[sF,sZ,bA];simpa[aF] using ho4);have HP2:Hid (((done++[((a1,a2),v)])++todo').Perm K):=(by show List.Perm _ _;rw[tA];exact(hp.symm.append_left done).trans HP.o);have hsl:slen v4=done.length+1:=(by obtain⟨_,_,hv,_⟩:=aA.of_own ho4;rw[hv];rfl);have hdl:done.length<K.length:=(by have:=hp.length_eq;simp only[sN]at this;omega);clear ho4 hg4 hat4 hbk r1 r2 HQ3 HI3 HO3 HW3;go_wp2_with fail;go_roundw;(case rel=>exact⟨done++[((a1,a2),v)],todo',HP2,HI4,HO4,HW4⟩);(case measure =>show K.length-slen v4<K.length-slen (.slice Ao done.length co);rw[hsl];show K.length-(done.length+1)<K.length-done.length;omega)))
theorem new_any(w:World): Calls prog 83 #[] w fun e w'=>∃g bh bw bb,e=.returned (.pointer (some ⟨g,0,none⟩))∧Blk w' g 162 #[.map (some bh),.map (some bw),.map (some bb)]∧eV w' bh []∧eV w' bw []∧aH w' 77 bb []∧(bh≠bw∧bh≠bb∧bw≠bb)∧(w.heap.size≤bh∧w.heap.size≤bw∧w.heap.size≤bb∧w.heap.size≤g)∧Below w w w':=by have hmm:∀(t:TypeId) (w:World),(Instr.makeMap t none).run prog w=.ok (.map (some w.heap.size)) (w.alloc (.map #[] 0)):=fun _ _=>rfl;have h1:eV (w.alloc (.map #[] 0)) w.heap.size []:=aH.made w _;have hb1:Below w w (w.alloc (.map #[] 0)):=(sD _ w).alloc (sE _) _;have hz1:(w.alloc (.map #[] 0)).heap.size=w.heap.size+1:=QM;generalize hw1:w.alloc (.map #[] 0)=w1 at h1 hb1 hz1;have h2:eV (w1.alloc (.map #[] 0)) w1.heap.size []:=aH.made w1 _;have hb2:=(sD w1.heap.size w1).alloc (sE _) (.map #[] 0);have hz2:(w1.alloc (.map #[] 0)).heap.size=w1.heap.size+1:=QM;generalize hw2:w1.alloc (.map #[] 0)=w2 at h2 hb2 hz2;have h3:aH (w2.alloc (.map #[] 0)) 77 w2.heap.size []:=aH.made w2 _;have hb3:=(sD w2.heap.size w2).alloc (sE _) (.map #[] 0);have hz3:(w2.alloc (.map #[] 0)).heap.size=w2.heap.size+1:=QM;generalize hw3:w2.alloc (.map #[] 0)=w3 at h3 hb3 hz3;have hq:=Blk.new w3 162 #[.map (some w.heap.size),.map (some w1.heap.size),.map (some w2.heap.size)];have hb4:=(sD w3.heap.size w3).alloc (sE _) (.cells #[.map (some w.heap.size),.map (some w1.heap.size),.map (some w2.heap.size)] 162);have HZ:=Hi (And.intro hz1 (And.intro hz2 hz3));clear hz1 hz2 hz3;go_enter func83,ntmps83;go_wp2_with fail;go_ret;obtain⟨hz1,hz2,hz3⟩:=HZ.o;have l1:=aH.lt h1;have l2:=aH.lt h2;have l3:=aH.lt h3;have k1:eV w3 w.heap.size []:=aH.keep (aH.keep h1 (hb2.block _ QZ)) (hb3.block _ QZ);have k2:eV w3 w1.heap.size []:=aH.keep h2 (hb3.block _ QZ);refine⟨w3.heap.size,w.heap.size,w1.heap.size,w2.heap.size,rfl,hq,aH.keep k1 (hb4.block _ (aH.lt k1)),aH.keep k2 (hb4.block _ (aH.lt k2)),aH.keep h3 (hb4.block _ l3),⟨by omega,by omega,by omega⟩,⟨by omega,by omega,by omega,by omega⟩,?_⟩;exact((hb1.trans (hb2.mono QZ)).trans (hb3.mono QZ)).trans (hb4.mono QZ)
def NF(w:World)(bh bw bb k:Nat):Prop:=k<w.heap.size∧k≠bh∧k≠bw∧k≠bb
structure PB(w:World)(g bh bw bb:Nat)(X:List (ChD×Nat×List Rf))(W:List ChD):Prop where
 blk:Blk w g 162 #[.map (some bh),.map (some bw),.map (some bb)]
 mh:eV w bh (X.map Prod.fst)
 mw:eV w bw W
 mb:aH w 77 bb (X.map fun x=>(bD x.1.rf,.map (some x.2.1)))
 ne:bh≠bw∧bh≠bb∧bw≠bb
 sets:∀x∈X,gT w x.2.1 x.2.2∧NF w bh bw bb x.2.1∧∀r,r∈x.2.2↔r∈aS (X.map Prod.fst) [x.1.rf]
 inL:∀x∈X,ChIn (NF w bh bw bb) w x.1
 inW:∀c∈W,ChIn (NF w bh bw bb) w c
theorem NF.more{k:Nat}(h:NF w bh bw bb k)(hs:w.heap.size≤w'.heap.size):NF w' bh bw bb k:=⟨sH h.1 hs,h.2⟩
theorem PB.below{X:List (ChD×Nat×List Rf)}{W:List ChD}(h:PB w g bh bw bb X W)(hb:Below w w w'):PB w' g bh bw bb X W :=
 ⟨h.blk.keep (hb.block _ h.blk.lt),aH.keep h.mh (hb.block _ (aH.lt h.mh)),aH.keep h.mw (hb.block _ (aH.lt h.mw)),aH.keep h.mb (hb.block _ (aH.lt h.mb)),h.ne,
  fun x hx=>⟨(h.sets x hx).1.keep (hb.block _ (h.sets x hx).2.1.1),(h.sets x hx).2.1.more hb.size,(h.sets x hx).2.2⟩,
  fun x hx=>((h.inL x hx).keep fun k hk=>hb.block k hk.1).more fun k hk=>hk.more hb.size,
  fun c hc=>((h.inW c hc).keep fun k hk=>hb.block k hk.1).more fun k hk=>hk.more hb.size⟩
theorem PB.hb{X:List (ChD×Nat×List Rf)}{W:List ChD}(h:PB w g bh bw bb X W):HB w g bh (.map (some bw)) (.map (some bb)) (X.map Prod.fst):=⟨h.blk,h.mh⟩
theorem PB.nil(hb:Blk w g 162 #[.map (some bh),.map (some bw),.map (some bb)])(h1:eV w bh [])(h2:eV w bw [])(h3:aH w 77 bb [])(hn:bh≠bw∧bh≠bb∧bw≠bb):PB w g bh bw bb [] [] :=
 ⟨hb,h1,h2,h3,hn,(fun _ h=>by cases h),(fun _ h=>by cases h),(fun _ h=>by cases h)⟩
section
open Go.RowKit
theorem jC(h:(a.toList == b.toList)=true):a=b:=by have h':=eq_of_beq h;rw[vY,vY]at h';obtain⟨⟨x⟩⟩:=a;obtain⟨⟨y⟩⟩:=b;have h2:x=y:=h';rw[h2]
theorem sameO_iff(x y:OpD):sameO x y=true↔base x=base y:=by obtain⟨k,on,oa,key,en,ea,ins,vk,vn,vt,va,vb,A,c,l⟩:=x;obtain⟨k',on',oa',key',en',ea',ins',vk',vn',vt',va',vb',A',c',l'⟩:=y;simp only[sameO,idE,valE,base,tL,beq_iff_eq,tK,OpD.mk.injEq,true_and];constructor;(·rintro⟨h1,⟨h2,h3⟩,h4,⟨h5,h6⟩,h7,⟨h8,h9,h10,h11,h12⟩,h13⟩;exact⟨h1,h2,h3,jC (by simpa using h4),h5,h6,h7,h8,h9,jC (by simpa using h10),h11,h12,h13⟩);(·rintro⟨h1,h2,h3,rfl,h5,h6,h7,h8,h9,rfl,h11,h12,h13⟩;exact⟨h1,⟨h2,h3⟩,rfl,⟨h5,h6⟩,h7,⟨h8,h9,rfl,h11,h12⟩,h13⟩)
theorem qO:∀(l m:List OpD),fJ l m=true↔l.map base=m.map base
 | [],[]=>by simp[fJ]
 | [],_::_=>by simp[fJ]
 |_::_,[]=>by simp[fJ]
 |x::l,y::m=>by
  simp only[fJ,tL,tB,wY];rw[sameO_iff,qO l m]
theorem enc_inj{c d:ChD}(hc:c.err=0)(hd:d.err=0)(hcv:∀o∈c.ops,(Lit.int .i64 o.vn).wf=true)(hdv:∀o∈d.ops,(Lit.int .i64 o.vn).wf=true)(h:c.enc=d.enc): c.st=d.st∧c.deps=d.deps∧c.ops.map base=d.ops.map base:=by have h1:=read_back (show dZ c.a c.s c.st c.deps c.ops=0 from hc) hcv [];have h2:=read_back (show dZ d.a d.s d.st d.deps d.ops=0 from hd) hdv [];rw[show lH c.a c.s c.st c.deps c.ops=lH d.a d.s d.st d.deps d.ops from h,h2]at h1;simp only[Rd.mk.injEq]at h1;obtain⟨_,_,h3,h4,h5,_⟩:=h1;have b1:=(gR hc).1;have b2:=(gR hd).1;exact⟨by omega,h4.symm,h5.symm⟩
theorem sameC_enc{c d:ChD}(hc:c.err=0)(hd:d.err=0)(hcv:∀o∈c.ops,(Lit.int .i64 o.vn).wf=true)(hdv:∀o∈d.ops,(Lit.int .i64 o.vn).wf=true)(hr:c.rf=d.rf):sameC c d=decide (c.enc=d.enc):=by have hr1:c.a=d.a:=congrArg Prod.fst hr;have hr2:c.s=d.s:=congrArg Prod.snd hr;by_cases he:c.enc=d.enc;(·obtain⟨h1,h2,h3⟩:=enc_inj hc hd hcv hdv he;rw[sQ he];unfold sameC;rw[(qO _ _).2 h3,h1,h2];simp);(·rw[sO he];(cases h:sameC c d with|false=>rfl|true =>unfold sameC at h;simp only[tL,beq_iff_eq,tK]at h;obtain⟨h1,h2,h3⟩:=h;refine absurd ?_ he;unfold ChD.enc;rw[hr1,hr2,h1,h2];exact encL_base ((qO _ _).1 h3)))
end
section
open Go.RowKit
theorem fW(c:ChD):c.base.rf=c.rf:=rfl
theorem pC(c:ChD):c.base.err=c.err:=chgE_base (base_base c.ops)
theorem base_enc(c:ChD):c.base.enc=c.enc:=encL_base (base_base c.ops)
def bI(x:OpI):OpI:=(base x.1,x.2)
theorem idsFrom_base:∀(a st:Int) (l:List OpD),eP a st (l.map base)=(eP a st l).map bI
 |_,_,[]=>rfl
 |a,st,o::l=>by simp only[tB,eP,idsFrom_base a (st+1) l];rfl
theorem base_opsI(c:ChD):c.base.opsI=c.opsI.map bI:=idsFrom_base c.a c.st c.ops
theorem kN(L:List ChD):aD (L.map ChD.base)=aD L:=by unfold aD;rw[vG];rfl
theorem back_base:∀(L:List ChD) (w:List Rf),eC (L.map ChD.base) w=eC L w
 | [],_=>rfl
 |c::L,w=>by
  simp only[tB,eC,fW,back_base L];rfl
theorem behind_base(L:List ChD)(hs:List Rf):aS (L.map ChD.base) hs=aS L hs:=by unfold aS;rw[←List.map_reverse];exact back_base _ _
theorem known_base(L:List ChD)(R:List Rf):cD (L.map ChD.base) R=(cD L R).map bI:=by unfold cD;(induction L with|nil=>rfl|cons c L ih =>by_cases h:c.rf∈R;(·simp only[tB,List.filter_cons,fW,h,decide_true,if_true,uA,sZ,base_opsI];rw[ih]);(·simp only[tB,List.filter_cons,fW,h,decide_false,vP,if_false];exact ih))
theorem pK(l:List OpI)(n:Rf):cJ (l.map bI) n=(cJ l n).map bI:=by unfold cJ;(induction l with|nil=>rfl|cons x l ih =>by_cases h:x.2=n;(·simp[bI,h]);(·simp only[tB,List.find?_cons,show(bI x).2=x.2 from rfl,sO h];exact ih))
theorem kind_base(x:OpI)(K:List OpI):fL (bI x) (K.map bI)=fL x K:=by unfold fL;rw[show dD (bI x)=dD x from rfl,pK];cases cJ K (dD x)<;>rfl
theorem elem_base(x:OpI)(K:List OpI):dP (bI x) (K.map bI)=dP x K:=by unfold dP;rw[show elP (bI x)=elP x from rfl,pK];cases cJ K (elP x)<;>rfl
theorem pred_base(x:OpI)(K:List OpI)(p:Rf):bP (bI x) (K.map bI) p=bP x K p:=by unfold bP;rw[pK];cases cJ K p<;>rfl
theorem may_base(x:OpI)(K:List OpI):dE (bI x) (K.map bI)=dE x K:=by unfold dE;rw[kind_base,elem_base];(cases fL x K with|none=>rfl|some kd =>show(nH x kd&&dP x K&&x.1.l.all (bP (bI x) (K.map bI)))=_;rw[show bP (bI x) (K.map bI)=bP x K from funext (pred_base x K)])
theorem fitOps_base:∀(l K:List OpI),dS (l.map bI) (K.map bI)=dS l K
 | [],_=>rfl
 |x::l,K=>by
  simp only[tB,dS,may_base];have:=fitOps_base l (K++[x])
  rw[sZ]at this;rw[←this];rfl
theorem pM(L:List ChD)(c:ChD):bY (L.map ChD.base) c.base=bY L c:=by unfold bY fU;rw[show c.base.deps=c.deps from rfl,behind_base,known_base,base_opsI,fitOps_base];rw[List.all_map];rfl
theorem mW(L:List ChD)(c:ChD):bF (L.map ChD.base) c.base=bF L c:=by unfold bF;rw[kN];rfl
theorem nG(p q:ChD→Bool)(h:∀c,p c.base=q c):∀(W:List ChD) (i:Nat) (b:Option (Nat×Rf)),iP p (W.map ChD.base) i b=iP q W i b
 | [],_,_=>rfl
 |c::W,i,b=>by
  simp only[tB,iP,h,fW];exact nG p q h W _ _
theorem least_base(L W:List ChD):cP (bF (L.map ChD.base)) (W.map ChD.base)=cP (bF L) W:=nG _ _ (mW L) W 0 none
theorem qD{α β:Type}(f:α→β):∀(l:List α) (i:Nat),(l.map f).eraseIdx i=(l.eraseIdx i).map f
 | [],_=>rfl
 |_::_,0=>rfl
 |a::l,i+1=>by simp only[tB,List.eraseIdx_cons_succ,qD f l i]
theorem oC:∀(n:Nat) (L W:List ChD),cK n (L.map ChD.base) (W.map ChD.base)=((cK n L W).1.map ChD.base,(cK n L W).2.map ChD.base)
 |0,_,_=>rfl
 |n+1,L,W=>by
  unfold cK;rw[least_base];cases cP (bF L) W with
  |none=>rfl
  |some b =>
   obtain⟨i,r⟩:=b
   simp only[uL];cases W[i]? with
   |none=>rfl
   |some x =>
    simp only[wC,pM];have h1:=oC n (L++[x]) (W.eraseIdx i);have h2:=oC n L (W.eraseIdx i);rw[sZ]at h1;rw[qD];cases bY L x with
    |true=>simp only[if_true];exact h1
    |false=>simp only[vP,if_false];exact h2
theorem find_base(L:List ChD)(r:Rf):aZ (L.map ChD.base) r=(aZ L r).map ChD.base:=by unfold aZ;(induction L with|nil=>rfl|cons c L ih =>by_cases h:c.rf=r;(·simp[fW,h]);(·rw[tB,List.find?_cons,List.find?_cons,fW,sO h];exact ih))
theorem sameE_base(c d:ChD):gW c.base d.base=gW c d:=by unfold gW;rw[base_enc,base_enc]
theorem take_base(L W:List ChD)(c:ChD):aW (L.map ChD.base) (W.map ChD.base) c.base=(((aW L W c).1.1.map ChD.base,(aW L W c).1.2.map ChD.base),(aW L W c).2):=by unfold aW;rw[pC,fW];by_cases he:c.err≠0;(·rw[tC he,tC he]);rw[sT he,sT he,find_base,find_base];(cases h1:aZ L c.rf with|some d=>simp only[wC,sameE_base]|none =>(cases h2:aZ W c.rf with|some d=>simp only[wC,Option.map_none,sameE_base]|none =>simp only[Option.map_none,sP];by_cases h3:120≤L.length+W.length;(·rw[tC h3,tC h3]);rw[sT h3,sT h3,mW,pM];(cases bF L c with|false=>simp|true =>(cases bY L c with|false=>simp|true =>simp only[Bool.true_eq_false,if_false];have:=oC W.length (L++[c]) W;rw[sZ]at this;rw[show L.map ChD.base++[c.base]=L.map ChD.base++[c].map ChD.base from rfl,this]))))
theorem next_base(L out:List ChD)(c:ChD):gZ (L.map ChD.base) (out.map ChD.base) c.base=gZ L out c:=by unfold gZ;rw[kN];rfl
theorem allGo_base(L:List ChD):∀(n:Nat) (out:List ChD),lD (L.map ChD.base) n (out.map ChD.base)=(lD L n out).map ChD.base
 |0,_=>rfl
 |n+1,out=>by
  unfold lD;rw[show cP (gZ (L.map ChD.base) (out.map ChD.base)) (L.map ChD.base)=cP (gZ L out) L from nG _ _ (next_base L out) L 0 none];cases cP (gZ L out) L with
  |none=>rfl
  |some b =>
   obtain⟨i,r⟩:=b
   simp only[uL];cases L[i]? with
   |none=>rfl
   |some x =>
    simp only[wC];have:=allGo_base L n (out++[x])
    rw[sZ]at this;exact this
theorem allP_base(L:List ChD):nN (L.map ChD.base)=(nN L).map ChD.base:=by unfold nN;rw[sP];exact allGo_base L L.length []
end
section
open Go.RowKit
structure Ag(L0 W0:List ChD)(S:List Rf)(i:Nat)(L W:List ChD):Prop where
 inv:Inv L W
 eq:cK W0.length L0 W0=cK W.length L W
 old:∀c∈W,c.rf∈S.take i→bF L c=false
 all:∀c∈W,c.rf∈S
 new:∀r∈S.drop i,r∈aD W
 asc:nQ S
 nd:S.Nodup
section
variable{L0 W0 L W:List ChD}{S:List Rf}{i j:Nat}{r:Rf}{x:ChD}
theorem Ag.start(h:Inv L W)(he:cK W0.length L0 W0=cK W.length L W)(hp:S.Perm (aD W))(ha:nQ S):Ag L0 W0 S 0 L W :=
 ⟨h,he,(fun _ _ h=>by simp at h),(fun c hc=>hp.mem_iff.2 (cO hc)),(fun r hr=>hp.mem_iff.1 (by simpa using hr)),ha,hp.nodup_iff.2 h.nd⟩
theorem refs_at(h:r∈aD W):∃(j:Nat) (x:ChD),W[j]?=some x∧x.rf=r:=by obtain⟨x,hx,e⟩:=sJ.1 h;obtain⟨j,hj,hx⟩:=wH hx;exact⟨j,x,sI.2 ⟨hj,hx⟩,e⟩
theorem Ag.at(h:Ag L0 W0 S i L W)(hs:S[i]?=some r):∃(j:Nat) (x:ChD),W[j]?=some x∧x.rf=r:=by refine refs_at (h.new r ?_);obtain⟨hi,e⟩:=sI.1 hs;rw[uC hi,e];exact tE ..
theorem pX(hs:S[i]?=some r)(h:q∈S.take (i+1)):q∈S.take i∨q=r:=by rw[sY,hs,uN]at h;rcases sL.1 h with h|h;(·exact .inl h);(·exact .inr (sV.1 h))
theorem qE(h:q∈S.drop (i+1)):q∈S.drop i:=by rw[←yB]at h;exact List.mem_of_mem_drop h
theorem inv_one(h:Inv L W){c d:ChD}(hc:c∈W)(hd:d∈W)(e:c.rf=d.rf):c=d:=by have h1:=eO h.nd hc;have h2:=eO h.nd hd;rw[e,h2]at h1;exact(tJ h1).symm
theorem Ag.skip(h:Ag L0 W0 S i L W)(hs:S[i]?=some r)(hx:W[j]?=some x)(hr:x.rf=r)(hn:bF L x=false):Ag L0 W0 S (i+1) L W :=
 ⟨h.inv,h.eq,(fun c hc hm=>by
  rcases pX hs hm with hm|hm
  ·exact h.old c hc hm
  ·rw[inv_one h.inv hc (sM hx) (by rw[hm,hr])];exact hn),h.all,(fun q hq=>h.new q (qE hq)),h.asc,h.nd⟩
theorem Ag.least(h:Ag L0 W0 S i L W)(hs:S[i]?=some r)(hx:W[j]?=some x)(hr:x.rf=r)(hn:bF L x=true):cP (bF L) W=some (j,x.rf):=by refine leastAt_is h.inv.nd hx hn fun d hd hdr=>?_;obtain⟨k,hk,e⟩:=wH (h.all d hd);have hk':S[k]?=some d.rf:=sI.2 ⟨hk,e⟩;rw[hr];rcases Nat.lt_trichotomy k i with hlt|rfl|hgt;(·have:=h.old d hd (by rw[List.mem_take_iff_getElem];exact⟨k,by omega,e⟩);rw[this]at hdr;cases hdr);(·rw[hk']at hs;cases hs;unfold aN;rw[decide_eq_false_iff_not];omega);(·have:=h.asc i k r d.rf hgt hs hk';unfold aN;rw[decide_eq_false_iff_not];exact this)
theorem drop_next(hn:S.Nodup)(hs:S[i]?=some r):r∉S.drop (i+1):=by obtain⟨hi,e⟩:=sI.1 hs;have h1:(S.drop i).Nodup:=hn.sublist (List.drop_sublist _ _);rw[uC hi,e]at h1;exact(uB.1 h1).1
theorem refs_erase(hn:(aD W).Nodup)(hx:W[j]?=some x)(hq:q∈aD W)(hne:q≠x.rf):q∈aD (W.eraseIdx j):=by obtain⟨c,hc,rfl⟩:=sJ.1 hq;refine cO ?_;have hp:=iG W j x hx;rcases sR.1 (hp.mem_iff.1 hc) with h|h;(·exact absurd (congrArg ChD.rf h) hne);(·exact h)
theorem refs_gone(hn:(aD W).Nodup)(hx:W[j]?=some x){c:ChD}(hc:c∈W.eraseIdx j):c.rf≠x.rf:=by have hp:=iG W j x hx;have h1:(aD (x::W.eraseIdx j)).Nodup:=(hp.map ChD.rf).nodup_iff.1 hn;intro he;exact(uB.1 h1).1 (by show x.rf∈aD (W.eraseIdx j);rw[←he];exact cO hc)
theorem Ag.lose(h:Ag L0 W0 S i L W)(hs:S[i]?=some r)(hx:W[j]?=some x)(hr:x.rf=r)(hn:bF L x=true)(hf:bY L x=false):Ag L0 W0 S (i+1) L (W.eraseIdx j):=by refine⟨h.inv.drop j,?_,fun c hc hm=>?_,fun c hc=>h.all c (dY hc),fun q hq=>?_,h.asc,h.nd⟩;(·rw[h.eq,settle_go (h.least hs hx hr hn) hx,hf];rfl);(·rcases pX hs hm with hm|hm;(·exact h.old c (dY hc) hm);(·exact absurd (hm.trans hr.symm) (refs_gone h.inv.nd hx hc)));(·refine refs_erase h.inv.nd hx (h.new q (qE hq)) ?_;rw[hr];rintro rfl;exact drop_next h.nd hs hq)
theorem Ag.win(h:Ag L0 W0 S i L W)(hs:S[i]?=some r)(hx:W[j]?=some x)(hr:x.rf=r)(hn:bF L x=true)(hf:bY L x=true): cK W0.length L0 W0=cK (W.eraseIdx j).length (L++[x]) (W.eraseIdx j)∧Inv (L++[x]) (W.eraseIdx j)∧(W.eraseIdx j).length<W.length:=by refine⟨by rw[h.eq,settle_go (h.least hs hx hr hn) hx,hf];rfl,h.inv.move hx hn hf,?_⟩;have hj:=(sI.1 hx).1;rw[vR hj];omega
theorem Ag.done(h:Ag L0 W0 S i L W)(hi:S.length≤i):cK W0.length L0 W0=(L,W):=by rw[h.eq];refine settle_stop ?_;(cases hl:cP (bF L) W with|none=>rfl|some b =>obtain⟨j,q⟩:=b;obtain⟨x,hx,rfl,hp,-⟩:=gM hl;have:=h.old x (sM hx) (by rw[sS hi];exact h.all x (sM hx));rw[this]at hp;cases hp)
end
section
variable{L W:List ChD}{c d:ChD}
theorem takeP_err(he:c.err≠0):aW L W c=((L,W),c.err):=by unfold aW;rw[tC he]
theorem takeP_found(he:c.err=0)(h:(aZ L c.rf).or (aZ W c.rf)=some d):aW L W c=((L,W),gW d c):=by unfold aW;rw[sT (by simp[he])];(cases h1:aZ L c.rf with|some x=>rw[h1]at h;simp at h;subst h;rfl|none=>rw[h1]at h;simp at h;rw[h])
theorem takeP_none(he:c.err=0)(h:(aZ L c.rf).or (aZ W c.rf)=none):aZ L c.rf=none∧aZ W c.rf=none:=by (cases h1:aZ L c.rf with|some x=>rw[h1]at h;simp at h|none=>rw[h1]at h;simp at h;exact⟨rfl,h⟩)
theorem takeP_full(he:c.err=0)(h1:aZ L c.rf=none)(h2:aZ W c.rf=none)(h3:120≤L.length+W.length):aW L W c=((L,W),4):=by unfold aW;rw[sT (by simp[he]),h1,h2];simp only[tC h3]
theorem takeP_wait(he:c.err=0)(h1:aZ L c.rf=none)(h2:aZ W c.rf=none)(h3:¬120≤L.length+W.length)(h4:bF L c=false):aW L W c=((L,W++[c]),0):=by unfold aW;rw[sT (by simp[he]),h1,h2];simp only[sT h3,tC h4]
theorem takeP_bad(he:c.err=0)(h1:aZ L c.rf=none)(h2:aZ W c.rf=none)(h3:¬120≤L.length+W.length)(h4:bF L c=true)(h5:bY L c=false):aW L W c=((L,W),7):=by unfold aW;rw[sT (by simp[he]),h1,h2];simp only[sT h3,h4,Bool.true_eq_false,if_false,h5,if_true]
theorem takeP_go(he:c.err=0)(h1:aZ L c.rf=none)(h2:aZ W c.rf=none)(h3:¬120≤L.length+W.length)(h4:bF L c=true)(h5:bY L c=true):aW L W c=(cK W.length (L++[c]) W,0):=by unfold aW;rw[sT (by simp[he]),h1,h2];simp only[sT h3,h4,Bool.true_eq_false,if_false,h5]
theorem found_in(h:(aZ L c.rf).or (aZ W c.rf)=some d):(d∈L∨d∈W)∧d.rf=c.rf:=by (cases h1:aZ L c.rf with|some x=>rw[h1]at h;simp at h;subst h;exact⟨.inl (cT h1).1,(cT h1).2⟩|none=>rw[h1]at h;simp at h;exact⟨.inr (cT h).1,(cT h).2⟩)
end
end
section
open Go.RowKit
structure AllG(L:List ChD)(S:List Rf)(out:List ChD):Prop where
 fin:nN L=lD L S.length out
 len:S.length+out.length=L.length
 mem:∀r,r∈S↔r∈aD L∧r∉aD out
 asc:nQ S
 nd:S.Nodup
section
variable{L out:List ChD}{S:List Rf}{k:Nat}{r:Rf}{x:ChD}
theorem AllG.start(hn:(aD L).Nodup)(hp:S.Perm (aD L))(ha:nQ S):AllG L S []:=by have hl:S.length=L.length:=(by rw[hp.length_eq];simp[aD]);exact⟨by rw[hl];rfl,by simp[hl],fun r=>by simp[aD,hp.mem_iff],ha,hp.nodup_iff.2 hn⟩
theorem nQ.erase(h:nQ S)(k:Nat):nQ (S.eraseIdx k):=by intro i j x y hij hx hy;rw[List.getElem?_eraseIdx]at hx hy;by_cases h1:i<k;(·rw[tC h1]at hx;by_cases h2:j<k;(·rw[tC h2]at hy;exact h i j x y hij hx hy);(·rw[sT h2]at hy;exact h i (j+1) x y QZ hx hy));(·rw[sT h1]at hx;rw[sT QZ]at hy;exact h (i+1) (j+1) x y QZ hx hy)
def iO(L out:List ChD)(r:Rf):Bool:=match aZ L r with
 |some c=>c.deps.all fun d=>decide (d∈aD out)
 |none=>false
theorem AllG.step(h:AllG L S out)(hb:Bk L)(hk:S.findIdx? (iO L out)=some k)(hr:S[k]?=some r):∃x,aZ L r=some x∧x∈L∧x.rf=r∧AllG L (S.eraseIdx k) (out++[x]):=by obtain⟨hkl,hpk,hlt⟩:=List.findIdx?_eq_some_iff_getElem.1 hk;have er:S[k]=r:=(by have:=sI.1 hr;exact this.2);rw[er]at hpk;have hrL:=(h.mem r).1 (sM hr);(cases hf:aZ L r with|none=>exact absurd hrL.1 (cN.1 hf)|some x =>obtain⟨hx,hxr⟩:=cT hf;have hall:(x.deps.all fun d=>decide (d∈aD out))=true:=(by unfold iO at hpk;rw[hf]at hpk;exact hpk);have hnx:gZ L out x=true:=(by unfold gZ;rw[hall,hxr,sO hrL.2];rfl);obtain⟨i,hi,ei⟩:=wH hx;have hxi:L[i]?=some x:=sI.2 ⟨hi,ei⟩;have hl:cP (gZ L out) L=some (i,x.rf):=(by refine leastAt_is hb.nodup hxi hnx fun d hd hpd=>?_;unfold gZ at hpd;rw[tL]at hpd;have hdo:d.rf∉aD out:=(by simpa using hpd.1);obtain⟨j,hj,ej⟩:=wH ((h.mem d.rf).2 ⟨cO hd,hdo⟩);have hdj:S[j]?=some d.rf:=sI.2 ⟨hj,ej⟩;rw[hxr];rcases Nat.lt_trichotomy j k with hlt'|rfl|hgt;(·have:=hlt j hlt';rw[ej]at this;unfold iO at this;rw[eO hb.nodup hd]at this;simp only[Bool.not_eq_true]at this;rw[this]at hpd;cases hpd.2);(·rw[hdj]at hr;cases hr;exact eH _);(·have:=h.asc k j r d.rf hgt hr hdj;unfold aN;rw[decide_eq_false_iff_not];exact this));have hln:S.length=(S.eraseIdx k).length+1:=(by rw[vR hkl];omega);refine⟨x,rfl,hx,hxr,⟨by rw[h.fin,hln];exact allGo_step hl hxi,by have:=h.len;simp only[sF,sN,tT];omega,fun q=>?_,h.asc.erase k,h.nd.sublist (yF _ _)⟩⟩;have hp:=iG S k r hr;have hnd:(r::S.eraseIdx k).Nodup:=hp.nodup_iff.1 h.nd;have h1:q∈S↔q=r∨q∈S.eraseIdx k:=(by rw[hp.mem_iff,sR]);have h2:q∈aD (out++[x])↔q∈aD out∨q=r:=(by rw[cX,sL];simp[aD,hxr]);rw[h2];constructor;(·intro hq;have:=(h.mem q).1 (h1.2 (.inr hq));refine⟨this.1,?_⟩;rintro(h'|rfl);(·exact this.2 h');(·exact(uB.1 hnd).1 hq));(·rintro⟨hq,hn⟩;rcases h1.1 ((h.mem q).2 ⟨hq,fun h'=>hn (.inl h')⟩) with rfl|h';(·exact absurd (.inr rfl) hn);(·exact h')))
theorem AllG.more(h:AllG L S out)(hb:Bk L)(hs:0<S.length):∃k,S.findIdx? (iO L out)=some k∧k<S.length:=by (cases hk:S.findIdx? (iO L out) with|some k=>exact⟨k,rfl,(List.findIdx?_eq_some_iff_getElem.1 hk).1⟩|none =>obtain⟨c,hc,hp⟩:=next_ex hb (out:=out) (by have:=h.len;omega);unfold gZ at hp;rw[tL]at hp;have hm:=(h.mem c.rf).2 ⟨cO hc,by simpa using hp.1⟩;have:=wZ.1 hk c.rf hm;unfold iO at this;rw[eO hb.nodup hc]at this;simp only at this;rw[this]at hp;cases hp.2)
theorem AllG.done(h:AllG L S out)(hs:S.length=0):nN L=out:=by rw[h.fin,hs];rfl
end
/-! ### lists of refs, ascending -/
theorem jO(h:lJ l):nQ l∧l.Nodup:=by unfold lJ at h;constructor;(·intro i j x y hij hx hy hh;obtain⟨h1,e1⟩:=sI.1 hx;obtain⟨h2,e2⟩:=sI.1 hy;have:=List.pairwise_iff_getElem.1 h i j h1 h2 hij;rw[e1,e2]at this;unfold aN at this;simp only[tK]at this;omega);(·exact h.imp fun {a b} hab e=>(by subst e;rw[eH]at hab;cases hab))
theorem asc_eq:∀ {a b:List Rf},nQ a→a.Nodup→nQ b→b.Nodup→(∀r,r∈a↔r∈b)→a=b
 | [],[],_,_,_,_,_=>rfl
 | [],y::b,_,_,_,_,h=>absurd ((h y).2 (tE ..)) QM
 |x::a,[],_,_,_,_,h=>absurd ((h x).1 (tE ..)) QM
 |x::a,y::b,ha,na,hb,nb,h=>by
  have tail:∀ {z:Rf} {l:List Rf},nQ (z::l)→nQ l:=fun hl i j x y hij hx hy=>hl (i+1) (j+1) x y QZ (by simpa using hx) (by simpa using hy)
  have least:∀ {z:Rf} {l:List Rf},nQ (z::l)→∀u∈l,¬(u.1<z.1∨u.1=z.1∧u.2<z.2):=fun {z l} hl u hu=>by
   obtain⟨j,hj,e⟩:=wH hu
   exact hl 0 (j+1) z u QZ rfl (by simpa using sI.2 ⟨hj,e⟩)
  have hxy:x=y:=by
   have h1:=(h x).1 (tE ..);have h2:=(h y).2 (tE ..);rcases sR.1 h1 with e|h1
   ·exact e
   rcases sR.1 h2 with e|h2
   ·exact e.symm
   have q1:=least hb x h1;have q2:=least ha y h2;exact Prod.ext QZ QZ
  subst hxy;congr 1;refine asc_eq (tail ha) (uB.1 na).2 (tail hb) (uB.1 nb).2 fun r=>?_
  have hr:=h r;rw[sR,sR]at hr;constructor
  ·intro h';rcases hr.1 (.inr h') with rfl|h''
   ·exact absurd h' (uB.1 na).1
   ·exact h''
  ·intro h';rcases hr.2 (.inr h') with rfl|h''
   ·exact absurd h' (uB.1 nb).1
   ·exact h''
end
section
open Go.RowKit
end
section
open Go.RowKit
theorem kI(a:Int):∀(l:List OpD) (st:Int),(eP a st l).Pairwise fun x y=>x.2.1<y.2.1
 | [],_=>List.Pairwise.nil
 |o::l,st=>by
  rw[eP,vO];exact⟨fun y hy=>by have:=(dF hy).2.1;show st<_;omega,kI a l _⟩
theorem oX:∀ {l K:List OpI},dS l K=true→l.Pairwise (fun x y=>x.2.1<y.2.1)→∀x∈l,∃K',dE x K'=true∧(∀y∈K',y∈K∨y∈l∧y.2.1<x.2.1)
 | [],_,_,_,x,hx=>by cases hx
 |z::l,K,h,hp,x,hx=>by
  rw[dS,tL]at h;obtain⟨hp1,hp2⟩:=vO.1 hp
  rcases sR.1 hx with rfl|hx
  ·exact⟨K,h.1,fun y hy=>.inl hy⟩
  ·obtain⟨K',h1,h2⟩:=oX h.2 hp2 x hx
   refine⟨K',h1,fun y hy=>?_⟩
   rcases h2 y hy with h3|h3
   ·rcases sL.1 h3 with h4|h4
    ·exact .inl h4
    ·rw[sV.1 h4];exact .inr ⟨tE ..,hp1 x hx⟩
   ·exact .inr ⟨tZ _ h3.1,h3.2⟩
theorem jN{L:List ChD}{x:OpI}: x∈aJ L↔∃c∈L,x∈c.opsI:=by unfold aJ;rw[wG]
theorem gA(A B:List ChD):aJ (A++B)=aJ A++aJ B:=by unfold aJ;rw[uH]
theorem Bk.may{L:List ChD}(h:Bk L):∀x∈aJ L,∃K,dE x K=true∧∀y∈K,y∈aJ L∧y.2.1<x.2.1:=by (induction h with|nil=>intro x hx;cases hx| @snoc L c hb he hw hn hr hf ih =>intro x hx;rw[gA,sL]at hx;rcases hx with hx|hx;(·obtain⟨K,h1,h2⟩:=ih x hx;exact⟨K,h1,fun y hy=>⟨by rw[gA];exact tP _ (h2 y hy).1,(h2 y hy).2⟩⟩);(·have hx2:x∈c.opsI:=(by simpa[aJ] using hx);simp only[bY,fU,tL]at hf;obtain⟨⟨⟨-,-⟩,h3⟩,h4⟩:=hf;obtain⟨K,h5,h6⟩:=oX h4 (kI _ _ _) x hx2;refine⟨K,h5,fun y hy=>?_⟩;rw[gA,sL];rcases h6 y hy with h7|h7;(·obtain⟨b,hb1,hb2⟩:=wG.1 h7;refine⟨.inl (jN.2 ⟨b,(tV.1 hb1).1,hb2⟩),?_⟩;have h8:=uF.1 h3 y h7;have h9:=(dF hx2).2.1;simp only[tK]at h8;omega);(·exact⟨.inr (by simpa[aJ] using h7.1),h7.2⟩)))
theorem nE(h:cJ K n=some y):y∈K∧y.2=n:=⟨uQ h,by simpa using wE h⟩
theorem lookP_is(hn:(K.map Prod.snd).Nodup)(hy:y∈K):cJ K y.2=some y:=by unfold cJ;(cases h:K.find? fun x=>decide (x.2=y.2) with|none=>have:=vI.1 h y hy;simp at this|some z =>have h1:z.2=y.2:=(by simpa using wE h);rw[qX hn (uQ h) hy h1])
theorem Bk.num{L:List ChD}(h:Bk L):∀x∈aJ L,1≤x.2.1∧x.2.1≤1000100∧1≤x.2.2∧x.2.2≤99:=fun x hx=>by
 obtain⟨c,hc,hxc⟩:=jN.1 hx
 obtain⟨h1,h2,h3,-⟩:=dF hxc
 have h4:=(h.err c hc).1;have h5:=gR h4;have h6:=jY (qZ h4).1;unfold ChOk at h5;have h7:c.rf.1=c.a:=rfl;omega
theorem Bk.tree{L:List ChD}(h:Bk L):KTree (aJ L) 1000100 where
 nd:=h.ids
 pos:=fun x hx=>(h.num x hx).1
 top:=fun x hx=>(h.num x hx).2.1
 up:=fun x hx _=>by
  obtain⟨K,h1,h2⟩:=h.may x hx
  unfold dE at h1;cases hk:fL x K with
  |none=>rw[hk]at h1;cases h1
  |some kd =>
   rw[hk]at h1;simp only[tL]at h1;have h3:=h1.1.2;unfold dP at h3;by_cases he:elP x=(0,0)
   ·have:=(h.num x hx).1;rw[he];show(0:Int)<_;omega
   ·rw[sT he]at h3;cases hl:cJ K (elP x) with
    |none=>rw[hl]at h3;cases h3
    |some y =>
     obtain⟨h4,h5⟩:=nE hl
     have:=(h2 y h4).2
     rw[←h5];exact this
def dW(K:List OpI)(obj:Rf):Int:=if obj=(0,0) then 5 else match cJ K obj with|some y=>if y.1.k=2 then y.1.vk else 0|none=>0
theorem Bk.nokey{L:List ChD}(h:Bk L)(hk:dW (aJ L) obj=6):∀x∈aJ L,dD x=obj→x.1.key=⟨#[]⟩:=fun x hx ho=>by
 obtain⟨K,h1,h2⟩:=h.may x hx
 have h0:obj≠(0,0):=fun e=>by unfold dW at hk;rw[tC e]at hk;cases hk
 unfold dE at h1;cases hkp:fL x K with
 |none=>rw[hkp]at h1;cases h1
 |some kd =>
  rw[hkp]at h1;simp only[tL]at h1;unfold fL at hkp;rw[ho,sT h0]at hkp;cases hl:cJ K obj with
  |none=>rw[hl]at hkp;cases hkp
  |some y =>
   rw[hl]at hkp;obtain⟨h4,h5⟩:=nE hl
   have h6:=lookP_is h.ids (h2 y h4).1;rw[h5]at h6;unfold dW at hk;rw[sT h0]at hk;unfold aJ at hk;rw[h6]at hk;by_cases hy:y.1.k=2
   ·simp only[hy,if_true]at hk hkp;have h7:kd=6:=by have:=tJ hkp;omega
    have h8:=h1.1.1;unfold nH at h8;rw[h7]at h8;simpa using h8
   ·simp only[hy,if_false]at hkp;cases hkp
/-! ### All is another order of the same changes -/
theorem allGo_all{L:List ChD}(hb:Bk L):∀(n:Nat) (out:List ChD),(aD out).Nodup→(∀c∈out,c∈L)→out.length+n=L.length →
 (aD (lD L n out)).Nodup∧(∀c∈lD L n out,c∈L)∧(lD L n out).length=L.length
 |0,out,h1,h2,h3=>⟨h1,h2,by simpa[lD] using h3⟩
 |n+1,out,h1,h2,h3=>by
  obtain⟨d,hd1,hd2⟩:=next_ex hb (out:=out) QZ
  cases hl:cP (gZ L out) L with
  |none=>have:=rZ hl d hd1;rw[hd2]at this;cases this
  |some jr =>
   obtain⟨j,r⟩:=jr
   obtain⟨c,hc,hcr,hp,-⟩:=gM hl
   rw[allGo_step hl hc];have hnew:c.rf∉aD out:=fun hm=>by
    unfold gZ at hp;rw[sQ hm]at hp;cases hp
   refine allGo_all hb n (out++[c]) ?_ ?_ ?_
   ·rw[cX,uE];exact⟨h1,by simp[aD],fun a ha b hb' e=>hnew (by simp[aD]at hb';rw[←hb',←e];exact ha)⟩
   ·intro x hx;rcases sL.1 hx with hx|hx
    ·exact h2 x hx
    ·rw[sV.1 hx];exact sM hc
   ·rw[sF,wP];omega
theorem qC{L:List ChD}(h:(aD L).Nodup):L.Nodup:=by unfold aD at h;rw[List.Nodup,vC]at h;exact h.imp fun h e=>h (by rw[e])
theorem all_perm{L:List ChD}(hb:Bk L):(nN L).Perm L:=by obtain⟨h1,h2,h3⟩:=allGo_all hb L.length [] (by simp[aD]) QM QM;have hn:=qC h1;refine lW hn (qC hb.nodup) fun x=>⟨fun hx=>h2 x hx,fun hx=>?_⟩;have hsub:∀r∈aD (nN L),r∈aD L:=fun r hr=>(by obtain⟨c,hc,rfl⟩:=sJ.1 hr;exact cO (h2 c hc));have hr:x.rf∈aD (nN L):=Decidable.byContradiction fun hh=>(by have h4:=nodup_len (x.rf::aD (nN L)) (aD L) (uB.2 ⟨hh,h1⟩) (fun r hr=>by rcases sR.1 hr with rfl|hr;(·exact cO hx);·exact hsub r hr);have h5:(aD (nN L)).length=L.length:=(by unfold aD;rw[sP];exact h3);have h6:(aD L).length=L.length:=(by unfold aD;rw[sP]);simp only[sN]at h4;omega);obtain⟨c,hc,hcr⟩:=sJ.1 hr;have h7:=eO hb.nodup (h2 c hc);have h8:=eO hb.nodup hx;rw[hcr,h8]at h7;rw[tJ h7];exact hc
theorem all_len{L:List ChD}(hb:Bk L):(nN L).length=L.length:=(all_perm hb).length_eq
theorem lT(L:List ChD):aJ (L.map ChD.base)=(aJ L).map bI:=by unfold aJ;rw[List.flatMap_map,List.map_flatMap];exact cG fun c _=>base_opsI c
theorem ops_perm{X L Lr:List ChD}(hb:Bk X)(h1:Lr.map ChD.base=(nN X).map ChD.base)(h2:X.map ChD.base=L.map ChD.base):((aJ Lr).map bI).Perm ((aJ L).map bI):=by rw[←lT,←lT,h1,←h2,lT,lT];exact((all_perm hb).flatMap_right ChD.opsI).map bI
theorem kidIds_base(K:List OpI)(obj el:Rf):eB (K.map bI) obj el=eB K obj el:=by unfold eB;rw[List.filter_map,vG];rfl
theorem kidIds_perm(h:(K.map bI).Perm (K'.map bI))(obj el:Rf):(eB K obj el).Perm (eB K' obj el):=by rw[←kidIds_base K,←kidIds_base K'];exact(h.filter _).map _
theorem kindJ_base(K:List OpI)(obj:Rf):dW (K.map bI) obj=dW K obj:=by unfold dW;rw[pK];cases cJ K obj<;>rfl
theorem kindJ_perm(h:(K.map bI).Perm (K'.map bI))(hn:(K.map Prod.snd).Nodup)(obj:Rf):dW K obj=dW K' obj:=by rw[←kindJ_base K,←kindJ_base K'];have:((K.map bI).map Prod.snd).Nodup:=(by rw[vG];exact hn);unfold dW;rw[lookP_perm h this]
theorem sorted_falls{N:Int}(hK:KTree K N){el:Rf}{T:List Rf}(hp:T.Perm (eB K obj el))(ha:nQ T):T.reverse=dN K obj el:=by obtain⟨h1,h2,-⟩:=hK.kids (obj:=obj) el;have h3:lJ (dN K obj el).reverse:=(by unfold lJ;rw[List.pairwise_reverse];exact h1);obtain⟨h4,h5⟩:=jO h3;have h6:=asc_eq ha (hp.nodup_iff.2 (hK.nodup el)) h4 h5 fun r=>(by rw[hp.mem_iff,vD,h2 r]);rw[h6,List.reverse_reverse]
end
section
open Go.RowKit
theorem same_rf{L:List ChD}(hn:(aD L).Nodup){b c:ChD}(hb:b∈L)(hc:c∈L)(e:b.rf=c.rf):b=c:=by have h1:=eO hn hb;have h2:=eO hn hc;rw[e,h2]at h1;exact(tJ h1).symm
theorem behind_part{L:List ChD}(hA:Bk A)(hL:Bk L)(hs:∀c∈A,c∈L){w:List Rf}(hw:∀r∈w,r∈aD A)(r:Rf):r∈aS A w↔r∈aS L w:=by have sub:∀ {q},q∈aD A→q∈aD L:=fun hq=>(by obtain⟨c,hc,rfl⟩:=sJ.1 hq;exact cO (hs c hc));constructor;(·intro h;refine jM (L:=A.reverse) (fun r=>r∈aS L w) (fun q hq _=>pB hq (sub (hw q hq))) (fun c hc hb d hd _=>?_) r h;exact gJ hL.top (vD.2 (hs c (vD.1 hc))) hb hd);(·intro h;refine jM (L:=L.reverse) (fun r=>r∈aS A w) (fun q hq _=>pB hq (hw q hq)) (fun c hc hb d hd _=>?_) r h;obtain⟨b,hb1,hb2⟩:=sJ.1 (bW hb);have hbc:b=c:=same_rf hL.nodup (hs b hb1) (vD.1 hc) hb2;subst hbc;exact gJ hA.top (vD.2 hb1) hb hd)
theorem Bk.split{L:List ChD}(h:Bk L):∀c∈L,∃A,Bk A∧(∀b∈A,b∈L)∧bF A c=true∧bY A c=true:=by (induction h with|nil=>intro c hc;cases hc| @snoc L c hb he hw hn hr hf ih =>intro x hx;rcases sL.1 hx with hx|hx;(·obtain⟨A,h1,h2,h3,h4⟩:=ih x hx;exact⟨A,h1,fun b hb=>tP _ (h2 b hb),h3,h4⟩);(·rw[sV.1 hx];exact⟨L,hb,fun b hb=>tP _ hb,hr,hf⟩))
theorem behind_dup{L:List ChD}(hb:Bk L)(w:List Rf):∃S:List Rf,S.Nodup∧∀r,r∈S↔r∈aS L w:=by refine⟨(aD L).filter (fun r=>decide (r∈aS L w)),hb.nodup.filter _,fun r=>?_⟩;rw[tV,tK];exact⟨fun h=>h.2,fun h=>⟨bW h,h⟩⟩
theorem opsAt_part{L:List ChD}(hA:(aD A).Nodup)(hL:(aD L).Nodup)(hs:∀c∈A,c∈L){r:Rf}(hr:r∈aD A):eJ A r=eJ L r:=by obtain⟨c,hc,rfl⟩:=sJ.1 hr;unfold eJ;have h1:=eO hA hc;have h2:=eO hL (hs c hc);unfold ChD.rf at h1 h2 ⊢;rw[h1,h2]
theorem fits_part{B L:List ChD}(hA:Bk A)(hB:Bk B)(hL:Bk L)(hAL:∀c∈A,c∈L)(hBL:∀c∈B,c∈L){c:ChD}(hrA:bF A c=true)(hrB:bF B c=true)(hf:bY A c=true):bY B c=true:=by obtain⟨S,hS,hSm⟩:=behind_dup hL c.deps;have hSA:∀r,r∈S↔r∈aS A c.deps:=fun r=>(by rw[hSm r,behind_part hA hL hAL (iE hrA) r]);have hSB:∀r,r∈S↔r∈aS B c.deps:=fun r=>(by rw[hSm r,behind_part hB hL hBL (iE hrB) r]);have heq:S.flatMap (eJ A)=S.flatMap (eJ B):=cG fun r hr=>(by rw[opsAt_part hA.nodup hL.nodup hAL (bW ((hSA r).1 hr)),opsAt_part hB.nodup hL.nodup hBL (bW ((hSB r).1 hr))]);have hsubA:∀r∈S,r∈aD A:=fun r hr=>bW ((hSA r).1 hr);have hin:fU A c S=true:=(by rw[kJ hSA];exact hf);unfold fU at hin;simp only[tL]at hin;obtain⟨⟨⟨h1,-⟩,h3⟩,-⟩:=hin;have hk:=lO hA.nodup hS hsubA;have q1:∀r∈S,¬(r.1=c.a∧c.s≤r.2):=fun r hr=>(by have:=uF.1 h1 r hr;simp only[Bool.not_eq_true',xS,decide_eq_false_iff_not]at this;rintro⟨a,b⟩;rcases this with h|h;(·exact h a);(·exact h b));have q2:∀x∈S.flatMap (eJ A),x.2.1<c.st:=fun x hx=>(by have:=uF.1 h3 x (hk.mem_iff.1 hx);simpa using this);have e1:=fits_yes hA hS hSA (vV _) q1 q2;have e2:=fits_yes hB hS hSB (vV _) q1 (by rw[←heq];exact q2);rw[e2,←heq,←e1];exact hf
theorem Bk.reorder{L L':List ChD}(hb:Bk L)(hp:L'.Perm L)(hr:∀A c B,L'=A++c::B→∀d∈c.deps,d∈aD A):Bk L':=by have hn:(aD L').Nodup:=(by unfold aD;exact(hp.map ChD.rf).nodup_iff.2 hb.nodup);have key:∀n,n≤L'.length→Bk (L'.take n):=(by intro n;(induction n with|zero=>intro _;rw[tS];exact .nil|succ n ih =>intro hlt;obtain⟨c,hc⟩:∃c,L'[n]?=some c:=⟨_,sG QZ⟩;have hA:=ih QZ;have hcL:c∈L:=hp.mem_iff.1 (sM hc);have hsplit:L'=L'.take n++c::L'.drop (n+1):=(by obtain⟨h1,h2⟩:=sI.1 hc;rw[←h2,yD,uV]);have hd:=hr _ _ _ hsplit;have hready:bF (L'.take n) c=true:=uF.2 fun d hdd=>sQ (hd d hdd);have hsub:∀b∈L'.take n,b∈L:=fun b hb'=>hp.mem_iff.1 (xJ hb');have hnew:c.rf∉aD (L'.take n):=(by rw[hsplit,cX,uE]at hn;exact fun hm=>hn.2.2 _ hm c.rf (by simp[aD]) rfl);obtain⟨A0,a1,a2,a3,a4⟩:=hb.split c hcL;rw[sY,hc,uN];exact .snoc hA (hb.err c hcL).1 (hb.err c hcL).2 hnew hready (fits_part a1 hA hb a2 hsub a3 hready a4)));have:=key L'.length (sE _);rwa [sS (sE _)]at this
theorem allGo_ready(L:List ChD):∀(n:Nat) (out:List ChD),(∀A c B,out=A++c::B→∀d∈c.deps,d∈aD A)→∀A c B,lD L n out=A++c::B→∀d∈c.deps,d∈aD A
 |0,out,h=>h
 |n+1,out,h=>by
  unfold lD;cases hl:cP (gZ L out) L with
  |none=>exact h
  |some jr =>
   obtain⟨j,r⟩:=jr
   obtain⟨c,hc,hcr,hp,-⟩:=gM hl
   simp only[hc];refine allGo_ready L n (out++[c]) fun A x B e d hd=>?_
   rcases xB B with rfl|⟨B',y,rfl⟩
   ·obtain⟨e1,e2⟩:=List.append_inj' e rfl
    cases e2;rw[←e1];unfold gZ at hp;rw[tL]at hp;exact of_decide_eq_true (uF.1 hp.2 d hd)
   ·rw[xD,←vZ,←tA]at e;obtain⟨e1,-⟩:=List.append_inj' e rfl
    exact h A x B' e1 d hd
theorem Bk.all{L:List ChD}(hb:Bk L):Bk (nN L) :=
 hb.reorder (all_perm hb) (allGo_ready L L.length [] fun A c B e=>by
  have:=congrArg List.length e
  simp at this)
theorem Bk.ahead{L:List ChD}(h:Bk L):∀P x Q,aJ L=P++x::Q→∃K,dE x K=true∧∀y∈K,y∈P:=by (induction h with|nil =>intro P x Q e;have:=congrArg List.length e;simp[aJ]at this| @snoc L c hb he hw hn hr hf ih =>intro P x Q e;rw[gA]at e;have hc1:aJ [c]=c.opsI:=(by simp[aJ]);rw[hc1]at e;rcases vM P.length (aJ L).length with hlt|hge;(·obtain⟨Q',e1,e2⟩:∃Q',aJ L=P++x::Q'∧Q=Q'++c.opsI:=(by have h1:=List.append_eq_append_iff.1 e;rcases h1 with⟨us,h2,h3⟩|⟨bs,h2,h3⟩;(·have:=congrArg List.length h2;rw[sF]at this;omega);(·(cases bs with|nil=>rw[h2]at hlt;simp at hlt|cons b bs=>simp at h3;exact⟨bs,by rw[h2,h3.1],h3.2⟩)));exact ih P x Q' e1);(·obtain⟨pre,e1,e2⟩:∃pre,P=aJ L++pre∧c.opsI=pre++x::Q:=(by have h1:=List.append_eq_append_iff.1 e;rcases h1 with⟨us,h2,h3⟩|⟨bs,h2,h3⟩;(·exact⟨us,h2,h3⟩);(·have:=congrArg List.length h2;rw[sF]at this;have hb0:bs=[]:=vT QZ;subst hb0;exact⟨[],by rw[h2];simp,by simpa using h3.symm⟩));simp only[bY,fU,tL]at hf;obtain⟨K,h5,h6⟩:=oX hf.2 (kI _ _ _) x (by rw[e2];simp);refine⟨K,h5,fun y hy=>?_⟩;rw[e1,sL];rcases h6 y hy with h7|⟨h7,h8⟩;(·obtain⟨b,hb1,hb2⟩:=wG.1 h7;exact .inl (jN.2 ⟨b,(tV.1 hb1).1,hb2⟩));(·right;have hp:=kI c.a c.ops c.st;rw[e2]at h7;rw[show eP c.a c.st c.ops=pre++x::Q from e2]at hp;rcases sL.1 h7 with h9|h9;(·exact h9);(·obtain⟨-,hp2,-⟩:=yN.1 hp;obtain⟨hp3,-⟩:=vO.1 hp2;rcases sR.1 h9 with rfl|h10;(·omega);(·have:=hp3 y h10;omega)))))
end
section
open Go.RowKit
def VD.add(v:VD)(d:Int):VD:=⟨v.k,IntKind.i64.wrap (v.n+d),v.t,v.a,v.b⟩
def wh0(x:OpI):Wh:=(dD x,x.1.key,elP x)
def wh1(x:OpI):Wh:=(dD x,x.1.key,dO x)
def gB(x:OpI):VD:=if x.1.k=2 then ⟨x.1.vk,x.1.vn,x.1.vt,x.2.1,x.2.2⟩ else ⟨x.1.vk,x.1.vn,x.1.vt,x.1.va,x.1.vb⟩
def gF(x:OpI)(E:List (Rf×VD))(p:Rf):List (Rf×VD) :=
 if x.1.k=4 then E.map fun e=>if e.1=p then (e.1,e.2.add x.1.vn) else e else E.filter fun e=>decide (e.1≠p)
def lastE(x:OpI)(E:List (Rf×VD)):List (Rf×VD):=if x.1.k=1∨x.1.k=2 then E++[(x.2,gB x)] else E
def doE(x:OpI)(E:List (Rf×VD)):List (Rf×VD):=lastE x (x.1.l.foldl (gF x) E)
abbrev StV:=List (Wh×List (Rf×VD))
def eS(S:StV)(w:Wh):List (Rf×VD):=match S.find? (fun e=>decide (e.1=w)) with|some e=>e.2|none=>[]
def fQ(S:StV)(w:Wh):StV:=if ∃e∈S,e.1=w then S else S++[(w,[])]
def setV(S:StV)(w:Wh)(E:List (Rf×VD)):StV:=S.map fun e=>if e.1=w then (e.1,E) else e
def doV(S:StV)(x:OpI):StV:=setV (fQ S (wh1 x)) (wh1 x) (doE x (eS S (wh1 x)))
def kG(K:List OpI):StV:=K.foldl doV []
theorem touchV_mem{S:StV}{w:Wh}: w∈(fQ S w).map Prod.fst:=by unfold fQ;split;(·rename_i h;obtain⟨e,he,e1⟩:=h;exact sJ.2 ⟨e,he,e1⟩);(·simp)
theorem getPl_touch(S:StV)(w v:Wh):eS (fQ S w) v=eS S v:=by unfold fQ;split;(·rfl);(·rename_i h;unfold eS;rw[xW];(cases hf:S.find? (fun e=>decide (e.1=v)) with|some e=>rfl|none =>by_cases e:w=v<;>simp[e]))
theorem getPl_set(S:StV)(w v:Wh)(E:List (Rf×VD))(hw:w∈S.map Prod.fst):eS (setV S w E) v=if v=w then E else eS S v:=by unfold setV eS;rw[List.find?_map];have e1:((fun e:Wh×List (Rf×VD)=>decide (e.1=v))∘fun e=>if e.1=w then (e.1,E) else e)=fun e=>decide (e.1=v):=(by funext e;show decide ((if e.1=w then (e.1,E) else e).1=v)=_;split<;>rfl);rw[e1];(cases hf:S.find? (fun e=>decide (e.1=v)) with|none =>by_cases e:v=w;(·obtain⟨x,hx,hxw⟩:=sJ.1 hw;have:=vI.1 hf x hx;rw[e,hxw]at this;simp at this);(·rw[sT e];rfl)|some x =>have hx:x.1=v:=(by simpa using wE hf);by_cases e:v=w;(·rw[tC e];simp[hx,e]);(·rw[sT e];simp[hx,e]))
theorem getPl_do(S:StV)(x:OpI)(v:Wh):eS (doV S x) v=if v=wh1 x then doE x (eS S v) else eS S v:=by unfold doV;rw[getPl_set _ _ _ _ touchV_mem,getPl_touch];split;(·rename_i h;rw[h]);(·rfl)
theorem getPl_new(K:List OpI):∀(S:StV) (v:Wh),eS (K.foldl doV S) v=(K.filter fun x=>decide (wh1 x=v)).foldl (fun E x=>doE x E) (eS S v):=by (induction K with|nil=>intro S v;rfl|cons x K ih =>intro S v;rw[vK,ih,getPl_do];by_cases h:wh1 x=v;(·rw[tC h.symm,vB (by simpa using h),vK]);(·rw[sT (fun e=>h e.symm),uY (by simpa using h)]))
def gX(K:List OpI)(n:Rf):Bool:=K.any fun y=>decide (y.1.k≠4)&&decide (n∈y.1.l)
def jZ(K:List OpI)(n:Rf):Int:=(K.map fun y=>if y.1.k=4 then (y.1.l.count n:Int)*y.1.vn else 0).sum
def iM(K:List OpI)(x:OpI):VD:=(gB x).add (jZ K x.2)
def bT(K:List OpI)(w:Wh)(x:OpI):Bool:=decide (wh1 x=w)&&(decide (x.1.k=1)||decide (x.1.k=2))&&!gX K x.2
def atV(K:List OpI)(w:Wh):List (Rf×VD):=(K.filter (bT K w)).map fun x=>(x.2,iM K x)
theorem overP_snoc(K:List OpI)(x:OpI)(n:Rf):gX (K++[x]) n=(gX K n||decide (x.1.k≠4)&&decide (n∈x.1.l)):=by unfold gX;rw[List.any_append];simp
theorem mN(K:List OpI)(x:OpI)(n:Rf):jZ (K++[x]) n=jZ K n+if x.1.k=4 then (x.1.l.count n:Int)*x.1.vn else 0:=by unfold jZ;rw[sZ,List.sum_append];simp
theorem wrap_congr{a b:Int}(h:a % 18446744073709551616=b % 18446744073709551616):IntKind.i64.wrap a=IntKind.i64.wrap b:=by have h':a % 2 ^ IntKind.i64.bits=b % 2 ^ IntKind.i64.bits:=h;unfold IntKind.wrap;simp only[h']
theorem wrap_mod(a:Int):∃t,IntKind.i64.wrap a=a+18446744073709551616*t:=by simp only[IntKind.wrap,IntKind.bits,IntKind.signed,wR,tK,Nat.reduceSub,Int.reducePow];split;(·exact⟨-(a / 18446744073709551616)-1,by omega⟩);(·exact⟨-(a / 18446744073709551616),by omega⟩)
theorem wrap_wrap(a b:Int):IntKind.i64.wrap (IntKind.i64.wrap a+b)=IntKind.i64.wrap (a+b):=by obtain⟨t,ht⟩:=wrap_mod a;rw[ht];apply wrap_congr;rw[show a+18446744073709551616*t+b=(a+b)+18446744073709551616*t from by omega,Int.add_mul_emod_self_left]
theorem VD.add_add(v:VD)(a b:Int):(v.add a).add b=v.add (a+b):=by unfold VD.add;rw[wrap_wrap,Int.add_assoc]
theorem VD.add_zero{v:VD}(h:IntKind.i64.wrap v.n=v.n):v.add 0=v:=by unfold VD.add;rw[Int.add_zero,h]
theorem VD.add_wf(v:VD)(a:Int):IntKind.i64.wrap (v.add a).n=(v.add a).n:=by have:=wrap_wrap (v.n+a) 0;simpa[VD.add] using this
theorem preds_inc{x:OpI}(hk:x.1.k=4):∀(l:List Rf) (E:List (Rf×VD)),(∀e∈E,IntKind.i64.wrap e.2.n=e.2.n) →
 l.foldl (gF x) E=E.map fun e=>(e.1,e.2.add ((l.count e.1:Int)*x.1.vn))
 | [],E,h=>by
   rw[List.foldl_nil]
   conv=>lhs;rw[←xK E]
   apply uZ;intro e he;rw[List.count_nil,Int.natCast_zero,Int.zero_mul,VD.add_zero (h e he)];rfl
 |p::l,E,h=>by
  rw[vK];have e1:gF x E p=E.map fun e=>if e.1=p then (e.1,e.2.add x.1.vn) else e:=by unfold gF;rw[tC hk]
  rw[e1,preds_inc hk l _ (fun e he=>by
   obtain⟨d,hd,rfl⟩:=sJ.1 he
   split
   ·exact VD.add_wf _ _
   ·exact h d hd),vG]
  apply uZ;intro e he;simp only[Function.comp];by_cases ep:e.1=p
  ·have e2:x.1.vn+(l.count e.1:Int)*x.1.vn=((p::l).count e.1:Int)*x.1.vn:=by
    rw[ep,List.count_cons_self,Int.natCast_add,Int.add_mul];simp only[Int.natCast_one,Int.one_mul];omega
   rw[tC ep];show(e.1,(e.2.add x.1.vn).add ((l.count e.1:Int)*x.1.vn))=_
   rw[VD.add_add,e2]
  ·rw[sT ep,List.count_cons_of_ne (fun e=>ep e.symm)]
theorem preds_del{x:OpI}(hk:x.1.k≠4):∀(l:List Rf) (E:List (Rf×VD)),l.foldl (gF x) E=E.filter fun e=>decide (e.1∉l)
 | [],E=>by rw[List.foldl_nil];exact(wO.2 QM).symm
 |p::l,E=>by
  rw[vK,preds_del hk l];unfold gF;rw[sT hk,List.filter_filter];apply xN;intro e _;simp only[sR,not_or,ne_eq,Bool.decide_and];rw[Bool.and_comm]
structure Rows1(K:List OpI):Prop where
 nd:(K.map Prod.snd).Nodup
 may:∀P x Q,K=P++x::Q→∃K',dE x K'=true∧∀y∈K',y∈P
 wf:∀x∈K,IntKind.i64.wrap x.1.vn=x.1.vn
 kd:∀x∈K,1≤x.1.k∧x.1.k≤4
theorem Rows1.take{P Q:List OpI}(h:Rows1 K)(e:K=P++Q):Rows1 P :=
 ⟨(h.nd.sublist (by rw[e,sZ];exact List.sublist_append_left _ _)),fun A x B e2=>h.may A x (B++Q) (by rw[e,e2];simp),fun x hx=>h.wf x (by rw[e];exact tP _ hx),fun x hx=>h.kd x (by rw[e];exact tP _ hx)⟩
theorem Rows1.pred{P Q:List OpI}{x:OpI}(h:Rows1 K)(e:K=P++x::Q){p:Rf}(hp:p∈x.1.l):∃y∈P,y.2=p∧wh1 y=wh1 x∧y.1.k≤2∧(x.1.k=4→y.1.k=1∧y.1.vk=4):=by obtain⟨K',h1,h2⟩:=h.may P x Q e;unfold dE at h1;(cases hk:fL x K' with|none=>rw[hk]at h1;cases h1|some kd =>rw[hk]at h1;simp only[tL]at h1;have h3:=uF.1 h1.2 p hp;unfold bP at h3;(cases hl:cJ K' p with|none=>rw[hl]at h3;cases h3|some y =>rw[hl]at h3;obtain⟨h4,h5⟩:=nE hl;simp only[tL,Bool.not_eq_true',decide_eq_false_iff_not,iC,tK,xS,Bool.or_eq_false_iff,Decidable.not_not]at h3;obtain⟨⟨h6,⟨h7,h8⟩,h9⟩,h10⟩:=h3;refine⟨y,h2 y h4,h5,?_,by omega,fun hx4=>?_⟩;(·unfold wh1;rw[h7,h8,h9]);(·rcases h10 with h|h;(·exact(h hx4).elim);(·exact h))))
theorem qJ(h:Rows1 K)(w:Wh):(K.filter fun x=>decide (wh1 x=w)).foldl (fun E x=>doE x E) []=atV K w:=by have key:∀n,n≤K.length→((K.take n).filter fun x=>decide (wh1 x=w)).foldl (fun E x=>doE x E) []=atV (K.take n) w:=(by intro n;(induction n with|zero=>intro _;rfl|succ n ih =>intro hn;obtain⟨x,hx⟩:∃x,K[n]?=some x:=⟨_,sG QZ⟩;have ih:=ih QZ;have hsp:K=K.take n++x::K.drop (n+1):=(by obtain⟨h1,h2⟩:=sI.1 hx;rw[←h2,yD,uV]);have hxm:x∈K:=sM hx;have hP:=h.take (Q:=x::K.drop (n+1)) hsp;have hpred:=fun p hp=>h.pred hsp (p:=p) hp;rw[sY,hx,uN];generalize K.take n=P at *;have hnx:x.2∉P.map Prod.snd:=(by have h1:=h.nd;rw[hsp,sZ,uE]at h1;exact fun hm=>h1.2.2 _ hm x.2 QM rfl);have hself:∀y∈P,x.2∉y.1.l:=fun y hy hm=>(by obtain⟨A,B,e⟩:=vW hy;obtain⟨z,hz,e2,-⟩:=hP.pred e hm;exact hnx (sJ.2 ⟨z,by rw[e];exact tP _ hz,e2⟩));have hxl:x.2∉x.1.l:=fun hm=>(by obtain⟨z,hz,e2,-⟩:=hpred _ hm;exact hnx (sJ.2 ⟨z,hz,e2⟩));have hlive:∀y∈P,bT (P++[x]) w y=(bT P w y&&!(decide (x.1.k≠4)&&decide (y.2∈x.1.l))):=fun y _=>(by unfold bT;rw[overP_snoc,Bool.not_or,Bool.and_assoc,Bool.and_assoc,Bool.and_assoc]);have hplace:∀y∈P,y.2∈x.1.l→wh1 y=wh1 x:=fun y hy hm=>(by obtain⟨z,hz,e2,e3,-⟩:=hpred _ hm;rw[←qX hP.nd hz hy e2];exact e3);have hover0:gX (P++[x]) x.2=false:=(by rw[overP_snoc];have h1:gX P x.2=false:=(by unfold gX;rw[List.any_eq_false];intro y hy;simp[hself y hy]);rw[h1];simp[hxl]);have hinc0:jZ (P++[x]) x.2=0:=(by rw[mN];have h1:jZ P x.2=0:=(by unfold jZ;have:∀l:List OpI,(∀y∈l,x.2∉y.1.l)→(l.map fun y=>if y.1.k=4 then (y.1.l.count x.2:Int)*y.1.vn else 0).sum=0:=(by intro l;(induction l with|nil=>intro _;rfl|cons y l ihl =>intro hl;rw[tB,wJ,ihl (fun z hz=>hl z (tZ _ hz)),xL (hl y (tE ..))];simp));exact this P hself);rw[h1,xL hxl];simp);have hwfx:IntKind.i64.wrap (gB x).n=(gB x).n:=(by have:=h.wf x hxm;unfold gB;split<;>exact this);have hvx:iM (P++[x]) x=gB x:=(by unfold iM;rw[hinc0,VD.add_zero hwfx]);rw[vA];by_cases hw:wh1 x=w;(·rw[show [x].filter (fun x=>decide (wh1 x=w))=[x] from by simp[hw],xM,ih,vK,List.foldl_nil];unfold atV;rw[vA,sZ];by_cases hk4:x.1.k=4;(·have hl1:[x].filter (bT (P++[x]) w)=[]:=(by simp[bT,hk4]);have hl2:P.filter (bT (P++[x]) w)=P.filter (bT P w):=xN fun y hy=>(by rw[hlive y hy];simp[hk4]);rw[hl1,hl2];unfold doE lastE;rw[sT QZ,preds_inc hk4 _ _ (fun e he=>by obtain⟨y,hy,rfl⟩:=sJ.1 he;exact VD.add_wf _ _),vG,wL,uD];apply uZ;intro y _;simp only[Function.comp,iM];rw[VD.add_add,mN,tC hk4]);(·have hl2:P.filter (bT (P++[x]) w)=(P.filter (bT P w)).filter fun y=>decide (y.2∉x.1.l):=(by rw[List.filter_filter];exact xN fun y hy=>(by rw[hlive y hy];simp[hk4,Bool.and_comm]));have hv:∀y∈P,iM (P++[x]) y=iM P y:=fun y _=>(by unfold iM;rw[mN,sT hk4,Int.add_zero]);unfold doE lastE;rw[preds_del hk4];have hmap:(List.map (fun x=>(x.2,iM P x)) (P.filter (bT P w))).filter (fun e=>decide (e.1∉x.1.l))=(P.filter (bT (P++[x]) w)).map fun y=>(y.2,iM (P++[x]) y):=(by rw[List.filter_map,hl2];apply uZ;intro y hy;rw[hv y (tV.1 (tV.1 hy).1).1]);rw[hmap];by_cases hk:x.1.k=1∨x.1.k=2;(·rw[tC hk,show [x].filter (bT (P++[x]) w)=[x] from by simp[bT,hw,hk,hover0],tB,wL,hvx]);(·rw[sT hk,show [x].filter (bT (P++[x]) w)=[] from by simp[bT,hk],wL,uD])));(·rw[show [x].filter (fun x=>decide (wh1 x=w))=[] from by simp[hw],uD,ih];unfold atV;rw[vA,show [x].filter (bT (P++[x]) w)=[] from by simp[bT,hw],uD];have hno:∀y∈P,bT P w y=true→y.2∉x.1.l:=fun y hy hl hm=>(by have:=hplace y hy hm;simp only[bT,tL,tK]at hl;exact hw (this.symm.trans hl.1.1));have hl2:P.filter (bT (P++[x]) w)=P.filter (bT P w):=xN fun y hy=>(by rw[hlive y hy];(cases hl:bT P w y with|false=>rfl|true=>simp[hno y hy hl]));rw[hl2];apply uZ;intro y hy;obtain⟨hy1,hy2⟩:=tV.1 hy;unfold iM;rw[mN,xL (hno y hy1 hy2)];simp)));have:=key K.length (sE _);rwa [sS (sE _)]at this
end
section
open Go.RowKit
theorem sum_perm{l l':List Int}(h:l.Perm l'):l.sum=l'.sum:=by (induction h with|nil=>rfl|cons x _ ih=>rw[wJ,wJ,ih]|swap x y l=>simp only[wJ];omega|trans _ _ h1 h2=>rw[h1,h2])
theorem incP_perm(h:K.Perm K')(n:Rf):jZ K n=jZ K' n:=by unfold jZ;exact sum_perm (h.map _)
theorem overP_perm(h:K.Perm K')(n:Rf):gX K n=gX K' n:=by unfold gX;rw[yO,xF,xF];constructor;(·rintro⟨y,hy,e⟩;exact⟨y,h.mem_iff.1 hy,e⟩);(·rintro⟨y,hy,e⟩;exact⟨y,h.mem_iff.2 hy,e⟩)
theorem atV_perm(h:K.Perm K')(w:Wh):(atV K w).Perm (atV K' w):=by have h1:bT K w=bT K' w:=(by funext x;unfold bT;rw[overP_perm h]);have h2:(fun x:OpI=>(x.2,iM K x))=fun x=>(x.2,iM K' x):=(by funext x;unfold iM;rw[incP_perm h]);unfold atV;rw[h1,h2];exact(h.filter _).map _
theorem overP_base(K:List OpI)(n:Rf):gX (K.map bI) n=gX K n:=by unfold gX;rw[List.any_map];rfl
theorem incP_base(K:List OpI)(n:Rf):jZ (K.map bI) n=jZ K n:=by unfold jZ;rw[vG];rfl
theorem atV_base(K:List OpI)(w:Wh):atV (K.map bI) w=atV K w:=by unfold atV;rw[List.filter_map,vG];have h1:bT (K.map bI) w∘bI=bT K w:=(by funext x;show bT (K.map bI) w (bI x)=_;unfold bT;rw[overP_base];rfl);have h2:((fun x:OpI=>(x.2,iM (K.map bI) x))∘bI)=fun x=>(x.2,iM K x):=(by funext x;show((bI x).2,iM (K.map bI) (bI x))=_;unfold iM;rw[incP_base];rfl);rw[h1,h2]
theorem atV_same(h:(K.map bI).Perm (K'.map bI))(w:Wh):(atV K w).Perm (atV K' w):=by rw[←atV_base K,←atV_base K'];exact atV_perm h w
theorem pP(h:(K.map Prod.snd).Nodup)(w:Wh):((atV K w).map Prod.fst).Nodup:=by unfold atV;rw[vG];exact h.sublist (wW.map _)
theorem atV_len(K:List OpI)(w:Wh):(atV K w).length≤K.length:=by unfold atV;rw[sP];exact vE _ _
def lN(l:List (Rf×VD))(e:Rf×VD):List (Rf×VD):=l.takeWhile (fun q=>aN e.1 q.1)++e::l.dropWhile (fun q=>aN e.1 q.1)
theorem pY{α β:Type}(f:α→β)(p:β→Bool):∀l:List α,(l.map f).takeWhile p=(l.takeWhile (p∘f)).map f
 | []=>rfl
 |x::l=>by
  rw[tB,xX,xX];show(if p (f x) then _ else _)=_
  split
  ·rename_i h;simp only[Function.comp,h,if_true,tB];rw[←pY f p l]
  ·rename_i h;simp only[Function.comp,h];rfl
theorem qF{α β:Type}(f:α→β)(p:β→Bool):∀l:List α,(l.map f).dropWhile p=(l.dropWhile (p∘f)).map f
 | []=>rfl
 |x::l=>by
  rw[tB,List.dropWhile_cons,List.dropWhile_cons];show(if p (f x) then _ else _)=_
  split
  ·rename_i h;simp only[Function.comp,h,if_true];rw[←qF f p l]
  ·rename_i h;simp only[Function.comp,h];rfl
theorem putDV_fst(l:List (Rf×VD))(e:Rf×VD):(lN l e).map Prod.fst=mF (l.map Prod.fst) e.1:=by unfold lN mF;rw[sZ,tB,pY,qF];rfl
theorem putDV_perm(l:List (Rf×VD))(e:Rf×VD):(lN l e).Perm (e::l):=by unfold lN;have:=uR (p:=fun q:Rf×VD=>aN e.1 q.1) (l:=l);(conv=>rhs;rw[←this]);exact wF
def fallV(E:List (Rf×VD)):List (Rf×VD):=E.foldl lN []
theorem fallV_go:∀(E out:List (Rf×VD)),(E.foldl lN out).Perm (out++E)∧(E.foldl lN out).map Prod.fst=(E.map Prod.fst).foldl mF (out.map Prod.fst)
 | [],out=>⟨by simp,rfl⟩
 |e::E,out=>by
  obtain⟨h1,h2⟩:=fallV_go E (lN out e)
  rw[vK];refine⟨h1.trans ?_,by rw[h2,putDV_fst];rfl⟩
  refine((putDV_perm out e).append_right E).trans ?_
  exact wF.symm
theorem fallV_is{E:List (Rf×VD)}(h:(E.map Prod.fst).Nodup):(fallV E).Perm E∧kC ((fallV E).map Prod.fst):=by obtain⟨h1,h2⟩:=fallV_go E [];refine⟨by unfold fallV;simpa using h1,?_⟩;unfold fallV;rw[h2];exact(putD_fold (E.map Prod.fst) [] List.Pairwise.nil (by simpa using h)).1
theorem kC.nodup'(h:kC l):l.Nodup:=h.imp fun hx e=>by rw[e,eH]at hx;cases hx
theorem fall_eq{a b:List Rf}(ha:kC a)(hb:kC b)(h:∀r,r∈a↔r∈b):a=b:=by have h1:lJ a.reverse:=(by unfold lJ;rw[List.pairwise_reverse];exact ha);have h2:lJ b.reverse:=(by unfold lJ;rw[List.pairwise_reverse];exact hb);obtain⟨a1,a2⟩:=jO h1;obtain⟨b1,b2⟩:=jO h2;have:=asc_eq a1 a2 b1 b2 fun r=>(by rw[vD,vD,h r]);exact List.reverse_inj.1 this
theorem fall_pairs:∀ {a b:List (Rf×VD)},a.Perm b→kC (a.map Prod.fst)→kC (b.map Prod.fst)→a=b:=by intro a b hp ha hb;have hf:a.map Prod.fst=b.map Prod.fst:=fall_eq ha hb fun r=>(hp.map Prod.fst).mem_iff;have hn:=hb.nodup';clear ha hb;(induction a generalizing b with|nil=>exact hp.nil_eq|cons x a ih =>(cases b with|nil=>cases hf|cons y b =>simp only[tB,wY]at hf;rw[tB,uB]at hn;have hxy:x=y:=(by rcases sR.1 (hp.mem_iff.1 (tE ..)) with h|h;(·exact h);(·exact(hn.1 (by rw[←hf.1];exact uG h)).elim));subst hxy;rw[ih hp.cons_inv hf.2 hn.2]))
end
section
open Go.RowKit
def iL(K:List OpI)(x:OpI):VD:=if x.1.vk=4 then (gB x).add (jZ K x.2) else gB x
theorem valOf0_k(x:OpI):(gB x).k=x.1.vk:=by unfold gB;split<;>rfl
theorem valOf0_n(x:OpI):(gB x).n=x.1.vn:=by unfold gB;split<;>rfl
theorem incP_none: ∀ {K:List OpI},(∀y∈K,y.1.k=4→n∉y.1.l)→jZ K n=0
 | [],_=>rfl
 |y::K,h=>by
  have ih:=incP_none (K:=K) fun z hz=>h z (tZ _ hz)
  unfold jZ at ih ⊢;rw[tB,wJ,ih];by_cases hk:y.1.k=4
  ·rw[tC hk,xL (h y (tE ..) hk)];simp
  ·rw[sT hk];simp
theorem Rows1.inc0(h:Rows1 K){x:OpI}(hx:x∈K)(hk:¬x.1.vk=4):jZ K x.2=0:=by refine incP_none fun y hy hy4 hm=>?_;obtain⟨P,Q,e⟩:=vW hy;obtain⟨z,hz,h1,h2,h3,h4⟩:=h.pred e hm;have hzx:z=x:=qX h.nd (by rw[e];exact tP _ hz) hx h1;rw[hzx]at h4;exact hk (h4 hy4).2
theorem Rows1.val(h:Rows1 K){x:OpI}(hx:x∈K):iL K x=iM K x:=by unfold iL iM;split;(·rfl);(·rename_i hk;rw[h.inc0 hx hk,VD.add_zero (by rw[valOf0_n];exact h.wf x hx)])
def atG(K:List OpI)(w:Wh)(i:Nat):List (Rf×VD):=(((K.take i).filter (bT K w)).map fun x=>(x.2,iL K x)).foldl lN []
def atJ(K:List OpI)(w:Wh):List (Rf×VD):=atG K w K.length
theorem atJ_is(h:Rows1 K)(w:Wh):atJ K w=fallV (atV K w):=by unfold atJ atG fallV atV;rw[sS (sE _)];congr 1;refine uZ fun x hx=>?_;rw[h.val (tV.1 hx).1]
theorem atG_yes{w:Wh}{i:Nat}{x:OpI}(h:K[i]?=some x)(hl:bT K w x=true):atG K w (i+1)=lN (atG K w i) (x.2,iL K x):=by unfold atG;rw[sY,h];simp[vA,hl]
theorem atG_no{w:Wh}{i:Nat}{x:OpI}(h:K[i]?=some x)(hl:bT K w x=false):atG K w (i+1)=atG K w i:=by unfold atG;rw[sY,h];simp[vA,hl]
theorem fallV_len:∀(E out:List (Rf×VD)),(E.foldl lN out).length=out.length+E.length
 | [],out=>by simp
 |e::E,out=>by
  rw[vK,fallV_len E];have:=(putDV_perm out e).length_eq
  simp only[sN]at this ⊢;omega
theorem atG_len(K:List OpI)(w:Wh)(i:Nat):(atG K w i).length≤i:=by unfold atG;rw[fallV_len,sP];have h1:=vE (bT K w) (K.take i);rw[tH]at h1;simp only[tT];omega
theorem putDV_at{l:List (Rf×VD)}{e:Rf×VD}{k:Nat}(hk:k≤l.length)(h1:∀x∈l.take k,aN e.1 x.1=true)(h2:∀x,l[k]?=some x→aN e.1 x.1=false):lN l e=l.take k++e::l.drop k:=by unfold lN;obtain⟨e1,e2⟩:=fY (fun q:Rf×VD=>aN e.1 q.1) l k hk h1 h2;rw[e1,e2]
theorem overP_no(h:∀y∈K,¬y.1.k=4→n∉y.1.l):gX K n=false:=by unfold gX;rw[List.any_eq_false];intro y hy;by_cases hk:y.1.k=4;(·simp[hk]);(·simp[h y hy hk])
theorem overP_yes(hy:y∈K)(hk:¬y.1.k=4)(hm:n∈y.1.l):gX K n=true:=by unfold gX;rw[xF];exact⟨y,hy,by simp[hk,hm]⟩
theorem incP_take{i:Nat}(h:K[i]?=some y):jZ (K.take (i+1)) n=jZ (K.take i) n+if y.1.k=4 then (y.1.l.count n:Int)*y.1.vn else 0:=by rw[sY,h];exact mN _ _ _
end
section
open Go.RowKit
def putA(l:List Rf)(r:Rf):List Rf:=l.takeWhile (fun q=>aN q r)++r::l.dropWhile (fun q=>aN q r)
theorem putA_at{r:Rf}{k:Nat}(hk:k≤l.length)(h1:∀x∈l.take k,aN x r=true)(h2:∀x,l[k]?=some x→aN x r=false):putA l r=l.take k++r::l.drop k:=by unfold putA;obtain⟨e1,e2⟩:=fY (fun q:Rf=>aN q r) l k hk h1 h2;rw[e1,e2]
theorem putA_putR{r:Rf}(h:r∉l):putA l r=eT l r:=by unfold putA eT;rw[sT h]
theorem putA_len(l:List Rf)(r:Rf):(putA l r).length=l.length+1:=by unfold putA;have h:=congrArg List.length (uR (p:=fun q=>aN q r) (l:=l));rw[sF]at h;rw[sF,sN];omega
def gO(K:List OpI)(i:Nat):List Rf:=(((K.take i).filter fun x=>decide (x.1.k=2)).map Prod.snd).foldl putA [(0,0)]
def dK(K:List OpI):List Rf:=gO K K.length
theorem objsG_yes{i:Nat}{x:OpI}(h:K[i]?=some x)(hl:x.1.k=2):gO K (i+1)=putA (gO K i) x.2:=by unfold gO;rw[sY,h,uN,vA,vB (by simpa using hl),List.filter_nil,sZ,xM];rfl
theorem objsG_no{i:Nat}{x:OpI}(h:K[i]?=some x)(hl:¬x.1.k=2):gO K (i+1)=gO K i:=by unfold gO;rw[sY,h,uN,vA,uY (by simpa using hl),List.filter_nil,uD]
theorem foldA:∀(l out:List Rf),lJ out→(out++l).Nodup→lJ (l.foldl putA out)∧(∀r,r∈l.foldl putA out↔r∈out∨r∈l)
 | [],out,h,_=>⟨h,fun r=>by simp⟩
 |x::l,out,h,hn=>by
  have hx:x∉out:=fun hm=>by
   rw[uE]at hn;exact hn.2.2 x hm x (tE ..) rfl
  rw[vK,putA_putR hx];have hn2:(eT out x++l).Nodup:=by
   have hp:(eT out x++l).Perm (out++x::l):=by
    rw[←putA_putR hx];unfold putA;have h1:=uR (p:=fun q=>aN q x) (l:=out)
    conv=>rhs;rw[←h1]
    rw[tA,tA];refine List.Perm.append_left _ ?_;rw[vZ];exact(wF (l₁:=out.dropWhile fun q=>aN q x)).symm
   exact(hp.nodup_iff).2 hn
  have h2:=foldA l (eT out x) (putR_asc h) hn2;refine⟨h2.1,fun r=>?_⟩
  rw[h2.2 r,oG,sR];constructor
  ·rintro((h|h)|h)
   ·exact .inl h
   ·exact .inr (.inl h)
   ·exact .inr (.inr h)
  ·rintro(h|h|h)
   ·exact .inl (.inl h)
   ·exact .inl (.inr h)
   ·exact .inr h
theorem rW(hn:(K.map Prod.snd).Nodup)(h0:∀x∈K,x.2≠(0,0)):lJ (dK K)∧∀r,r∈dK K↔r=(0,0)∨∃x∈K,x.1.k=2∧x.2=r:=by have h:=foldA (((K.take K.length).filter fun x=>decide (x.1.k=2)).map Prod.snd) [(0,0)] (vO.2 ⟨(fun _ h=>by cases h),List.Pairwise.nil⟩) (by rw[List.take_length,vZ,wD,uB];refine⟨fun hm=>?_,hn.sublist (wW.map _)⟩;obtain⟨x,hx,e⟩:=sJ.1 hm;exact h0 x (tV.1 hx).1 e);refine⟨h.1,fun r=>?_⟩;unfold dK gO;rw[h.2 r,List.take_length];simp only[sV,sJ,tV,tK];constructor;(·rintro(h|⟨x,⟨h1,h2⟩,h3⟩);(·exact .inl h);(·exact .inr ⟨x,h1,h2,h3⟩));(·rintro(h|⟨x,h1,h2,h3⟩);(·exact .inl h);(·exact .inr ⟨x,⟨h1,h2⟩,h3⟩))
theorem objsG_len(K:List OpI)(i:Nat):(gO K i).length≤i+1:=by have key:∀(l out:List Rf),(l.foldl putA out).length=out.length+l.length:=(by intro l;(induction l with|nil=>intro out;simp|cons x l ih=>intro out;rw[vK,ih,putA_len,sN];omega));have h1:=key (((K.take i).filter fun x=>decide (x.1.k=2)).map Prod.snd) [(0,0)];have h2:=vE (fun x:OpI=>decide (x.1.k=2)) (K.take i);rw[sP]at h1;rw[tH]at h2;unfold gO;simp only[sN,tT]at h1;omega
end
section
open Go.RowKit
theorem Bk.of_base{M:List ChD}(h:Bk M):∀ {L:List ChD},L.map ChD.base=M.map ChD.base→Bk L:=by (induction h with|nil =>intro L e;rw[wL,wN]at e;subst e;exact .nil|snoc hb he hw hn hr hf ih =>rename_i M c;intro L e;rcases xB L with rfl|⟨L',c',rfl⟩;(·simp at e);(·rw[xD]at e ⊢;rw[sZ,sZ]at e;obtain⟨e1,e2⟩:=List.append_inj' e rfl;simp only[tB,wL,wY,and_true]at e2;have hrefs:aD L'=aD M:=(by rw[←kN L',←kN M,e1]);have hrf:c'.rf=c.rf:=(by rw[←fW c',←fW c,e2]);refine .snoc (ih e1) ?_ ?_ ?_ ?_ ?_;(·rw[←pC,e2,pC];exact he);(·intro o ho;have h1:Go.Proofs.YtmpkejflgpodkaaGreatDoor.base o∈c'.base.ops:=uG ho;rw[e2]at h1;obtain⟨o2,ho2,e3⟩:=sJ.1 h1;have h4:(Go.Proofs.YtmpkejflgpodkaaGreatDoor.base o2).vn=(Go.Proofs.YtmpkejflgpodkaaGreatDoor.base o).vn:=(by rw[e3]);have h4:o2.vn=o.vn:=h4;rw[←h4];exact hw o2 ho2);(·rw[hrf,hrefs];exact hn);(·rw[←mW,e1,e2,mW];exact hr);(·rw[←pM,e1,e2,pM];exact hf)))
theorem opE_sizes{o:OpD}(h:fT o=0):o.key.size≤20∧o.l.length≤12∧o.k≤4:=by unfold fT opE at h;obtain⟨h1,h⟩:=aT h QZ;obtain⟨h2,h⟩:=aT h QZ;obtain⟨h3,h⟩:=aT h QZ;by_cases h4:gD o.l≠0;(·rw[tC h4]at h;exact absurd h h4);(·refine⟨by omega,?_,by omega⟩;simp only[ne_eq,Decidable.not_not]at h4;unfold gD at h4;obtain⟨h5,_⟩:=aT h4 QZ;omega)
theorem wrap_wf{x:Int}(h:(Lit.int .i64 x).wf=true):IntKind.i64.wrap x=x:=by simp only[Lit.wf,IntKind.min,IntKind.max,IntKind.signed,IntKind.bits]at h;simp at h;exact uP _ QZ
theorem Bk.opsOk{L:List ChD}(h:Bk L){x:OpI}(hx:x∈aJ L):fT x.1=0∧(Lit.int .i64 x.1.vn).wf=true:=by obtain⟨c,hc,hxc⟩:=jN.1 hx;have h1:=dF hxc;exact⟨pN (h.err c hc).1 _ h1.2.2.2,(h.err c hc).2 _ h1.2.2.2⟩
theorem Bk.rows1{L:List ChD}(h:Bk L):Rows1 (aJ L) where
 nd:=h.ids
 may:=h.ahead
 wf:=fun x hx=>wrap_wf (h.opsOk hx).2
 kd:=fun x hx=>⟨(mL (h.opsOk hx).1).1,(opE_sizes (h.opsOk hx).1).2.2⟩
theorem opsI_len'(c:ChD):c.opsI.length=c.ops.length:=by unfold ChD.opsI;generalize c.st=st;generalize c.ops=l;(induction l generalizing st with|nil=>rfl|cons o l ih=>rw[eP,sN,sN,ih])
theorem Bk.lenOps{L:List ChD}(h:Bk L):(aJ L).length≤40*L.length:=by have hk:∀c∈L,c.ops.length≤40:=fun c hc=>(gR (h.err c hc).1).2.2.1;clear h;(induction L with|nil=>simp[aJ]|cons c L ih =>have h1:=hk c (tE ..);have h2:=ih fun d hd=>hk d (tZ _ hd);have h3:aJ (c::L)=c.opsI++aJ L:=(by simp[aJ]);rw[h3,sF,opsI_len',sN];omega)
end
section
open Go.RowKit
def ltS(a b:ByteArray):Bool:=Op.bytesLess a.toList b.toList
theorem qW(a:ByteArray):ltS a a=false:=bl_irrefl _
theorem ltS_asym(h:ltS a b=true):ltS b a=false:=bl_asym _ _ h
theorem ltS_trans{c:ByteArray}(h:ltS a b=true)(k:ltS b c=true):ltS a c=true:=bl_trans _ _ _ h k
theorem ltS_tri(h:ltS a b=false)(k:ltS b a=false):a=b:=jC (by rw[beq_iff_eq];exact bl_tri _ _ h k)
def qH(l:List ByteArray):Prop:=l.Pairwise fun a b=>ltS a b=true
theorem oZ{α:Type}{p:α→Bool}: ∀ {l:List α} {y:α} {d:List α},l.dropWhile p=y::d→p y=false
 | [],_,_,h=>by cases h
 |x::l,y,d,h=>by
  rw[List.dropWhile_cons]at h;cases hx:p x with
  |true=>rw[hx]at h;exact oZ h
  |false =>
   rw[hx]at h;simp only[vP,if_false]at h;cases h;exact hx
theorem rise_eq{α:Type}{r:α→α→Prop}(hi:∀x,¬r x x)(ha:∀x y,r x y→¬r y x):∀ {a b:List α},a.Pairwise r→b.Pairwise r→(∀x,x∈a↔x∈b)→a=b
 | [],[],_,_,_=>rfl
 | [],y::b,_,_,h=>by have:=(h y).2 (tE ..);cases this
 |x::a,[],_,_,h=>by have:=(h x).1 (tE ..);cases this
 |x::a,y::b,h1,h2,h=>by
  rw[vO]at h1 h2;have e:x=y:=by
   rcases sR.1 ((h x).1 (tE ..)) with e|hx
   ·exact e
   ·rcases sR.1 ((h y).2 (tE ..)) with e|hy
    ·exact e.symm
    ·exact(ha _ _ (h1.1 y hy) (h2.1 x hx)).elim
  subst e;rw[rise_eq hi ha h1.2 h2.2 fun z=>?_];constructor
  ·intro hz;rcases sR.1 ((h z).1 (tZ _ hz)) with rfl|h3
   ·exact(hi _ (h1.1 _ hz)).elim
   ·exact h3
  ·intro hz;rcases sR.1 ((h z).2 (tZ _ hz)) with rfl|h3
   ·exact(hi _ (h2.1 _ hz)).elim
   ·exact h3
theorem riseS_eq{a b:List ByteArray}(ha:qH a)(hb:qH b)(h:∀k,k∈a↔k∈b):a=b :=
 rise_eq (fun x hx=>by rw[qW]at hx;cases hx) (fun x y hx hy=>by rw[ltS_asym hx]at hy;cases hy) ha hb h
def pT(l:List ByteArray)(k:ByteArray):Nat:=(l.takeWhile fun q=>ltS q k).length
def putK(l:List ByteArray)(k:ByteArray):List ByteArray:=if l[pT l k]?=some k then l else l.take (pT l k)++k::l.drop (pT l k)
theorem posK_is{l:List ByteArray}{k:ByteArray}{j:Nat}(hj:j≤l.length)(h1:∀x∈l.take j,ltS x k=true)(h2:∀x,l[j]?=some x→ltS x k=false):pT l k=j:=by (induction l generalizing j with|nil=>simp at hj;subst hj;rfl|cons y l ih =>(cases j with|zero =>have:=h2 y rfl;unfold pT;rw[xX,this];rfl|succ j =>have hy:=h1 y (by rw[tI];exact tE ..);have:=ih (j:=j) (by simpa using hj) (fun x hx=>h1 x (by rw[tI];exact tZ _ hx)) (fun x hx=>h2 x (by rwa [wT]));unfold pT at this ⊢;rw[xX,hy];simp[this]))
theorem posK_take(l:List ByteArray)(k:ByteArray):l.take (pT l k)=l.takeWhile fun q=>ltS q k:=by unfold pT;have h:=uR (p:=fun q=>ltS q k) (l:=l);(conv=>lhs;rw[←h]);rw[List.take_left'];rw[h]
theorem posK_drop(l:List ByteArray)(k:ByteArray):l.drop (pT l k)=l.dropWhile fun q=>ltS q k:=by unfold pT;have h:=uR (p:=fun q=>ltS q k) (l:=l);(conv=>lhs;rw[←h]);rw[List.drop_left'];rw[h]
theorem putK_rise{l:List ByteArray}{k:ByteArray}(h:qH l):qH (putK l k)∧∀x,x∈putK l k↔x=k∨x∈l:=by unfold putK;split;(·rename_i he;refine⟨h,fun x=>⟨.inr,fun hx=>hx.elim (fun e=>e▸sM he) id⟩⟩);(·rename_i he;have hs:=uV (pT l k) l;have hall:∀x∈l.take (pT l k),ltS x k=true:=(by rw[posK_take];intro x hx;exact lU (p:=fun q=>ltS q k) hx);have hd:∀x∈l.drop (pT l k),ltS k x=true:=(by rcases hdl:l.drop (pT l k) with _|⟨y,d⟩;(·intro x hx;cases hx);(·have hy:l[pT l k]?=some y:=(by have:=congrArg (·[0]?) hdl;simpa using this);have hyk:ltS y k=false:=(by rw[posK_drop]at hdl;exact oZ (p:=fun q=>ltS q k) hdl);have hky:ltS k y=true:=(by (cases hc:ltS k y with|true=>rfl|false=>exact(he (by rw[hy,ltS_tri hyk hc])).elim));have hp:(y::d).Pairwise fun a b=>ltS a b=true:=(by rw[←hdl];exact h.sublist (List.drop_sublist _ _));intro x hx;rcases sR.1 hx with rfl|hx;(·exact hky);(·exact ltS_trans hky ((vO.1 hp).1 x hx))));refine⟨?_,fun x=>?_⟩;(·unfold qH;rw[yN];refine⟨h.sublist (List.take_sublist _ _),vO.2 ⟨hd,h.sublist (List.drop_sublist _ _)⟩,fun a ha b hb=>?_⟩;rcases sR.1 hb with rfl|hb;(·exact hall a ha);(·exact ltS_trans (hall a ha) (hd b hb)));(·rw[sL,sR];(conv=>rhs;rw[←hs,sL]);constructor;(·rintro(h|h|h);(·exact .inr (.inl h));(·exact .inl h);(·exact .inr (.inr h)));(·rintro(h|h|h);(·exact .inr (.inl h));(·exact .inl h);(·exact .inr (.inr h)))))
def kY(K:List OpI)(obj:Rf)(x:OpI):Bool:=decide (dD x=obj)&&!decide (x.1.key=⟨#[]⟩)&&decide (0<(atJ K (obj,x.1.key,(0,0))).length)
def fG(K:List OpI)(obj:Rf)(i:Nat):List ByteArray:=(((K.take i).filter (kY K obj)).map fun x=>x.1.key).foldl putK []
def dM(K:List OpI)(obj:Rf):List ByteArray:=fG K obj K.length
theorem keysG_yes{i:Nat}{x:OpI}(h:K[i]?=some x)(hl:kY K obj x=true):fG K obj (i+1)=putK (fG K obj i) x.1.key:=by unfold fG;rw[sY,h,uN,vA,vB hl,List.filter_nil,sZ,xM];rfl
theorem keysG_no{i:Nat}{x:OpI}(h:K[i]?=some x)(hl:kY K obj x=false):fG K obj (i+1)=fG K obj i:=by unfold fG;rw[sY,h,uN,vA,uY (by rw[hl];decide),List.filter_nil,uD]
theorem foldK:∀(l out:List ByteArray),qH out→qH (l.foldl putK out)∧(∀k,k∈l.foldl putK out↔k∈out∨k∈l)
 | [],out,h=>⟨h,fun k=>by simp⟩
 |x::l,out,h=>by
  have h1:=putK_rise (k:=x) h;have h2:=foldK l (putK out x) h1.1;refine⟨h2.1,fun k=>?_⟩
  rw[vK,h2.2 k,h1.2 k,sR];constructor
  ·rintro((h|h)|h)
   ·exact .inr (.inl h)
   ·exact .inl h
   ·exact .inr (.inr h)
  ·rintro(h|h|h)
   ·exact .inl (.inr h)
   ·exact .inl (.inl h)
   ·exact .inr h
theorem gI(K:List OpI)(obj:Rf):qH (dM K obj)∧∀k,k∈dM K obj↔∃x∈K,dD x=obj∧x.1.key=k∧k≠⟨#[]⟩∧atJ K (obj,k,(0,0))≠[]:=by have h:=foldK (((K.take K.length).filter (kY K obj)).map fun x=>x.1.key) [] List.Pairwise.nil;refine⟨h.1,fun k=>?_⟩;unfold dM fG;rw[h.2 k,List.take_length];simp only[uJ,false_or,sJ,tV,kY,tL,Bool.not_eq_true',tK,decide_eq_false_iff_not];constructor;(·rintro⟨x,⟨hx,⟨h1,h2⟩,h3⟩,rfl⟩;exact⟨x,hx,h1,rfl,h2,fun e=>by rw[e]at h3;simp at h3⟩);(·rintro⟨x,hx,h1,rfl,h2,h3⟩;exact⟨x,⟨hx,⟨h1,h2⟩,by cases he:atJ K (obj,x.1.key,(0,0)) with|nil=>exact(h3 he).elim|cons a l=>simp⟩,rfl⟩)
theorem kQ(K:List OpI)(obj:Rf)(i:Nat):(fG K obj i).length≤i:=by have key:∀(l out:List ByteArray),(l.foldl putK out).length≤out.length+l.length:=(by intro l;(induction l with|nil=>intro out;simp|cons x l ih =>intro out;have h1:=ih (putK out x);have h2:(putK out x).length≤out.length+1:=(by unfold putK;split;(·omega);(·rw[sF,sN,tH,vJ];omega));rw[vK,sN];omega));have h1:=key (((K.take i).filter (kY K obj)).map fun x=>x.1.key) [];have h2:=vE (kY K obj) (K.take i);rw[sP,tT]at h1;rw[tH]at h2;unfold fG;omega
end
theorem pA(r q:Rf)(w:World):Calls prog 44 #[bD r,bD q] w fun e w'=>e=.returned (.int .i64 (cmpR r q))∧Gr w w':=by obtain⟨ra,rs⟩:=r;obtain⟨qa,qs⟩:=q;simp only[bD,cmpR];have hc1:=lP ra qa;have hc2:=lP rs qs;generalize Lib.compareInt ra qa=x at *;generalize Lib.compareInt rs qs=y at *;have OR:=orI_any x y;generalize (if x=0 then y else x)=z at OR ⊢;go_enter func44,ntmps44;go_wp2_with fail;have hB:Gr w ((w.alloc (.cells #[ra,rs] 24)).alloc (.cells #[qa,qs] 24)):=((Gr.refl w).alloc _).alloc _;have y0:Blk ((w.alloc (.cells #[ra,rs] 24)).alloc (.cells #[qa,qs] 24)) w.heap.size _ _:=(Blk.new w 24 #[ra,rs]).alloc _;have y1:Blk ((w.alloc (.cells #[ra,rs] 24)).alloc (.cells #[qa,qs] 24)) (w.heap.size+1) 24 #[qa,qs]:=(by have:=Blk.new (w.alloc (.cells #[ra,rs] 24)) 24 #[qa,qs];simpa using this);generalize (w.alloc (.cells #[ra,rs] 24)).alloc (.cells #[qa,qs] 24)=w1 at hB y0 y1 ⊢;have HB:=Hi hB;obtain⟨x1,x2⟩:=ce2 y0;obtain⟨x3,x4⟩:=ce2 y1;clear hB y0 y1;refine wp_region_still_tail 10 QQ QQ ?_;simp only[tI,tS,tM,tU];(repeat (refine aK rfl (fun K hK=>?_);go_simp;refine hK _ ?_;clear hK K));(refine aK rfl (fun K hK=>?_);go_simp;refine⟨_,hc1 _,hK _ ?_⟩;clear hK K);(repeat (refine aK rfl (fun K hK=>?_);go_simp;refine hK _ ?_;clear hK K));(refine aK rfl (fun K hK=>?_);go_simp;refine⟨_,hc2 _,hK _ ?_⟩;clear hK K);(repeat (refine aK rfl (fun K hK=>?_);go_simp;refine hK _ ?_;clear hK K));refine wpStill_nil ?_;change wpList _ _ _ _ _ w1.drew;have HB2:Hid (Gr w w1.drew):=HB.o.drew;generalize w1.drew=w2 at HB2 ⊢;clear x1 x2 x3 x4;go_wp2_with fail;go_at_call 69;refine(OR w2.heap.size _ (by rw[(Blk.new w2 _ _).cell 0];rfl) (by rw[(Blk.new w2 _ _).cell 1];rfl)).mono ?_;rintro e w3 ⟨rfl,rfl⟩;go_wp2_with fail;go_ret;exact⟨rfl,HB2.o.alloc _⟩
theorem sortI_any(g cap:Nat)(l:List Rf)(w:World)(h:bG w g l)(hg:g<w.heap.size)(hl:l.length≤1000000): Calls prog 43 #[.slice (some ⟨g,0,none⟩) l.length cap,.func (.func 44) #[] #[]] w fun e w' => e=.returned (.tuple #[])∧∃l',l'.Perm l∧nQ l'∧bG w' g l'∧Chg (fun k=>k=g) w w':=by have eg:∀args w,(callFunc 44 args).run prog w=.ok (.enter 44 args) w:=enters_of func44 QQ (xO (show Tryz.f44.body.isSome=true by kernel_rfl)).symm;have hc:CmpLays prog 44 #[] lG 2 cmpR g 0 l.toArray.size w:=fun _ _ _ _ x y=>pA x y _;have:=AnyQ.slices_SortFunc Tryz.sortId 2 Tryz.isAgg24 Tryz.sizeOf24 lG (fun _=>rfl) encR_one cmpR swo_cmp 44 #[] g 0 cap l.toArray w eg hc h.holds hg (by simp;omega);rw[show l.toArray.size=l.length from by simp]at this;refine this.mono ?_;rintro e w' ⟨rfl,d',n,os,hp,hs,rfl⟩;have hsz:d'.size=l.length:=(by simpa using hp.1);refine⟨rfl,d'.toList,?_,?_,bG.of_holds (by simpa using holdsK_sortWorldK_c lG 2 w g 0 l.toArray d' n os h.holds hg (by simpa using hsz)),lV⟩;(·have h1:d'.extract 0 l.length=d':=(by rw[←hsz];exact xG);have h2:l.toArray.extract 0 l.length=l.toArray:=(by have:l.length=l.toArray.size:=QM;rw[this];exact xG);have h3:=hp.2.2;rw[h1,h2]at h3;exact h3);(·intro i j x y hij hx hy;have hj:j<l.length:=(by rw[←hsz];rcases vM j d'.size with h|h;(·exact h);(·rw[tW (by simpa using h)]at hy;cases hy));have h1:=hs i j (vU _) hij hj;have ex:d'[i]! = x:=(by rw[wQ]at hx;rw[wV,wI,hx];rfl);have ey:d'[j]! = y:=(by rw[wQ]at hy;rw[wV,wI,hy];rfl);rw[nD,ex,ey]at h1;simpa using h1)
theorem build_where(a b c d:Int)(w:World):(Instr.build 126 #[(0,.agg #[a,b]),(2,.agg #[c,d])]).run prog w=.ok (.agg #[a,b,.string ⟨#[]⟩,c,d]) w:=by kernel_rfl
theorem zero_ids(w:World):(zeroValue 28).run prog w=.ok (.slice none 0 0) w:=by kernel_rfl
abbrev dB:=List (Wh×Value×List Rf)
def kidsC(C:dB)(w:Wh):List Rf:=match C.find? (fun x=>decide (x.1=w)) with|some x=>x.2.2|none=>[]
structure KidsAt(w:World)(cb:Nat)(C:dB):Prop where
 map:aH w 126 cb (C.map fun x=>(whV x.1,x.2.1))
 row:∀x∈C,∃A c,x.2.1=.slice A x.2.2.length c∧aA (fun k=>k<w) w 2 A x.2.2.length (aF x.2.2)
theorem KidsAt.below{cb:Nat}{C:dB}(h:KidsAt w cb C)(hb:Below w w w'):KidsAt w' cb C :=
 ⟨aH.keep h.map (hb.block _ (aH.lt h.map)),fun x hx=>by
  obtain⟨A,c,e,hr⟩:=h.row x hx
  exact⟨A,c,e,aE hr hb⟩⟩
theorem KidsAt.look{cb:Nat}{C:dB}(h:KidsAt w cb C){x:Wh}(h1:bZ x.1)(h2:bZ x.2.2)(h3:x.2.1.size≤maxLen): ∃A c,(Instr.lookup 97 (.map (some cb)) (whV x) false).run prog w=.ok (.slice A (kidsC C x).length c) w∧aA (fun k=>k<w) w 2 A (kidsC C x).length (aF (kidsC C x)):=by unfold kidsC;(cases hf:C.find? (fun y=>decide (y.1=x)) with|some y =>have hy:=uQ hf;have he:y.1=x:=(by simpa using wE hf);obtain⟨A,c,e,hr⟩:=h.row y hy;refine⟨A,c,?_,hr⟩;have:=aH.hit h.map cE underlying97 (zero_ids w) (sJ.2 ⟨y,hy,by rw[he,e]⟩) false;exact this|none =>obtain⟨kl,hkl⟩:=jX h1 h2 h3;refine⟨none,0,?_,aA.none_⟩;have:=aH.miss h.map cE underlying97 (zero_ids w) hkl (fun p hp e=>by obtain⟨y,hy,rfl⟩:=sJ.1 hp;have:=vI.1 hf y hy;rw[rF e]at this;simp at this) false;exact this)
theorem sortNoneI(p:Option Addr)(cap:Nat)(fv:Value)(w:World):Calls prog 43 #[.slice p 0 cap,fv] w fun e w'=>e=.returned (.tuple #[])∧w'=w:=by have:=AnyF.slices_SortFunc_none Tryz.sortId p cap fv w;exact this
theorem sortOwnI(A:Option Addr)(cap:Nat)(l:List Rf)(base:Nat)(w:World)(ho:w.ownsRow base 24 2 (.slice A l.length cap) l.length (aF l))(hl:l.length≤1000000): Calls prog 43 #[.slice A l.length cap,.func (.func 44) #[] #[]] w fun e w' => e=.returned (.tuple #[])∧∃l',l'.Perm l∧nQ l'∧aA (fun k=>k<w'.heap.size) w' 2 A l.length (aF l')∧Chg (fun k=>A=some ⟨k,0,none⟩∧base≤k∧k<w.heap.size) w w':=by rcases vH l.length with h0|h0;(·obtain rfl:=uO.1 h0;refine(sortNoneI A cap _ w).mono ?_;rintro e w' ⟨rfl,rfl⟩;exact⟨rfl,[],vV _,fun i j x y _ hx=>by simp at hx,⟨rfl,fun h=>by cases h⟩,Chg.refl _⟩);(·obtain⟨g,cap',hA,hg1,hg2⟩:=ho.form h0;simp only[uW,true_and]at hA;obtain⟨rfl,rfl⟩:=hA;have hrow:bG w g l:=fun j u hu=>(by have hj:j<l.length*2:=(by rcases vM j (l.length*2) with h|h;(·exact h);(·rw[tW (by rw[bC];exact h)]at hu;cases hu));exact⟨(wS ho j hj).trans hu,xP ho j⟩);refine(sortI_any g cap l w hrow hg2 hl).mono ?_;rintro e w' ⟨rfl,l',hp,ha,hr,hc⟩;refine⟨rfl,l',hp,ha,?_,hc.mono fun k _ hk=>by rw[show k=g from hk];exact⟨rfl,hg1,hg2⟩⟩;have h1:=hr.reads.more (D':=fun k=>k<w') fun k hk=>(by rw[hk];exact sH hg2 hc.size);rw[hp.length_eq]at h1;exact h1)
def boxed(v:Value):Nat:=match v with | .pointer _=>0|_=>1
theorem elems_any(K:List OpI)(N:Int)(o1 o2:Int)(C:dB)(g cb:Nat)(v0 v1 v3:Value)(w:World)(hK:KTree K N)(hids:∀x∈K,bZ x.2)(ho:bZ (o1,o2))(hl:K.length≤100000) (hb:Blk w g 100 #[v0,v1,.map (some cb),v3]) (hC:KidsAt w cb C) (hk:∀n,(kidsC C ((o1,o2),⟨#[]⟩,n)).Perm (eB K (o1,o2) n)) : Calls prog 34 #[.pointer (some ⟨g,0,none⟩),.agg #[o1,o2]] w fun e w'=>∃v,e=.returned v ∧ w'.ownsRow w 24 2 v (gQ K (o1,o2) N (0,0)).length (aF (gQ K (o1,o2) N (0,0)))∧Below w w w':=by have HK:=Hi hK;have HID:=Hi hids;have HOB:=Hi ho;have HKK:=Hi hk;have HLN:=Hi hl;have hb1:Below w w (w.alloc (.cells #[o1,o2] 24)):=(sD _ w).alloc (sE _) _;have HG:=Hi hb;have HC:=Hi hC;have HQ:=Hi (Blk.new w 24 #[o1,o2]);have HW:=Hi hb1;have HSZ:Hid (w.heap.size<(w.alloc (.cells #[o1,o2] 24)).heap.size):=HQ.o.lt;obtain⟨B,hB⟩:=QX w.heap.size;have HB:=Hi hB;clear hK hids ho hk hl hb hC hb1;go_enter func34,ntmps34;go_upto_region 1 with fail;generalize w.alloc (.cells #[o1,o2] 24)=w1 at HQ HW HSZ ⊢;rw[hB]at HQ HW HSZ;clear hB;go_upto_region 3 with fail;have hb2:Below w1 w1 (w1.alloc (.cells #[.int .i64 0,.int .i64 0] 24)):=(sD _ w1).alloc (sE _) _;have HQ2:=QY HQ hb2;have HW2:Hid (Below B w (w1.alloc (.cells #[.int .i64 0,.int .i64 0] 24))):=HW.o.trans (hb2.mono (vX HSZ.o));have HS2:Hid ((w1.alloc (.cells #[.int .i64 0,.int .i64 0] 24)).ownsRow B 24 2 (.slice (some ⟨w1.heap.size,0,none⟩) 1 1) 1 (aF [(0,0)])):=yG w1 #[.int .i64 0,.int .i64 0] 1 (vX HSZ.o) (by simp[maxLen]) rfl;have HSB:Hid (B<w1.heap.size):=HSZ.o;clear hb2 HQ HW HSZ;generalize w1.alloc (.cells #[.int .i64 0,.int .i64 0] 24)=w2 at HQ2 HW2 HS2 ⊢;generalize w1.heap.size=gs0 at HS2 HSB ⊢;have HWW:Hid (Below (B+1) w2 w2):=sD _ _;go_loopw [5,6,7,8] (fun s5 s6 s7 _ wr=>∃(out stack:List Rf) (vo vs:Value),vo=s5∧vs=s6∧Hid (ElI K (o1,o2) N out stack)∧Hid (wr.ownsRow (B+1) 24 2 vo out.length (aF out))∧Hid (wr.ownsRow (B+1) 24 2 vs stack.length (aF stack)) ∧ Hid (∀k,vo.ownBlock=some k→vs.ownBlock≠some k)∧Hid (Below (B+1) w2 wr)∧Hid ((boxed s7=1∧stack=[(0,0)]∧out=[])∨(boxed s7=0∧((0,0):Rf)∉stack))) (fun s5 _ s7 _ _=>2*((gQ K (o1,o2) N (0,0)).length-slen s5)+boxed s7);(case atStart=>exact⟨[],[(0,0)],_,_,rfl,rfl,ElI.start,bB _ _ _ _,(by have:=HS2.o;exact bO this fun k hk=>by cases hk;exact HSB.o),(by show ∀k,_→_;intro k hk;cases hk),HWW,.inl ⟨rfl,rfl,rfl⟩⟩);(case round =>clear HS2 HWW;obtain⟨out,stack,vo,vs,rfl,rfl,HE,HO,HS,HNE,HWr,HF⟩:=hrel;rcases xB stack with hst|⟨S,n,hst⟩;(·subst hst;have HD:Hid (out=gQ K (o1,o2) N (0,0)):=HE.o.done;have HOF:Hid (wr.ownsRow B 24 2 vo out.length (aF out)):=bO HO.o fun k hk=>(by have:=(aC HO.o hk).1;omega);have HWF:Hid (Below B w wr):=HW2.o.trans (HWr.o.mono (yL _));obtain⟨As,cs,hvs,-,-,-⟩:=aA.of_own HS.o;subst hvs;clear HE HO HS HNE HWr HF;go_wp2_with fail;go_ret;exact⟨vo,rfl,by rw[←HD.o,HB.o];exact HOF.o,by rw[HB.o];exact HWF.o⟩);(·rw[xD]at hst;subst hst;obtain⟨As,caps,hvs,hcs,hcm,-⟩:=aA.of_own HS.o;obtain⟨gs,caps',hvs2,hgs1,hgs2⟩:=HS.o.form QM;rw[hvs]at hvs2;simp only[uW,true_and]at hvs2;obtain⟨rfl,rfl⟩:=hvs2;obtain⟨m,hm⟩:=QX S.length;have hlen:(S++[n]).length=m+1:=(by rw[sF,hm];rfl);have HS1:Hid (wr.ownsRow (B+1) 24 2 (.slice (some ⟨gs,0,none⟩) (m+1) caps) (m+1) (aF S++[.int .i64 n.1,.int .i64 n.2])):=(by have h:=HS.o;rw[hvs,hlen,bA]at h;exact h);have HMS:=Hi hm;have hbd:out.length+m≤100000:=(by have h1:=HE.o.len;have h2:=HLN.o;rw[hlen]at h1;omega);have hcap:m+1≤caps:=(by rw[←hlen];exact hcs);have hcmx:caps≤9223372036854775807:=(by simpa[maxLen] using hcm);rw[hlen]at hvs;have z1:wr.cell? ⟨gs,m*2,none⟩=some (.int .i64 n.1):=(wS HS1.o (m*2) QZ).trans (by rw[tQ (by rw[bC,hm];omega),bC,hm];simp);have z2:wr.cell? ⟨gs,m*2+1,none⟩=some (.int .i64 n.2):=(wS HS1.o (m*2+1) QZ).trans (by rw[tQ (by rw[bC,hm];omega),bC,hm];simp);have hw1:IntKind.i64.wrap (((m+1:Nat):Int)-1)=(m:Int):=(by rw[show(((m+1:Nat):Int)-1)=(m:Int) from by omega];exact uP _ QZ);have hw2:IntKind.i64.wrap ((m:Int)+1-1)=(m:Int):=(by rw[show((m:Int)+1-1)=(m:Int) from by omega];exact uP _ QZ);subst hvs;obtain⟨Ao,co,hvo,-,-,-⟩:=aA.of_own HO.o;have HSL:Hid (slen vo=out.length):=(by show _=_;rw[hvo];rfl);have HNE2:Hid (∀k,vo.ownBlock=some k→k≠gs):=fun k hk e=>HNE.o k hk (by rw[e];rfl);clear hvo HS HNE hcs hcm hm hlen;go_upto_region 5 with fail;have hba:Below wr wr (wr.alloc (.cells #[n.1,n.2] 24)):=(sD _ wr).alloc (sE _) _;have HBn:=Hi (Blk.new wr 24 #[n.1,n.2]);have HOa:=Hi (aO HO.o hba);have HSa:Hid ((wr.alloc (.cells #[n.1,n.2] 24)).ownsRow (B+1) 24 2 (.slice (some ⟨gs,0,none⟩) m caps) m (aF S)):=aO (ownsRow_pop (by rw[bC,HMS.o]) HS1.o) hba;have HWa:Hid (Below (B+1) w2 (wr.alloc (.cells #[n.1,n.2] 24))):=HWr.o.alloc (by have:=HWr.o.size;have:=HQ2.o.lt;omega) _;have HBNE:Hid (gs<wr.heap.size∧B<wr.heap.size):=⟨hgs2,by have:=HWr.o.size;have:=HQ2.o.lt;omega⟩;have HOL:Hid (∀k,vo.ownBlock=some k→k<wr.heap.size):=fun k hk=>(aC HO.o hk).2;clear hba HO HS1 HWr z1 z2;generalize wr.alloc (.cells #[n.1,n.2] 24)=wa at HBn HOa HSa HWa ⊢;generalize wr.heap.size=qn at HBn HBNE HOL ⊢;obtain⟨nb,hnb⟩:=QX (decide ((n.1,n.2)=((0:Int),(0:Int))));have HNB:=Hi hnb;have E:=fun w=>eq_idD n.1 n.2 0 0 w;rw[hnb]at E;obtain⟨n1,n2⟩:=ce2 HBn.o;clear hnb;go_upto_if 27 with fail;go_cut [5] (fun s5 wc=>∃vo',vo'=s5∧Hid (wc.ownsRow (B+1) 24 2 vo' (if n=(0,0) then out else out++[n]).length (aF (if n=(0,0) then out else out++[n])))∧Hid (∀k,vo'.ownBlock=some k→k≠gs) ∧ Hid (wc.ownsRow (B+1) 24 2 (.slice (some ⟨gs,0,none⟩) m caps) m (aF S))∧Hid (Blk wc qn 24 #[n.1,n.2])∧Hid (Below (B+1) w2 wc));(case first =>(cases nb with|true =>have hn0:n=(0,0):=of_decide_eq_true HNB.o;have HOb:Hid (wa.ownsRow (B+1) 24 2 vo (if n=(0,0) then out else out++[n]).length (aF (if n=(0,0) then out else out++[n]))):=(by show World.ownsRow _ _ _ _ _ _ _;rw[tC hn0];exact HOa.o);clear hn0;go_wp2_with fail;go_meet;(case rel=>exact⟨vo,rfl,HOb,HNE2,HSa,HBn,HWa⟩)|false =>have hn0:¬n=(0,0):=of_decide_eq_false HNB.o;have HN0:=Hi hn0;obtain⟨no,hno⟩:=QX out.length;have HNO:=Hi hno;rw[hno]at HOa hbd;obtain⟨i0,hi,hz0,hz1,hz2⟩:=info_parts nI;have hbs:B+1≤wa.heap.size:=(by have:=HWa.o.size;have:=HQ2.o.lt;omega);clear hn0 hno;go_wp2_with (at_builtin;refine aB _ rfl (.tmp 28) (.tmp 30) _ rfl (B+1) 24 i0 _ 2 16 underlying28 hi hz0 hz1 hz2 rfl QZ (_) (no) (aF out) rfl (HOa.o.alloc _) _ (some ⟨wa.heap.size,0,none⟩) (1) (1) ([Value.int .i64 n.1,Value.int .i64 n.2]) rfl ((bR (by exact Blk.new wa _ #[n.1,n.2]) (n:=2) rfl)) (aX [n]) ?c1 ?c2 ?c3 ?_);(try case c1=>simp only[maxLen];omega);(try case c2=>omega);(try case c3=>simp;omega);intro v4 w4 ho4 hg4 hat4;have hgr:Below (B+1) w2 w4:=(HWa.o.alloc (by have:=HWa.o.size;have:=HQ2.o.lt;omega) _).grown hg4 (by simp;omega) (fun k hk=>(aC HOa.o hk).1);have HO4:Hid (w4.ownsRow (B+1) 24 2 v4 (if n=(0,0) then out else out++[n]).length (aF (if n=(0,0) then out else out++[n]))):=(by show World.ownsRow _ _ _ _ _ _ _;rw[sT HN0.o,sF,HNO.o,bA];simpa[aF] using ho4);have HW4:=Hi hgr;have hkeep:∀k,k<wa.heap.size→vo.ownBlock≠some k→w4.heap[k]?=wa.heap[k]?:=fun k hk hne=>(hg4.block _ (by simp;omega) (fun e=>hne e.symm)).trans (sX _ _ _ hk);have hgl:gs<wa.heap.size:=Nat.lt_trans HBNE.o.1 HBn.o.lt;have HS4:=Hi (aR HSa.o fun k hk=>by cases hk;exact hkeep _ hgl (fun e=>HNE2.o _ e rfl));have HB4:=Hi (HBn.o.keep (hkeep _ HBn.o.lt (fun e=>Nat.lt_irrefl _ (HOL.o _ e))));have HNE4:Hid (∀k,v4.ownBlock=some k→k≠gs):=fun k hk=>(by rcases hat4 with h|h;(·rw[h]at hk;exact HNE2.o k hk);(·rw[h]at hk;have hk:=tJ hk;(first|omega|(rw[sW]at hk;omega))));clear ho4 hg4 hat4 hgr hkeep hgl n1 n2 E;go_wp2_with fail;go_meet;(case rel=>exact⟨v4,rfl,HO4,HNE4,HS4,HB4,HW4⟩)));(case rest =>obtain⟨vo',rfl,HO4,HNE4,HS4,HB4,HW4⟩:=hcut;clear n1 n2 E HOa HSa HWa HBn HNB HNE2 hw1 hw2 HOL;have hsz2:B+1≤w2.heap.size:=(by have:=HQ2.o.lt;omega);have HWW:Hid (Below B w wc):=HW2.o.trans (HW4.o.mono (yL _));have hwB:w.heap.size=B:=HB.o;have HCc:Hid (KidsAt wc cb C):=(by have h:=HWW.o;rw[←hwB]at h;exact HC.o.below h);have hgB:g<B:=(by rw[←hwB];exact HG.o.lt);have g2:=cZ (HG.o.keep (HWW.o.block _ hgB)) 2 rfl;obtain⟨q1,q2⟩:=ce2 (HQ2.o.keep (HW4.o.block _ (Nat.lt_succ_self _)));obtain⟨n1,n2⟩:=ce2 HB4.o;have hnI:bZ n:=(by by_cases hn0:n=(0,0);(·rw[hn0];exact⟨by omega,by omega⟩);(·obtain⟨x,hx,hxe,-⟩:=HE.o.par n QM hn0;rw[←hxe];exact HID.o x hx));obtain⟨Ak,ck,hlk,hrk⟩:=KidsAt.look (w:=wc.drew) (cb:=cb) (C:=C) (HCc.o.below (sD _ wc).drew) (x:=((o1,o2),⟨#[]⟩,n)) HOB.o hnI (vU _);obtain⟨ks,hks⟩:=QX (kidsC C ((o1,o2),⟨#[]⟩,n));rw[hks]at hlk hrk;have HKS:Hid (ks.Perm (eB K (o1,o2) n)):=(by have h:=HKK.o n;rw[hks]at h;exact h);have hkl:ks.length≤100000:=(by have h1:=HKS.o.length_eq;have h2:=kidIds_len (K:=K) (obj:=(o1,o2)) n;have h3:=HLN.o;omega);have C1:=cloneI_any ks (fun k=>k<wc.drew.heap.size) Ak ck wc.drew hrk (fun _ h=>h) QZ;have hbw:=fun w=>build_where o1 o2 n.1 n.2 w;unfold whV at hlk;clear hks hnI hrk hgB;go_upto_region 8 with fail;refine wp_region_still_tail 8 QQ QQ ?_;simp only[tI,tS,tM,tU];(repeat (refine aK rfl (fun K hK=>?_);go_simp;refine hK _ ?_;clear hK K));refine wpStill_nil ?_;change wpList _ _ _ _ _ wc.drew;have HOd:Hid (wc.drew.ownsRow (B+1) 24 2 vo' (if n=(0,0) then out else out++[n]).length (aF (if n=(0,0) then out else out++[n]))):=HO4.o.drew;have HSd:Hid (wc.drew.ownsRow (B+1) 24 2 (.slice (some ⟨gs,0,none⟩) m caps) m (aF S)):=HS4.o.drew;have HWd:Hid (Below (B+1) w2 wc.drew):=HW4.o.drew;clear g2 q1 q2 n1 n2 hlk hbw HO4 HS4 HW4 HB4 HCc HWW hwB;generalize wc.drew=w5 at HOd HSd HWd C1 ⊢;go_wp2_with fail;go_at_call 60;refine C1.mono ?_;rintro e w6 ⟨A6,c6,rfl,ho6,hb6⟩;have HO6:=Hi (aO HOd.o hb6);have HS6:=Hi (aO HSd.o hb6);have HW6:Hid (Below (B+1) w2 w6):=HWd.o.trans (hb6.mono (by have:=HWd.o.size;omega));have C2:=sortOwnI A6 c6 ks w5.heap.size w6 ho6 QZ;have HBL:Hid (B+1≤w5.heap.size∧gs<w5.heap.size∧∀k,vo'.ownBlock=some k→k<w5.heap.size):=⟨by have:=HWd.o.size;omega,(aC HSd.o rfl).2,fun k hk=>(aC HOd.o hk).2⟩;obtain⟨nk,hnk⟩:=QX ks.length;have HNK:=Hi hnk;rw[hnk]at C2 hkl ⊢;have H56:Hid (w5.heap.size≤w6.heap.size):=hb6.size;clear C1 ho6 hb6 HOd HSd HWd hnk;go_wp2_with fail;go_at_call 43;refine C2.mono ?_;rintro e w7 ⟨rfl,T,hTp,hTa,hTr,hch⟩;have HTP:Hid (T.Perm (eB K (o1,o2) n)):=hTp.trans HKS.o;have HTA:=Hi hTa;have HTR:=Hi hTr;have HTL:Hid (T.length=nk):=(by show _=_;rw[hTp.length_eq,HNK.o]);have hkp:∀k,k<w5.heap.size→k<w6.heap.size→w7.heap[k]?=w6.heap[k]?:=fun k hk hk6=>hch.block k hk6 (fun e=>by have:=e.2.1;omega);have h56:=H56.o;have HO7:=Hi (aR HO6.o fun k hk=>hkp k (HBL.o.2.2 k hk) (by have:=HBL.o.2.2 k hk;omega));have HS7:=Hi (aR HS6.o fun k hk=>hkp k (by cases hk;exact HBL.o.2.1) (by cases hk;have:=HBL.o.2.1;show gs<_;omega));have HW7:Hid (Below (B+1) w2 w7):=HW6.o.trans (hch.below (by have:=HBL.o.1;omega) fun k hk=>by have:=HBL.o.1;have:=hk.2.1;omega);have h67:=hch.size;have HV7:Hid (∀k,vo'.ownBlock=some k→k<w7.heap.size):=fun k hk=>(by have:=HBL.o.2.2 k hk;omega);have hbs7:B+1≤w7.heap.size:=(by have:=HBL.o.1;omega);have hmk:m≤100000:=QZ;clear C2 hTp hTa hTr hch hkp h56 h67 HO6 HS6 HW6;obtain⟨i0,hi,hz0,hz1,hz2⟩:=info_parts nI;go_wp2_with (at_builtin;refine aB _ rfl (.tmp 43) (.tmp 44) _ rfl (B+1) 24 i0 _ 2 16 underlying28 hi hz0 hz1 hz2 rfl QZ (.slice (some ⟨gs,0,none⟩) m caps) (m) (aF S) rfl (HS7.o) _ (A6) (nk) (c6) (aF T) rfl (HTR.o) (aX _) ?c1 ?c2 ?c3 ?_);(try case c1=>simp only[maxLen];omega);(try case c2=>omega);(try case c3=>exact hbs7);intro v8 w8 ho8 hg8 hat8;have HS8:Hid (w8.ownsRow (B+1) 24 2 v8 (S++T).length (aF (S++T))):=(by show World.ownsRow _ _ _ _ _ _ _;rw[sF,HMS.o,HTL.o,bA];exact ho8);have HO8:=Hi (aR HO7.o fun k hk=>hg8.block k (HV7.o k hk) (fun e=>HNE4.o k hk (by cases e;rfl)));have HW8:Hid (Below (B+1) w2 w8):=HW7.o.grown hg8 hbs7 (fun k hk=>(aC HS7.o hk).1);have HNE8:Hid (∀k,vo'.ownBlock=some k→v8.ownBlock≠some k):=fun k hk e=>(by rcases hat8 with h|h;(·rw[h]at e;exact HNE4.o k hk (by cases e;rfl));(·rw[h]at e;have h1:=HV7.o k hk;have h2:=tJ e;omega));have HE8:Hid (ElI K (o1,o2) N (if n=(0,0) then out else out++[n]) (S++T)):=HE.o.step HK.o (sorted_falls HK.o HTP.o HTA.o);have HT0:Hid (((0,0):Rf)∉T):=fun hm=>(by have h1:=((HK.o.kids (obj:=(o1,o2)) n).2.1 (0,0)).2 (HTP.o.mem_iff.1 hm);have h2:=(HK.o.kid h1).2.2.1;simp at h2);have HF8:Hid (((0,0):Rf)∉S++T):=fun hm=>(by rcases sL.1 hm with hm|hm;(·rcases HF.o with⟨-,h,-⟩|⟨-,h⟩;(·have:=congrArg List.length h;simp only[sF,wP]at this;have h3:=List.length_pos_of_mem hm;omega);(·exact h (tP _ hm)));(·exact HT0.o hm));have HME:Hid (2*((gQ K (o1,o2) N (0,0)).length-(if n=(0,0) then out else out++[n]).length)<2*((gQ K (o1,o2) N (0,0)).length-out.length)+1-(if n=(0,0) then 0 else 1)):=(by show _<_;by_cases hn0:n=(0,0);(·rw[tC hn0,tC hn0];omega);(·have h1:=HE8.o.short;rw[sT hn0]at h1;rw[sT hn0,sT hn0];rw[sF,wP]at h1 ⊢;omega));clear ho8 hg8 hat8 HS7 HO7 HW7 HTR HTP HTA;go_wp2_with fail;go_roundw;(case rel=>exact⟨(if n=(0,0) then out else out++[n]),S++T,vo',v8,rfl,rfl,HE8,HO8,HS8,HNE8,HW8,.inr ⟨rfl,HF8.o⟩⟩);(case measure =>obtain⟨Av,cv,hv,-,-,-⟩:=aA.of_own HO8.o;have h1:slen vo'=(if n=(0,0) then out else out++[n]).length:=(by rw[hv];rfl);have h2:=HSL.o;have h3:=HME.o;rcases HF.o with⟨h4,h5,h6⟩|⟨h4,h5⟩;(·have hn0:n=(0,0):=(by have:=congrArg List.getLast? h5;simpa using this);rw[tC hn0,tC hn0]at h3;rw[h1,h2,h4,tC hn0];simp only[boxed];omega);(·have hn0:¬n=(0,0):=fun e=>h5 (by rw[e];simp);rw[sT hn0,sT hn0]at h3;rw[h1,h2,h4,sT hn0];simp only[boxed];omega)))))
section
open Go.RowKit
abbrev StC:=List (Wh×List Rf)
def iJ(S:StC)(w:Wh):List Rf:=match S.find? (fun e=>decide (e.1=w)) with|some e=>e.2|none=>[]
def oH(S:StC)(w:Wh)(r:Rf):StC:=if ∃e∈S,e.1=w then S.map (fun e=>if e.1=w then (e.1,e.2++[r]) else e) else S++[(w,[r])]
def doC(S:StC)(x:OpI):StC:=if x.1.ins=true then oH S (wh0 x) x.2 else S
def oP(K:List OpI):StC:=K.foldl doC []
theorem getKi_map(S:StC)(w w':Wh)(r:Rf)(h:∃e∈S,e.1=w):iJ (S.map fun e=>if e.1=w then (e.1,e.2++[r]) else e) w'=if w'=w then iJ S w++[r] else iJ S w':=by (induction S with|nil=>obtain⟨e,he,-⟩:=h;cases he|cons a S ih =>by_cases ha:a.1=w;(·by_cases hw:w'=w;(·subst hw;simp[iJ,ha]);(·have hne:¬a.1=w':=fun e=>hw (by rw[←e,ha]);have hne':¬w=w':=fun e=>hw e.symm;rw[sT hw];by_cases hS:∃e∈S,e.1=w;(·have:=ih hS;rw[sT hw]at this;unfold iJ at this ⊢;simpa[ha,hne'] using this);(·have he:(S.map fun e=>if e.1=w then (e.1,e.2++[r]) else e)=S:=(by (conv=>rhs;rw[←xK S]);exact uZ fun e he=>(by rw[sT fun h=>hS ⟨e,he,h⟩];rfl));unfold iJ;rw[tB,he];simp[ha,hne'])));(·have hS:∃e∈S,e.1=w:=(by obtain⟨e,he,h1⟩:=h;rcases sR.1 he with h2|h2;(·exact(ha (h2▸h1)).elim);(·exact⟨e,h2,h1⟩));have:=ih hS;by_cases hw:a.1=w';(·have hne:¬w'=w:=fun e=>ha (hw.trans e);rw[sT hne];simp[iJ,ha,hw,hne]);(·by_cases h1:w'=w;(·subst h1;unfold iJ at this ⊢;simpa[ha] using this);(·rw[sT h1]at this ⊢;unfold iJ at this ⊢;simpa[ha,hw] using this))))
theorem getKi_put(S:StC)(w w':Wh)(r:Rf):iJ (oH S w r) w'=if w'=w then iJ S w++[r] else iJ S w':=by unfold oH;split;(·rename_i h;exact getKi_map S w w' r h);(·rename_i h;have hn:S.find? (fun e=>decide (e.1=w))=none:=vI.2 fun e he=>(by simpa using fun h1=>h ⟨e,he,h1⟩);unfold iJ;by_cases hw:w'=w;(·subst hw;rw[xW,hn];simp);(·rw[xW,sT hw];have:[(w,[r])].find? (fun e=>decide (e.1=w'))=none:=(by simp[Ne.symm hw]);rw[this];simp))
theorem newC_at(K:List OpI)(w:Wh):iJ (oP K) w=(K.filter fun x=>decide (x.1.ins=true∧wh0 x=w)).map Prod.snd:=by suffices h:∀(l:List OpI) (S:StC),iJ (l.foldl doC S) w=iJ S w++(l.filter fun x=>decide (x.1.ins=true∧wh0 x=w)).map Prod.snd from (by have:=h K [];simpa[oP,iJ] using this);intro l;(induction l with|nil=>intro S;simp|cons x l ih =>intro S;rw[vK,ih,List.filter_cons];unfold doC;by_cases hi:x.1.ins=true;(·rw[tC hi,getKi_put];by_cases hw:wh0 x=w;(·rw[tC hw.symm,tC (by simp[hi,hw]),tB,tA,hw];rfl);(·rw[sT (Ne.symm hw),sT (by simp[hw])]));(·rw[sT hi,sT (by simp[hi])]))
theorem newC_kids(h:∀x∈K,dD x=obj→x.1.key=⟨#[]⟩)(n:Rf):iJ (oP K) (obj,⟨#[]⟩,n)=eB K obj n:=by rw[newC_at,eB];congr 1;refine xN fun x hx=>?_;unfold lA wh0;by_cases ho:dD x=obj;(·have hk:=h x hx ho;by_cases hi:x.1.ins=true<;>by_cases he:elP x=n<;>simp[ho,hk,hi,he]);(·by_cases hi:x.1.ins=true<;>simp[ho,hi])
end
section
open Go.RowKit
abbrev StK:=List (Rf×Int)
def eI(K:List OpI):StK:=((0,0),5)::(K.filter fun x=>decide (x.1.k=2)).map fun x=>(x.2,x.1.vk)
def getKd(S:StK)(o:Rf):Int:=match S.find? (fun e=>decide (e.1=o)) with|some e=>e.2|none=>0
theorem newK_snoc(K:List OpI)(x:OpI):eI (K++[x])=if x.1.k=2 then eI K++[(x.2,x.1.vk)] else eI K:=by unfold eI;rw[vA];by_cases h:x.1.k=2;(·rw[tC h,vB (by simpa using h)];simp);(·rw[sT h,uY (by simpa using h)];simp)
theorem newK_keys{e:Rf×Int}(h:e∈eI K):e.1=(0,0)∨e.1∈K.map Prod.snd:=by rcases sR.1 h with rfl|h;(·exact .inl rfl);(·obtain⟨x,hx,rfl⟩:=sJ.1 h;exact .inr (sJ.2 ⟨x,(tV.1 hx).1,rfl⟩))
theorem newK_at(hn:(K.map Prod.snd).Nodup)(o:Rf):getKd (eI K) o=dW K o:=by by_cases h0:o=(0,0);(·subst h0;simp[getKd,eI,dW]);(·unfold dW eI getKd;rw[sT h0,List.find?_cons_of_neg (by simpa using fun e=>h0 e.symm)];clear h0;(induction K with|nil=>rfl|cons x K ih =>rw[tB,uB]at hn;have ih:=ih hn.2;by_cases ho:x.2=o;(·have hl:cJ (x::K) o=some x:=(by unfold cJ;rw[List.find?_cons_of_pos (by simpa using ho)]);rw[hl];by_cases hk:x.1.k=2;(·rw[vB (by simpa using hk),tB,List.find?_cons_of_pos (by simpa using ho)];simp[hk]);(·rw[uY (by simpa using hk)];have hno:((K.filter fun x=>decide (x.1.k=2)).map fun x=>(x.2,x.1.vk)).find? (fun e=>decide (e.1=o))=none:=(by refine vI.2 fun e he=>?_;obtain⟨y,hy,rfl⟩:=sJ.1 he;have hy:=(tV.1 hy).1;simp only[tK];intro h;exact hn.1 (sJ.2 ⟨y,hy,h.trans ho.symm⟩));rw[hno];simp[hk]));(·have hl:cJ (x::K) o=cJ K o:=(by unfold cJ;rw[List.find?_cons_of_neg (by simpa using ho)]);rw[hl,←ih];by_cases hk:x.1.k=2;(·rw[vB (by simpa using hk),tB,List.find?_cons_of_neg (by simpa using ho)]);(·rw[uY (by simpa using hk)]))))
end
end Go.Proofs.YtmpkejflgpodkaaGreatDoor
