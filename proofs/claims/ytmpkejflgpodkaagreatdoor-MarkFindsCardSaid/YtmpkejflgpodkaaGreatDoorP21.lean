/- Contracts of package state: a place's values, the first one first. -/
import Derived.Test.YtmpkejflgpodkaaGreatDoorP20
import Derived.Test.YtmpkejflgpodkaaGreatDoorP19
import Derived.Test.YtmpkejflgpodkaaGreatDoorP1
set_option maxHeartbeats 8000000
set_option maxRecDepth 20000
set_option linter.unusedVariables false
set_option linter.unusedSimpArgs false
namespace Go.Proofs.YtmpkejflgpodkaaGreatDoor
open Go.ChangeShapes Go.WideShapes Go.ChangeAt Go.RowKit Go.Proofs.YtmpkejflgpodkaaGreatDoor.Loc
def kvd(e:Rf×VD):Value×Value:=(bB e.1,vlV e.2)
def oX(w:World)(k:TypeId)(mb:Option Nat)(l:List (Value×Value)):Prop:=match mb with|some b=>aI w k b l|none=>l=[]
def kU(w:World)(k:TypeId)(mb:Option Nat)(r:Nat)(l todo:List (Value×Value)):Prop :=
 match mb with
 |some b=>bD w k b r l todo
 |none=>l=[]∧todo=[]∧∃s sn c,w.heap[r]?=some (.mapIter none s sn c)
section
variable{w w':World}{k:TypeId}{mb:Option Nat}{r:Nat}{l todo:List (Value×Value)}
theorem kU.lt(h:kU w k mb r l todo):r<w.heap.size:=by
 cases mb with
 |some b=>exact bD.lt h
 |none=>obtain⟨-,-,s,sn,c,hr⟩:=h;exact(vQ.1 hr).1
theorem kU.keep(h:kU w k mb r l todo)(hk:∀b,mb=some b→w'.heap[b]?=w.heap[b]?)(hk':w'.heap[r]?=w.heap[r]?):kU w' k mb r l todo:=by
 cases mb with
 |some b=>exact bD.keep h (hk b rfl) hk'
 |none=>obtain⟨h1,h2,s,sn,c,hr⟩:=h;exact⟨h1,h2,s,sn,c,hk'.trans hr⟩
theorem oX.lt(h:oX w k mb l):∀b,mb=some b→b<w.heap.size:=by
 rintro b rfl;exact aI.lt h
theorem oX.keep(h:oX w k mb l)(hk:∀b,mb=some b→w'.heap[b]?=w.heap[b]?):oX w' k mb l:=by
 cases mb with
 |some b=>exact aI.keep h (hk b rfl)
 |none=>exact h
theorem oX.below(h:oX w k mb l)(hb:Below w.heap.size w w'):oX w' k mb l:=h.keep fun b e=>hb.block b (h.lt b e)
end
section
variable(w:World){ops:Array Oper}{rest:List Oper}{o:Oper}{a:Act}{Q:Exit→Act→World→Prop}
theorem wpO_range(hg:o.guard=none)(m:Operand)(t:TypeId)(hop:o.op=Op.range t m)(k e:TypeId)(ht:Tryz.prog.underlying t=some (.map k e))(mb:Option Nat)(l:List (Value×Value))(hm:a.eval m=.map mb)(h:oX w k mb l)
 (hK:∀w',kU w' k mb w.heap.size l l→Below w.heap.size w w'→w'.heap.size=w.heap.size+1→wpList Tryz.prog ops Q rest (a.put o.dst (.pointer (some ⟨w.heap.size,0,none⟩))) w') :
 wpList Tryz.prog ops Q (o::rest) a w:=by
 cases mb with
 |some b=>exact kJ w hg m t hop k e ht b l hm h hK
 |none =>
  refine wpList_plain hg fun K' hK'=>?_
  have hrun:=run_range_nilMap (P:=Tryz.prog) w t k e ht;unfold Oper.wp;simp[execOp,hop,hm,hrun,Result.andThen];obtain rfl:l=[]:=h;exact hK' _ _ (hK _ ⟨rfl,rfl,0,#[],0,heap_alloc_new w _⟩ ((sB _ w).alloc (sC _) _) (by simp))
theorem wpO_next(hg:o.guard=none)(it:Operand)(hop:o.op=Op.next it false)(mb:Option Nat)(r:Nat)(K todo:List (Rf×VD))(hit:a.eval it=.pointer (some ⟨r,0,none⟩))(h:kU w 24 mb r (K.map kvd) (todo.map kvd))
 (hDone:todo=[]→wpList Tryz.prog ops Q rest (a.put o.dst (.tuple #[.bool false])) w)
 (hMore:∀(x:Rf×VD) (todo':List (Rf×VD)) (w':World),todo.Perm (x::todo')→kU w' 24 mb r (K.map kvd) (todo'.map kvd)→w.grownBy w' (some r)→w'.heap.size=w.heap.size →
   (Instr.entry (.pointer (some ⟨r,0,none⟩))).run Tryz.prog w'=.ok (.tuple #[.agg #[.int .i64 x.1.1,.int .i64 x.1.2],.agg #[.int .i64 x.2.k,.int .i64 x.2.n,.string x.2.t,.int .i64 x.2.a,.int .i64 x.2.b]]) w' →
   wpList Tryz.prog ops Q rest (a.put o.dst (.tuple #[.bool true,.agg #[.int .i64 x.1.1,.int .i64 x.1.2],.agg #[.int .i64 x.2.k,.int .i64 x.2.n,.string x.2.t,.int .i64 x.2.a,.int .i64 x.2.b]])) w') :
 wpList Tryz.prog ops Q (o::rest) a w:=by
 cases mb with
 |some b =>
  refine wpL_next w hg it hop _ b r _ _ hit h (fun e=>hDone (xB.1 e)) fun key v todo' w' hp hI hg hs hen=>?_
  obtain⟨x,t',hx,hp1,hp2⟩:=oK _ hp
  have e1:bB x.1=key:=congrArg Prod.fst hx;have e2:vlV x.2=v:=congrArg Prod.snd hx;subst e1 e2;exact hMore x t' w' hp1 (bD.perm hI hp2) hg hs hen
 |none =>
  obtain⟨-,h2,s,sn,c,hr⟩:=h
  refine wpList_plain hg fun K' hK'=>?_
  have hrun:(Instr.next (.pointer (some ⟨r,0,none⟩)) false o.type).run Tryz.prog w=.ok (.tuple #[.bool false]) w:=by
   simp only[Instr.next,getObj,xG,Sem.run,hr,Result.andThen];rfl
  unfold Oper.wp;simp[execOp,hop,hit,hrun,Result.andThen];exact hK' _ _ (hDone (xB.1 h2))
end
theorem build_place(a b:Int)(k:ByteArray)(c d:Int)(w:World):(Instr.build 73 #[(0,.agg #[.int .i64 a,.int .i64 b]),(1,.string k),(2,.agg #[.int .i64 c,.int .i64 d])]).run Tryz.prog w=.ok (.agg #[.int .i64 a,.int .i64 b,.string k,.int .i64 c,.int .i64 d,.slice none 0 0,.slice none 0 0]) w:=by kernel_rfl
def qM(w:World)(q i:Nat):Nat:=match w.cell? ⟨q,i,none⟩ with|some v=>slen v|none=>0
theorem slenAt_is{w:World}{q i:Nat}{t:TypeId}{cs:Array Value}{v:Value}(h:Blk w q t cs)(hv:cs[i]?=some v):qM w q i=slen v:=by
 unfold qM;rw[h.cell i,hv]
theorem aC.where_{D D':Nat→Prop}{w:World}{size n:Nat}{A:Option Addr}{xs:List Value}(h:aC D w size A n xs)(hd:∀ad:Addr,0<n→A=some ad→D' ad.block):aC D' w size A n xs :=
 ⟨h.1,fun hn=>by
  obtain⟨ad,e,-,hc⟩:=h.2 hn
  exact⟨ad,e,hd ad hn e,hc⟩⟩
def lL(E:List (Rf×VD))(r:Rf):VD:=match E.find? (fun e=>decide (e.1=r)) with|some e=>e.2|none=>⟨0,0,⟨#[]⟩,0,0⟩
theorem valF_mem{E:List (Rf×VD)}{r:Rf}(h:r∈E.map Prod.fst):(r,lL E r)∈E:=by
 obtain⟨e,he,rfl⟩:=sH.1 h
 unfold lL;cases hf:E.find? (fun x=>decide (x.1=e.1)) with
 |none=>exact absurd (uR.1 hf e he) (by simp)
 |some x =>
  have h1:=uB hf;have h2:x.1=e.1:=by simpa using vR hf
  show(e.1,x.2)∈E
  rw[←h2];exact h1
theorem valF_is{E:List (Rf×VD)}(hn:(E.map Prod.fst).Nodup){e:Rf×VD}(he:e∈E):(e.1,lL E e.1)=e:=by
 have h1:=valF_mem (tY (f:=Prod.fst) he);have key:∀L:List (Rf×VD),(L.map Prod.fst).Nodup→∀x∈L,∀y∈L,x.1=y.1→x=y:=by
  intro L;induction L with
  |nil=>intro _ x hx;cases hx
  |cons z L ih =>
   intro hn x hx y hy hxy;rw[sT,tN]at hn;rcases sK.1 hx with rfl|hx2
   ·rcases sK.1 hy with rfl|hy2
    ·rfl
    ·exact(hn.1 (hxy▸tY (f:=Prod.fst) hy2)).elim
   ·rcases sK.1 hy with rfl|hy2
    ·exact(hn.1 (hxy▸tY (f:=Prod.fst) hx2)).elim
    ·exact ih hn.2 x hx2 y hy2 hxy
 exact key E hn _ h1 _ he rfl
theorem valF_perm{E:List (Rf×VD)}{S:List Rf}(hn:(E.map Prod.fst).Nodup)(hp:S.Perm (E.map Prod.fst)):(S.map fun r=>(r,lL E r)).Perm E:=by
 have h1:=hp.map fun r=>(r,lL E r)
 rw[vG]at h1;refine h1.trans (List.Perm.of_eq ?_)
 conv=>rhs;rw[←xF E]
 exact uP fun e he=>valF_is hn he
theorem pJ{P:Program}{fn:Func}{p:Tmp}{ty:TypeId}(h:fn.results=#[.cell p ty])(tmps:Array Value)(w:World)(g:Nat)(t:TypeId)(cs:Array Value)(d:TypeDesc)
 (hp:tmps.getD p undef=.pointer (some ⟨g,0,none⟩)) (hg:Blk w g t cs)
 (hu:P.underlying ty=some d) (hd:(match d with | .struct _ | .array _ _=>true|_=>false)=true) (hi:(P.info? ty).map (·.size)=some cs.size) :
 (results fn tmps).run P w=.ok (.agg cs) w:=by
 have hp':tmps[p]?.getD undef=.pointer (some ⟨g,0,none⟩):=by simpa using hp
 simp[results,h,hp',asAddr,run_loadVar_row w g t ty cs (0,0) d hg hu hd hi]
theorem mapO_hit{w:World}{mb:Option Nat}{E:List (Rf×VD)}(h:oX w 24 mb (E.map kvd)){r:Rf}{v:VD}(hm:(r,v)∈E):(Instr.lookup 132 (.map mb) (bB r) false).run Tryz.prog w=.ok (vlV v) w:=by
 cases mb with
 |some b=>exact aI.hit h dW Tryz.underlying132 (zero_val w) (sH.2 ⟨_,hm,rfl⟩) false
 |none =>
  have h1:E.map kvd=[]:=h;rw[xB.1 h1]at hm;cases hm
def PlR(p:Wh)(l:List (Rf×VD))(B:Nat)(e:Ending)(w':World):Prop :=
 ∃A cA I cI,e=.returned (.agg #[.int .i64 p.1.1,.int .i64 p.1.2,.string p.2.1,.int .i64 p.2.2.1,.int .i64 p.2.2.2,.slice A l.length cA,.slice I l.length cI]) ∧
  aC (fun k=>B≤k∧k<w'.heap.size) w' 5 A l.length (bH (l.map Prod.snd))∧aC (fun k=>B≤k∧k<w'.heap.size) w' 2 I l.length (aE (l.map Prod.fst))
theorem stAt_any(o1 o2:Int)(key:ByteArray)(e1 e2:Int)(E:List (Rf×VD))(mb:Option Nat)(g vb:Nat)(v0 v2 v3:Value)(w:World)(hg:Blk w g 100 #[v0,.map (some vb),v2,v3])
 (hlk:∀U,U.heap[vb]?=w.heap[vb]?→(∀b,mb=some b→U.heap[b]?=w.heap[b]?)→(Instr.lookup 96 (.map (some vb)) (.agg #[.int .i64 o1,.int .i64 o2,.string key,.int .i64 e1,.int .i64 e2]) false).run Tryz.prog U=.ok (.map mb) U)
 (hv:vb<w.heap.size) (hE:oX w 24 mb (E.map kvd)) (hn:(E.map Prod.fst).Nodup) (hl:E.length≤1000000) :
 Calls Tryz.prog 66 #[.pointer (some ⟨g,0,none⟩),.agg #[.int .i64 o1,.int .i64 o2,.string key,.int .i64 e1,.int .i64 e2]] w fun e w' =>
  ∃l,l.Perm E∧DescW (l.map Prod.fst)∧PlR ((o1,o2),key,(e1,e2)) l w.heap.size e w'∧Below w.heap.size w w':=by
 have HG:=Hi hg;have HLK:=Hi hlk;have HV:=Hi hv;have HE:=Hi hE;have HN:=Hi hn;have hbp:=fun w=>build_place o1 o2 key e1 e2 w
 clear hg hlk hv hE hn;go_enter Tryz.func66,Tryz.ntmps66;go_upto_region 2 with fail
 clear hbp;have hb1:Below w.heap.size w (w.alloc (.cells #[.int .i64 o1,.int .i64 o2,.string key,.int .i64 e1,.int .i64 e2] 126)):=(sB _ w).alloc (sC _) _;have hb2:Below w.heap.size w ((w.alloc (.cells #[.int .i64 o1,.int .i64 o2,.string key,.int .i64 e1,.int .i64 e2] 126)).alloc (.cells #[.int .i64 0,.int .i64 0,.string ⟨#[]⟩,.int .i64 0,.int .i64 0,.slice none 0 0,.slice none 0 0] 73)):=hb1.alloc hb1.size _;have hb3:Below w.heap.size w (((w.alloc (.cells #[.int .i64 o1,.int .i64 o2,.string key,.int .i64 e1,.int .i64 e2] 126)).alloc (.cells #[.int .i64 0,.int .i64 0,.string ⟨#[]⟩,.int .i64 0,.int .i64 0,.slice none 0 0,.slice none 0 0] 73)).alloc (.cells #[.int .i64 o1,.int .i64 o2,.string key,.int .i64 e1,.int .i64 e2,.slice none 0 0,.slice none 0 0] 73)):=hb2.alloc hb2.size _;have h1:=Blk.new w 126 #[.int .i64 o1,.int .i64 o2,.string key,.int .i64 e1,.int .i64 e2];have h2:=Blk.new (w.alloc (.cells #[.int .i64 o1,.int .i64 o2,.string key,.int .i64 e1,.int .i64 e2] 126)) 73 #[.int .i64 0,.int .i64 0,.string ⟨#[]⟩,.int .i64 0,.int .i64 0,.slice none 0 0,.slice none 0 0];have h3:=Blk.new ((w.alloc (.cells #[.int .i64 o1,.int .i64 o2,.string key,.int .i64 e1,.int .i64 e2] 126)).alloc (.cells #[.int .i64 0,.int .i64 0,.string ⟨#[]⟩,.int .i64 0,.int .i64 0,.slice none 0 0,.slice none 0 0] 73)) 73 #[.int .i64 o1,.int .i64 o2,.string key,.int .i64 e1,.int .i64 e2,.slice none 0 0,.slice none 0 0];have HW:=Hi ((h1.alloc (.cells #[.int .i64 0,.int .i64 0,.string ⟨#[]⟩,.int .i64 0,.int .i64 0,.slice none 0 0,.slice none 0 0] 73)).alloc (.cells #[.int .i64 o1,.int .i64 o2,.string key,.int .i64 e1,.int .i64 e2,.slice none 0 0,.slice none 0 0] 73));have HR:=Hi (h2.alloc (.cells #[.int .i64 o1,.int .i64 o2,.string key,.int .i64 e1,.int .i64 e2,.slice none 0 0,.slice none 0 0] 73));have HP:=Hi h3;have HB:=Hi hb3;have HS:Hid ((((w.alloc (.cells #[.int .i64 o1,.int .i64 o2,.string key,.int .i64 e1,.int .i64 e2] 126)).alloc (.cells #[.int .i64 0,.int .i64 0,.string ⟨#[]⟩,.int .i64 0,.int .i64 0,.slice none 0 0,.slice none 0 0] 73)).alloc (.cells #[.int .i64 o1,.int .i64 o2,.string key,.int .i64 e1,.int .i64 e2,.slice none 0 0,.slice none 0 0] 73)).heap.size=w.heap.size+1+1+1):=by show _=_;simp
 rw[World.size_alloc]at HR;rw[World.size_alloc,World.size_alloc]at HP;clear hb1 hb2 hb3 h1 h2 h3;generalize ((w.alloc (.cells #[.int .i64 o1,.int .i64 o2,.string key,.int .i64 e1,.int .i64 e2] 126)).alloc (.cells #[.int .i64 0,.int .i64 0,.string ⟨#[]⟩,.int .i64 0,.int .i64 0,.slice none 0 0,.slice none 0 0] 73)).alloc (.cells #[.int .i64 o1,.int .i64 o2,.string key,.int .i64 e1,.int .i64 e2,.slice none 0 0,.slice none 0 0] 73)=V at HW HR HP HB HS ⊢;obtain⟨qp,hqp⟩:∃q,w.heap.size+1+1=q:=⟨_,rfl⟩
 have HQP:=Hi hqp;rw[hqp]at HP HS ⊢;obtain⟨qr,hqr⟩:∃q,w.heap.size+1=q:=⟨_,rfl⟩
 have HQR:=Hi hqr;rw[hqr]at HR ⊢;obtain⟨q,hq⟩:∃q,w.heap.size=q:=⟨_,rfl⟩
 have HQ:=Hi hq;rw[hq]at HW HB ⊢;clear hqp hqr hq;have HGL:Hid (g<q∧vb<q∧(∀b,mb=some b→b<q)):=⟨by have:=HG.o.lt;have:=HQ.o;omega,by have:=HV.o;have:=HQ.o;omega,fun b e=>by have:=HE.o.lt b e;have:=HQ.o;omega⟩;have g1:V.cell? ⟨g,1,none⟩=some (.map (some vb)):=(sM (HB.o.block _ HGL.o.1)).trans (HG.o.cell 1);have x0:=cZ HW.o 0 rfl;have x1:=cZ HW.o 1 rfl;have x2:=cZ HW.o 2 rfl;have x3:=cZ HW.o 3 rfl;have x4:=cZ HW.o 4 rfl
 have hl1:=HLK.o V.drew (HB.o.block _ HGL.o.2.1) (fun b e=>HB.o.block _ (HGL.o.2.2 b e));refine wp_region_still_tail 6 (by kernel_rfl) (by kernel_rfl) ?_;simp only[sV,tG,sY,tH];repeat (first|(refine aK rfl (fun K hK=>?_);go_simp;refine hK _ ?_;clear hK K)|(refine aO rfl ?_;go_frame))
 refine wpStill_nil ?_;change wpList _ _ _ _ _ V.drew;have HWd:Hid (Blk V.drew q 126 #[.int .i64 o1,.int .i64 o2,.string key,.int .i64 e1,.int .i64 e2]):=HW.o;have HRd:Hid (Blk V.drew qr 73 #[.int .i64 0,.int .i64 0,.string ⟨#[]⟩,.int .i64 0,.int .i64 0,.slice none 0 0,.slice none 0 0]):=HR.o;have HPd:Hid (Blk V.drew qp 73 #[.int .i64 o1,.int .i64 o2,.string key,.int .i64 e1,.int .i64 e2,.slice none 0 0,.slice none 0 0]):=HP.o;have HBd:Hid (Below q w V.drew):=HB.o.drew;have HSd:Hid (V.drew.heap.size=qp+1):=HS.o;have HEd:Hid (oX V.drew 24 mb (E.map kvd)):=HE.o.keep fun b e=>HBd.o.block _ (HGL.o.2.2 b e)
 clear g1 x0 x1 x2 x3 x4 hl1 HW HR HP HB HS;generalize V.drew=V1 at HWd HRd HPd HBd HSd HEd ⊢;go_wp2_with (refine wpO_range _ rfl (.tmp 21) 132 rfl 24 50 Tryz.underlying132 mb (E.map kvd) rfl HEd.o ?_;intro w1 hI hb1 hs1)
 have HI:=Hi hI;rw[HSd.o]at HI hs1;have HB1:Hid (Below q w w1):=HBd.o.trans (hb1.mono (by have:=HBd.o.size;rw[HQ.o]at this;exact this));have HW1:=Hi (HWd.o.keep (hb1.block _ HWd.o.lt));have HR1:=Hi (HRd.o.keep (hb1.block _ HRd.o.lt));have HP1:=Hi (HPd.o.keep (hb1.block _ HPd.o.lt));have HS1:=Hi hs1;rw[HSd.o];clear hI hb1 hs1 HWd HRd HPd HBd HEd HSd;simp only[Act.put,zA,zB,zC];go_loopw [6] (fun _ wr=>∃(done todo:List (Rf×VD)) (v:Value),Hid ((done++todo).Perm E)∧Hid (kU wr 24 mb (qp+1) (E.map kvd) (todo.map kvd))∧Hid (Blk wr qp 73 #[.int .i64 o1,.int .i64 o2,.string key,.int .i64 e1,.int .i64 e2,.slice none 0 0,v])∧Hid (wr.ownsRow (qp+2) 24 2 v done.length (aE (done.map Prod.fst)))∧Hid (Chg (fun k=>k=qp∨k=qp+1) w1 wr)) (fun _ wr=>E.length-qM wr qp 6)
 case atStart=>exact⟨[],E,.slice none 0 0,Hi (vP _),HI,HP1,bT _ _ _ _,Hi (Chg.refl _)⟩
 case round =>
  clear HI HP1;obtain⟨done,todo,v,HPM,HI,HP,HO,HC⟩:=hrel
  have hlen:done.length+todo.length=E.length:=by rw[←sG];exact HPM.o.length_eq
  go_wp2_with (refine wpO_next _ rfl (.tmp 22) rfl mb (qp+1) E todo rfl HI.o ?_ ?_)
  ·intro ht;subst ht;have HPD:Hid (done.Perm E):=by have:=HPM.o;rwa [uL]at this
   obtain⟨A,c,hv,-,-,-⟩:=aC.of_own HO.o
   subst hv;have hdn:done.length=E.length:=HPD.o.length_eq;have HDN:=Hi hdn;have p6:=cZ HP.o 6 rfl;have C1:=sortOwnD A c (done.map Prod.fst) (qp+2) wr (by rw[sP];exact HO.o) (by rw[sP,hdn];exact hl);rw[sP]at C1;have HA:Hid (∀ad:Addr,0<done.length→A=some ad→qp+2≤ad.block):=fun ad h0 e=>by
    obtain⟨g,cap,hA,hg1,hg2⟩:=HO.o.form h0
    simp only[tZ,true_and]at hA;rw[hA.1]at e;cases e;exact hg1
   obtain⟨n,hdn'⟩:∃n,done.length=n:=⟨_,rfl⟩
   rw[hdn']at HP HA HDN p6 C1 hlen hdn;clear hlen HI HO HPM hdn' hdn;go_wp2_with fail
   go_at_call 43;refine C1.mono ?_;rintro e w2 ⟨rfl,S,hpS,hdS,hrS,hcS⟩;have HSP:Hid (S.Perm (E.map Prod.fst)):=hpS.trans (HPD.o.map _);have HSD:=Hi hdS;have HSN:Hid (S.length=n):=by show _=_;rw[HSP.o.length_eq,sP,HDN.o]
   have HRS:Hid (aC (fun k=>qp+2≤k∧k<w2.heap.size) w2 2 A n (aE S)):=hrS.where_ fun ad h0 e=>⟨HA.o ad h0 e,by
    obtain⟨b,o,e2,hb,-⟩:=hrS.at_ h0 (by omega)
    rw[e]at e2;cases e2;exact hb⟩
   have HP2:=Hi (HP.o.keep (hcS.block _ HP.o.lt (by rintro⟨e,h1,h2⟩;omega)));have hcc:Chg (fun k=>k=qp∨k=qp+1) w1 w2:=HC.o.trans hcS (fun i hi hk=>by have:=hk.2.1;have:=HS1.o;exact .inl (by omega));have HB2:Hid (Below q w w2):=HB1.o.trans (hcc.below (by have:=HB1.o.size;rw[HQ.o]at this;exact this) (fun k hk=>by have:=HQ.o;have:=HQR.o;have:=HQP.o;omega));have HS2:Hid (qp+2≤w2.heap.size):=by have h1:=hcS.size;have h2:=HC.o.size;have h3:=HS1.o;show _≤_;omega
   have HW2:Hid (Blk w2 q 126 #[.int .i64 o1,.int .i64 o2,.string key,.int .i64 e1,.int .i64 e2]):=HW1.o.keep (hcc.block _ HW1.o.lt (by have:=HQ.o;have:=HQR.o;have:=HQP.o;omega));have HR2:Hid (Blk w2 qr 73 #[.int .i64 0,.int .i64 0,.string ⟨#[]⟩,.int .i64 0,.int .i64 0,.slice none 0 0,.slice none 0 0]):=HR1.o.keep (hcc.block _ HR1.o.lt (by have:=HQ.o;have:=HQR.o;have:=HQP.o;omega));clear hpS hdS hrS hcS hcc p6 C1 HP HC HA HW1 HR1 HB1 HPD;have p6:=cZ HP2.o 6 rfl;go_upto_region 8 with fail
   clear p6;go_loopw [8,39] (fun _ s wr=>∃(k:Nat) (AV:Value),s=.int .i64 k∧k≤n∧Hid (Blk wr qp 73 #[.int .i64 o1,.int .i64 o2,.string key,.int .i64 e1,.int .i64 e2,AV,.slice A n c])∧Hid (wr.ownsRow w2.heap.size 50 5 AV k (bH ((S.take k).map (lL E))))∧Hid (Chg (fun k=>k=qp) w2 wr)) (fun _ s _=>n-(intOf s).toNat)
   case atStart=>exact⟨0,.slice none 0 0,rfl,by omega,HP2,(by show World.ownsRow _ _ _ _ _ _ _;rw[tG];exact bT _ _ _ _),Hi (Chg.refl _)⟩
   case round =>
    clear HP2;obtain⟨k,AV,rfl,hk,HP,HO,HC⟩:=hrel
    by_cases hlt:k<n
    ·obtain⟨⟨r1,r2⟩,hr⟩:∃r,S[k]?=some r:=⟨_,sD (by rw[HSN.o];exact hlt)⟩
     have HRK:=Hi hr;have hn1:n≤1000000:=by have:=HDN.o;omega
     have HBr:Hid (Below q w wr):=HB2.o.trans (HC.o.below (by have:=HB2.o.size;rw[HQ.o]at this;exact this) (fun k hk=>by have:=HQ.o;have:=HQR.o;have:=HQP.o;omega));obtain⟨ab,ao,rfl,-,hcA⟩:=(HRS.o.keep (HC.o.keeps fun k hk=>⟨hk.2,by omega⟩)).at_ (by omega) (by omega)
     have y1:wr.cell? ⟨ab,ao+k*2,none⟩=some (.int .i64 r1):=hcA _ _ (aL hr).1;have y2:wr.cell? ⟨ab,ao+k*2+1,none⟩=some (.int .i64 r2):=by have:=hcA _ _ (aL hr).2;rw[←tL]at this;exact this
     obtain⟨Aa,ca,hva,-,-,-⟩:=aC.of_own HO.o
     subst hva;clear hcA hr;go_upto_region 10 with fail
     have HP3:=Hi (HP.o.alloc (.cells #[.int .i64 r1,.int .i64 r2] 24));have HO3:=Hi (HO.o.alloc (.cells #[.int .i64 r1,.int .i64 r2] 24));have HC3:=Hi (HC.o.alloc (.cells #[.int .i64 r1,.int .i64 r2] 24));have HQ3:=Hi (Blk.new wr 24 #[.int .i64 r1,.int .i64 r2]);have HB3:Hid (Below q w (wr.alloc (.cells #[.int .i64 r1,.int .i64 r2] 24))):=HBr.o.alloc (by have:=HBr.o.size;rw[HQ.o]at this;exact this) _;have HBQ0:Hid (w2.heap.size≤wr.heap.size):=HC.o.size;clear HP HO HC HBr y1 y2;generalize wr.alloc (.cells #[.int .i64 r1,.int .i64 r2] 24)=w3 at HP3 HO3 HC3 HQ3 HB3 ⊢;have HBQ:Hid (w2.heap.size≤wr.heap.size):=HBQ0.o;generalize wr.heap.size=B2 at HQ3 HBQ ⊢;obtain⟨v,hv⟩:∃v,lL E (r1,r2)=v:=⟨_,rfl⟩
     have HVK:=Hi hv;clear hv;have HW3:Hid (Blk w3 q 126 #[.int .i64 o1,.int .i64 o2,.string key,.int .i64 e1,.int .i64 e2]):=HW2.o.keep (HC3.o.block _ HW2.o.lt (by have:=HQ.o;have:=HQR.o;have:=HQP.o;omega));have HM:Hid (((r1,r2),v)∈E):=by
      have hm:=valF_mem (E:=E) (r:=(r1,r2)) ((HSP.o.mem_iff).1 (sJ HRK.o));rw[HVK.o]at hm;exact hm
     have HNE:Hid ((Value.slice Aa k ca).ownBlock≠some qp):=eT HO3.o HP3.o (by decide);have HNB:Hid ((Value.slice Aa k ca).ownBlock≠some B2):=eT HO3.o HQ3.o (by decide);have hoq:∀j,j≤q→(Value.slice Aa k ca).ownBlock≠some j:=fun j hj e=>by have h1:=(aF HO3.o e).1;have:=HS2.o;have:=HQ.o;have:=HQR.o;have:=HQP.o;omega
     have HOQ:=Hi hoq;have HQ3s:Hid (q<w3.heap.size):=HW3.o.lt;have KS:Hid (∀V:World,(∀j,j<w3.heap.size→j≠qp→(Value.slice Aa k ca).ownBlock≠some j→V.heap[j]?=w3.heap[j]?)→V.cell? ⟨g,1,none⟩=some (.map (some vb))∧V.cell? ⟨q,0,none⟩=some (.int .i64 o1)∧V.cell? ⟨q,1,none⟩=some (.int .i64 o2)∧V.cell? ⟨q,2,none⟩=some (.string key)∧V.cell? ⟨q,3,none⟩=some (.int .i64 e1)∧V.cell? ⟨q,4,none⟩=some (.int .i64 e2)∧V.cell? ⟨B2,0,none⟩=some (.int .i64 r1)∧V.cell? ⟨B2,1,none⟩=some (.int .i64 r2)∧(Instr.lookup 96 (.map (some vb)) (.agg #[.int .i64 o1,.int .i64 o2,.string key,.int .i64 e1,.int .i64 e2]) false).run Tryz.prog V=.ok (.map mb) V∧(Instr.lookup 132 (.map mb) (.agg #[.int .i64 r1,.int .i64 r2]) false).run Tryz.prog V=.ok (.agg #[.int .i64 v.k,.int .i64 v.n,.string v.t,.int .i64 v.a,.int .i64 v.b]) V):=fun V hV=>by
      have hq:∀j,j<q→V.heap[j]?=w.heap[j]?:=fun j hj=>(hV j (by have:=HQ3s.o;omega) (by have:=HQ.o;have:=HQR.o;have:=HQP.o;omega) (HOQ.o j (by omega))).trans (HB3.o.block j hj)
      have hw:=HW3.o.keep (hV _ HW3.o.lt (by have:=HQ.o;have:=HQR.o;have:=HQP.o;omega) (HOQ.o _ (sC _)));have hb:=HQ3.o.keep (hV _ HQ3.o.lt (by have:=HBQ.o;have:=HS2.o;omega) HNB.o);exact⟨(sM (hq _ HGL.o.1)).trans (HG.o.cell 1),hw.cell 0,hw.cell 1,hw.cell 2,hw.cell 3,hw.cell 4,hb.cell 0,hb.cell 1,HLK.o V (hq _ HGL.o.2.1) (fun b e=>hq _ (HGL.o.2.2 b e)),mapO_hit (HE.o.keep fun b e=>hq _ (HGL.o.2.2 b e)) HM.o⟩
     have HO4:Hid ((w3.drew.alloc (.cells #[.int .i64 v.k,.int .i64 v.n,.string v.t,.int .i64 v.a,.int .i64 v.b] 50)).ownsRow w2.heap.size 50 5 (.slice Aa k ca) k (bH ((S.take k).map (lL E)))):=(show w3.drew.ownsRow w2.heap.size 50 5 (.slice Aa k ca) k (bH ((S.take k).map (lL E))) from HO3.o).alloc _;have HBS:Hid (w2.heap.size≤(w3.drew.alloc (.cells #[.int .i64 v.k,.int .i64 v.n,.string v.t,.int .i64 v.a,.int .i64 v.b] 50)).heap.size):=(HC3.o.drew.alloc _).size;have HBK:Hid (∀w5:World,(w3.drew.alloc (.cells #[.int .i64 v.k,.int .i64 v.n,.string v.t,.int .i64 v.a,.int .i64 v.b] 50)).grownBy w5 (Value.slice Aa k ca).ownBlock→(∀j,j<w3.heap.size→j≠qp→(Value.slice Aa k ca).ownBlock≠some j→w5.heap[j]?=w3.heap[j]?)∧Chg (fun k=>k=qp) w2 w5):=fun w5 hg=>⟨fun j h1 _ h3=>(hg.block j (by rw[World.size_alloc];exact Nat.lt_succ_of_lt h1) (fun e=>h3 e.symm)).trans (sO w3.drew _ _ h1),(HC3.o.drew.alloc _).grown hg (fun j hj=>.inr ((aF HO3.o hj).1))⟩
     obtain⟨SS,hSS⟩:∃SS:World→Prop,SS=fun V=>V.cell? ⟨g,1,none⟩=some (.map (some vb))∧V.cell? ⟨q,0,none⟩=some (.int .i64 o1)∧V.cell? ⟨q,1,none⟩=some (.int .i64 o2)∧V.cell? ⟨q,2,none⟩=some (.string key)∧V.cell? ⟨q,3,none⟩=some (.int .i64 e1)∧V.cell? ⟨q,4,none⟩=some (.int .i64 e2)∧V.cell? ⟨B2,0,none⟩=some (.int .i64 r1)∧V.cell? ⟨B2,1,none⟩=some (.int .i64 r2)∧(Instr.lookup 96 (.map (some vb)) (.agg #[.int .i64 o1,.int .i64 o2,.string key,.int .i64 e1,.int .i64 e2]) false).run Tryz.prog V=.ok (.map mb) V∧(Instr.lookup 132 (.map mb) (.agg #[.int .i64 r1,.int .i64 r2]) false).run Tryz.prog V=.ok (.agg #[.int .i64 v.k,.int .i64 v.n,.string v.t,.int .i64 v.a,.int .i64 v.b]) V:=⟨_,rfl⟩
     have HSI:∀V,(V.cell? ⟨g,1,none⟩=some (.map (some vb))∧V.cell? ⟨q,0,none⟩=some (.int .i64 o1)∧V.cell? ⟨q,1,none⟩=some (.int .i64 o2)∧V.cell? ⟨q,2,none⟩=some (.string key)∧V.cell? ⟨q,3,none⟩=some (.int .i64 e1)∧V.cell? ⟨q,4,none⟩=some (.int .i64 e2)∧V.cell? ⟨B2,0,none⟩=some (.int .i64 r1)∧V.cell? ⟨B2,1,none⟩=some (.int .i64 r2)∧(Instr.lookup 96 (.map (some vb)) (.agg #[.int .i64 o1,.int .i64 o2,.string key,.int .i64 e1,.int .i64 e2]) false).run Tryz.prog V=.ok (.map mb) V∧(Instr.lookup 132 (.map mb) (.agg #[.int .i64 r1,.int .i64 r2]) false).run Tryz.prog V=.ok (.agg #[.int .i64 v.k,.int .i64 v.n,.string v.t,.int .i64 v.a,.int .i64 v.b]) V)→SS V:=fun V h=>by rw[hSS];exact h
     have HSO:∀V,SS V→(V.cell? ⟨g,1,none⟩=some (.map (some vb))∧V.cell? ⟨q,0,none⟩=some (.int .i64 o1)∧V.cell? ⟨q,1,none⟩=some (.int .i64 o2)∧V.cell? ⟨q,2,none⟩=some (.string key)∧V.cell? ⟨q,3,none⟩=some (.int .i64 e1)∧V.cell? ⟨q,4,none⟩=some (.int .i64 e2)∧V.cell? ⟨B2,0,none⟩=some (.int .i64 r1)∧V.cell? ⟨B2,1,none⟩=some (.int .i64 r2)∧(Instr.lookup 96 (.map (some vb)) (.agg #[.int .i64 o1,.int .i64 o2,.string key,.int .i64 e1,.int .i64 e2]) false).run Tryz.prog V=.ok (.map mb) V∧(Instr.lookup 132 (.map mb) (.agg #[.int .i64 r1,.int .i64 r2]) false).run Tryz.prog V=.ok (.agg #[.int .i64 v.k,.int .i64 v.n,.string v.t,.int .i64 v.a,.int .i64 v.b]) V):=fun V h=>by rw[hSS]at h;exact h
     have HSI:=Hi HSI;have HSO:=Hi HSO;clear hSS;refine wp_region_held_drew (S:=SS) (by kernel_rfl) (HSI.o _ (KS.out _ (fun j _ _ _=>rfl))) (fun hHeld=>?_);have p5:=cZ HP3.o 5 rfl;have p5':=cZ (HP3.o.alloc (.cells #[.int .i64 v.k,.int .i64 v.n,.string v.t,.int .i64 v.a,.int .i64 v.b] 50)) 5 rfl;obtain⟨i0,hi,hz0,hz1,hz2⟩:=info_parts pS
     refine bA (i:=0) (v:=?_) rfl (by kernel_rfl) (by kernel_rfl) (by kernel_rfl) (fun _ _ _ h=>h) (Or.inl ⟨by rfl,?_⟩) hHeld ?_
     rotate_left
     ·(intro w _;go_simp;try with_reducible rfl)
     try simp only[Act.put,zA,zB,zC]
     refine bA (i:=2) (v:=?_) rfl (by kernel_rfl) (by kernel_rfl) (by kernel_rfl) (fun _ _ _ h=>h) (Or.inl ⟨by rfl,?_⟩) hHeld ?_
     rotate_left
     ·(intro w _;go_simp;try with_reducible rfl)
     try simp only[Act.put,zA,zB,zC]
     refine bA (i:=3) (v:=?_) rfl (by kernel_rfl) (by kernel_rfl) (by kernel_rfl) (fun _ _ _ h=>h) (Or.inl ⟨by rfl,?_⟩) hHeld ?_
     rotate_left
     ·(intro w _;go_simp;try with_reducible rfl)
     try simp only[Act.put,zA,zB,zC]
     refine bA (i:=4) (v:=?_) rfl (by kernel_rfl) (by kernel_rfl) (by kernel_rfl) (fun _ _ _ h=>h) (Or.inl ⟨by rfl,?_⟩) hHeld ?_
     rotate_left
     ·(intro w _;go_simp;try with_reducible rfl)
     try simp only[Act.put,zA,zB,zC]
     refine bA (i:=5) (v:=?_) rfl (by kernel_rfl) (by kernel_rfl) (by kernel_rfl) (fun _ _ _ h=>h) (Or.inl ⟨by rfl,?_⟩) hHeld ?_
     rotate_left
     ·(intro w hSw;obtain⟨g1,-,-,-,-,-,-,-,-,-⟩:=HSO.o _ hSw;go_simp;try with_reducible rfl)
     try simp only[Act.put,zA,zB,zC]
     refine bA (i:=6) (v:=?_) rfl (by kernel_rfl) (by kernel_rfl) (by kernel_rfl) (fun _ _ _ h=>h) (Or.inl ⟨by rfl,?_⟩) hHeld ?_
     rotate_left
     ·(intro w hSw;obtain⟨-,x0,x1,x2,x3,x4,-,-,-,-⟩:=HSO.o _ hSw;go_simp;try with_reducible rfl)
     try simp only[Act.put,zA,zB,zC]
     refine bA (i:=7) (v:=?_) rfl (by kernel_rfl) (by kernel_rfl) (by kernel_rfl) (fun _ _ _ h=>h) (Or.inl ⟨by rfl,?_⟩) hHeld ?_
     rotate_left
     ·(intro w hSw;obtain⟨-,-,-,-,-,-,-,-,hl1,-⟩:=HSO.o _ hSw;go_simp;try with_reducible rfl)
     try simp only[Act.put,zA,zB,zC]
     refine bA (i:=8) (v:=?_) rfl (by kernel_rfl) (by kernel_rfl) (by kernel_rfl) (fun _ _ _ h=>h) (Or.inl ⟨by rfl,?_⟩) hHeld ?_
     rotate_left
     ·(intro w hSw;obtain⟨-,-,-,-,-,-,b0,b1,-,-⟩:=HSO.o _ hSw;go_simp;try with_reducible rfl)
     try simp only[Act.put,zA,zB,zC]
     refine bA (i:=9) (v:=?_) rfl (by kernel_rfl) (by kernel_rfl) (by kernel_rfl) (fun _ _ _ h=>h) (Or.inl ⟨by rfl,?_⟩) hHeld ?_
     rotate_left
     ·(intro w hSw;obtain⟨-,-,-,-,-,-,-,-,-,hl2⟩:=HSO.o _ hSw;go_simp;try with_reducible rfl)
     try simp only[Act.put,zA,zB,zC]
     refine wpAnyH_ready (rs:=[1,10]) (by kernel_rfl) (by simp) ?_;refine gN (i:=1) rfl (fun K hK=>?_) (gN (i:=10) rfl (fun K hK=>?_) uX)
     ·go_simp;refine hK.out _ _ (HSI.o _ (KS.out _ (fun j _ _ _=>rfl))) (fun hHeld=>?_);clear hK K;try simp only[Act.put,zA,zB,zC]
      refine wpAnyH_ready (rs:=[10]) (by kernel_rfl) (by simp) ?_;refine gN (i:=10) rfl (fun K hK=>?_) uX;go_simp;refine hK.out _ _ (HSI.o _ (KS.out _ (fun j h1 _ _=>sO _ _ _ h1))) (fun hHeld=>?_);clear hK K;try simp only[Act.put,zA,zB,zC]
      have c5:=cZ (HP3.o.drew.alloc (.cells #[.int .i64 v.k,.int .i64 v.n,.string v.t,.int .i64 v.a,.int .i64 v.b] 50)) 5 rfl;refine wpAnyH_ready (rs:=[11]) (by kernel_rfl) (by simp) ?_;refine gN (i:=11) rfl (fun K hK=>?_) uX;refine bN _ (by rfl) (.tmp 44) (.tmp 53) 44 (by rfl) w2.heap.size 50 i0 _ 5 48 Tryz.underlying44 hi hz0 hz1 hz2 rfl (by omega) (.slice Aa k ca) k (bH ((S.take k).map (lL E))) (by rfl) HO4.o _ (some ⟨w3.drew.heap.size,0,none⟩) 1 1 [.int .i64 v.k,.int .i64 v.n,.string v.t,.int .i64 v.a,.int .i64 v.b] (by rfl) (cJ (Blk.new w3.drew 50 #[.int .i64 v.k,.int .i64 v.n,.string v.t,.int .i64 v.a,.int .i64 v.b]) (n:=5) rfl) (hX [v]) (by simp only[maxLen];omega) (by omega) HBS.o ?_;intro v5 w5 ho5 hg5 hat5;have hV5:=HBK.o w5 hg5;refine hK.out _ _ (HSI.o _ (KS.out _ hV5.1)) (fun hHeld=>?_);clear hK K;try simp only[Act.put,zA,zB,zC]
      have HC5:=Hi hV5.1;have HC7:=Hi hV5.2;have HP5:Hid (Blk w5 qp 73 #[.int .i64 o1,.int .i64 o2,.string key,.int .i64 e1,.int .i64 e2,.slice Aa k ca,.slice (some ⟨ab,ao,none⟩) n c]):=(HP3.o.drew.alloc (.cells #[.int .i64 v.k,.int .i64 v.n,.string v.t,.int .i64 v.a,.int .i64 v.b] 50)).grown hg5 HNE.o;obtain⟨A5,c5',hv5,-,-,-⟩:=aC.of_own ho5
      subst hv5;have p5:=cZ HP5.o 5 rfl;have f5:=HP5.o.frozen 5;clear hV5 hg5 hat5 c5;refine bA (i:=12) (v:=?_) rfl (by kernel_rfl) (by kernel_rfl) (by kernel_rfl) (fun _ _ _ h=>h) (Or.inl ⟨by rfl,?_⟩) hHeld ?_
      rotate_left
      ·(intro w _;go_simp;try with_reducible rfl)
      try simp only[Act.put,zA,zB,zC]
      refine wpAnyH_ready (rs:=[13]) (by kernel_rfl) (by simp) ?_;refine gN (i:=13) rfl (fun K hK=>?_) uX;go_simp;refine hK.out _ _ (HSI.o _ (KS.out _ (fun j h1 h2 h3=>(sZ _ _ _ _ h2).trans (HC5.o j h1 h2 h3)))) (fun hHeld=>?_);clear hK K;try simp only[Act.put,zA,zB,zC]
      refine wpAnyH_done (by kernel_rfl) ?_ _;have HO5:=Hi ho5;clear hHeld HSI HSO p5 f5 ho5;have HP6:Hid (Blk (w5.setCell ⟨qp,5,none⟩ (.slice A5 (k+1) c5')) qp 73 #[.int .i64 o1,.int .i64 o2,.string key,.int .i64 e1,.int .i64 e2,.slice A5 (k+1) c5',.slice (some ⟨ab,ao,none⟩) n c]):=HP5.o.set_ 5 _;have HO6:Hid ((w5.setCell ⟨qp,5,none⟩ (.slice A5 (k+1) c5')).ownsRow w2.heap.size 50 5 (.slice A5 (k+1) c5') (k+1) (bH ((S.take (k+1)).map (lL E)))):=by
       show World.ownsRow _ _ _ _ _ _ _;rw[sS,HRK.o,uM,sQ,sT,vM,HVK.o,gP];exact aU (by simpa[bH,mZ] using HO5.o) fun j hj=>sZ _ _ _ _ (by have:=(aF HO5.o hj).1;have:=HS2.o;show j≠qp;omega)
      have HC6:Hid (Chg (fun k=>k=qp) w2 (w5.setCell ⟨qp,5,none⟩ (.slice A5 (k+1) c5'))):=HC7.o.setCell (p:=⟨qp,5,none⟩) (.inl rfl) _;clear HP5 HO5 HC5;go_wp2_with fail
      go_roundw
      case rel=>exact⟨k+1,_,by go_num,by omega,HP6,HO6,HC6⟩
      case measure=>simp[intOf];omega
     ·go_simp;refine hK.out _ _ (HSI.o _ (KS.out _ (fun j h1 _ _=>sO _ _ _ h1))) (fun hHeld=>?_);clear hK K;try simp only[Act.put,zA,zB,zC]
      refine wpAnyH_ready (rs:=[1]) (by kernel_rfl) (by simp) ?_;refine gN (i:=1) rfl (fun K hK=>?_) uX;go_simp;refine hK.out _ _ (HSI.o _ (KS.out _ (fun j h1 _ _=>sO _ _ _ h1))) (fun hHeld=>?_);clear hK K;try simp only[Act.put,zA,zB,zC]
      have c5:=cZ (HP3.o.drew.alloc (.cells #[.int .i64 v.k,.int .i64 v.n,.string v.t,.int .i64 v.a,.int .i64 v.b] 50)) 5 rfl;refine wpAnyH_ready (rs:=[11]) (by kernel_rfl) (by simp) ?_;refine gN (i:=11) rfl (fun K hK=>?_) uX;refine bN _ (by rfl) (.tmp 44) (.tmp 53) 44 (by rfl) w2.heap.size 50 i0 _ 5 48 Tryz.underlying44 hi hz0 hz1 hz2 rfl (by omega) (.slice Aa k ca) k (bH ((S.take k).map (lL E))) (by rfl) HO4.o _ (some ⟨w3.drew.heap.size,0,none⟩) 1 1 [.int .i64 v.k,.int .i64 v.n,.string v.t,.int .i64 v.a,.int .i64 v.b] (by rfl) (cJ (Blk.new w3.drew 50 #[.int .i64 v.k,.int .i64 v.n,.string v.t,.int .i64 v.a,.int .i64 v.b]) (n:=5) rfl) (hX [v]) (by simp only[maxLen];omega) (by omega) HBS.o ?_;intro v5 w5 ho5 hg5 hat5;have hV5:=HBK.o w5 hg5;refine hK.out _ _ (HSI.o _ (KS.out _ hV5.1)) (fun hHeld=>?_);clear hK K;try simp only[Act.put,zA,zB,zC]
      have HC5:=Hi hV5.1;have HC7:=Hi hV5.2;have HP5:Hid (Blk w5 qp 73 #[.int .i64 o1,.int .i64 o2,.string key,.int .i64 e1,.int .i64 e2,.slice Aa k ca,.slice (some ⟨ab,ao,none⟩) n c]):=(HP3.o.drew.alloc (.cells #[.int .i64 v.k,.int .i64 v.n,.string v.t,.int .i64 v.a,.int .i64 v.b] 50)).grown hg5 HNE.o;obtain⟨A5,c5',hv5,-,-,-⟩:=aC.of_own ho5
      subst hv5;have p5:=cZ HP5.o 5 rfl;have f5:=HP5.o.frozen 5;clear hV5 hg5 hat5 c5;refine bA (i:=12) (v:=?_) rfl (by kernel_rfl) (by kernel_rfl) (by kernel_rfl) (fun _ _ _ h=>h) (Or.inl ⟨by rfl,?_⟩) hHeld ?_
      rotate_left
      ·(intro w _;go_simp;try with_reducible rfl)
      try simp only[Act.put,zA,zB,zC]
      refine wpAnyH_ready (rs:=[13]) (by kernel_rfl) (by simp) ?_;refine gN (i:=13) rfl (fun K hK=>?_) uX;go_simp;refine hK.out _ _ (HSI.o _ (KS.out _ (fun j h1 h2 h3=>(sZ _ _ _ _ h2).trans (HC5.o j h1 h2 h3)))) (fun hHeld=>?_);clear hK K;try simp only[Act.put,zA,zB,zC]
      refine wpAnyH_done (by kernel_rfl) ?_ _;have HO5:=Hi ho5;clear hHeld HSI HSO p5 f5 ho5;have HP6:Hid (Blk (w5.setCell ⟨qp,5,none⟩ (.slice A5 (k+1) c5')) qp 73 #[.int .i64 o1,.int .i64 o2,.string key,.int .i64 e1,.int .i64 e2,.slice A5 (k+1) c5',.slice (some ⟨ab,ao,none⟩) n c]):=HP5.o.set_ 5 _;have HO6:Hid ((w5.setCell ⟨qp,5,none⟩ (.slice A5 (k+1) c5')).ownsRow w2.heap.size 50 5 (.slice A5 (k+1) c5') (k+1) (bH ((S.take (k+1)).map (lL E)))):=by
       show World.ownsRow _ _ _ _ _ _ _;rw[sS,HRK.o,uM,sQ,sT,vM,HVK.o,gP];exact aU (by simpa[bH,mZ] using HO5.o) fun j hj=>sZ _ _ _ _ (by have:=(aF HO5.o hj).1;have:=HS2.o;show j≠qp;omega)
      have HC6:Hid (Chg (fun k=>k=qp) w2 (w5.setCell ⟨qp,5,none⟩ (.slice A5 (k+1) c5'))):=HC7.o.setCell (p:=⟨qp,5,none⟩) (.inl rfl) _;clear HP5 HO5 HC5;go_wp2_with fail
      go_roundw
      case rel=>exact⟨k+1,_,by go_num,by omega,HP6,HO6,HC6⟩
      case measure=>simp[intOf];omega
    ·have hkn:k=n:=by omega
     subst hkn;have HRr:=Hi (HR2.o.keep (HC.o.block _ HR2.o.lt (by have:=HQ.o;have:=HQR.o;have:=HQP.o;omega)));obtain⟨AA,cA,hvA,-,-,hrA⟩:=aC.of_own HO.o
     subst hvA;obtain⟨p0,p1,p2,p3,p4,p5,p6⟩:=ce7 HP.o
     have r0:=cZ HRr.o 0 rfl;have f0:=HRr.o.frozen 0;have r1:=cZ HRr.o 1 rfl;have f1:=HRr.o.frozen 1;have r2:=cZ HRr.o 2 rfl;have f2:=HRr.o.frozen 2;have r3:=cZ HRr.o 3 rfl;have f3:=HRr.o.frozen 3;have r4:=cZ HRr.o 4 rfl;have f4:=HRr.o.frozen 4;have r5:=cZ HRr.o 5 rfl;have f5:=HRr.o.frozen 5;have r6:=cZ HRr.o 6 rfl;have f6:=HRr.o.frozen 6;have HBr:Hid (Below q w wr):=HB2.o.trans (HC.o.below (by have:=HB2.o.size;rw[HQ.o]at this;exact this) (fun k hk=>by have:=HQ.o;have:=HQR.o;have:=HQP.o;omega));have hqq:q≤qr:=by have:=HQ.o;have:=HQR.o;omega
     have hrs:aC (fun k=>w.heap.size≤k∧k<wr.heap.size∧k≠qr) wr 2 A k (aE S):=(HRS.o.keep (HC.o.keeps fun k hk=>⟨hk.2,by omega⟩)).more fun k hk=>⟨by have:=HQ.o;have:=HQR.o;have:=HQP.o;omega,by have:=HC.o.size;omega,by have:=HQ.o;have:=HQR.o;have:=HQP.o;omega⟩
     have hra:aC (fun k=>w.heap.size≤k∧k<wr.heap.size∧k≠qr) wr 5 AA k (bH ((S.take k).map (lL E))):=hrA.more fun j hj=>⟨by have:=aF HO.o hj;have:=HS2.o;have:=HQ.o;have:=HQR.o;have:=HQP.o;omega,(aF HO.o hj).2,by have:=aF HO.o hj;have:=HS2.o;have:=HQ.o;have:=HQR.o;have:=HQP.o;omega⟩
     have HRS':=Hi hrs;have HRA:=Hi hra;have HQQ:=Hi hqq;clear hrs hra hqq hrA;go_wp2_with fail
     have hch:Chg (fun k=>k=qr) wr _:=((((((((Chg.refl wr).put1 0 (.int .i64 o1)).put1 1 (.int .i64 o2)).put1 2 (.string key)).put1 3 (.int .i64 e1)).put1 4 (.int .i64 e2)).put1 5 (.slice AA k cA)).put1 6 (.slice A k c));have hbl:=(((((((HRr.o.set_ 0 (.int .i64 o1)).set_ 1 (.int .i64 o2)).set_ 2 (.string key)).set_ 3 (.int .i64 e1)).set_ 4 (.int .i64 e2)).set_ 5 (.slice AA k cA)).set_ 6 (.slice A k c));refine bodyPost_ret (pJ (p:=4) (by kernel_rfl) _ _ qr 73 #[.int .i64 o1,.int .i64 o2,.string key,.int .i64 e1,.int .i64 e2,.slice AA k cA,.slice A k c] _ rfl hbl Tryz.underlying73 rfl (by kernel_rfl)) rfl ?_;have hSm:((S.map fun r=>(r,lL E r)).map Prod.fst)=S:=by rw[vG];exact xF S
     have hVm:((S.map fun r=>(r,lL E r)).map Prod.snd)=S.map (lL E):=by rw[vG];rfl
     have hSt:S.take k=S:=sL (Nat.le_of_eq HSN.o);refine⟨S.map fun r=>(r,lL E r),valF_perm HN.o HSP.o,by rw[hSm];exact HSD.o,⟨AA,cA,A,c,by rw[sP,HSN.o],?_,?_⟩,by rw[HQ.o];exact HBr.o.trans (hch.below (by have:=HBr.o.size;rw[HQ.o]at this;exact this) fun k hk=>by have:=HQQ.o;omega)⟩
     ·rw[hVm,sP,HSN.o];have h1:=HRA.o.keep (hch.keeps fun k hk=>⟨hk.2.1,hk.2.2⟩);rw[hSt]at h1;exact h1.more fun k hk=>⟨hk.1,sE hk.2.1 hch.size⟩
     ·rw[hSm,sP,HSN.o];exact(HRS'.o.keep (hch.keeps fun k hk=>⟨hk.2.1,hk.2.2⟩)).more fun k hk=>⟨hk.1,sE hk.2.1 hch.size⟩
  ·intro a1 a2 xv todo' w2 hp hI2 hg2 hs2 hen;have HPP:=Hi hp;have hdl:done.length<E.length:=by have:=hp.length_eq;simp only[sW]at this;omega
   have HDL:=Hi hdl;have HI2:=Hi hI2;have HC2:=Hi (HC.o.grown hg2 (fun k hk=>by cases hk;exact .inl (.inr rfl)));have HP2:=Hi (HP.o.keep (hg2.block _ HP.o.lt (by intro e;injection e;omega)));have HO2:Hid (w2.ownsRow (qp+2) 24 2 v done.length (aE (done.map Prod.fst))):=HO.o.kept hg2 (by
    cases ho:Value.ownBlock _ with
    |none=>exact .inl rfl
    |some k=>exact .inr (fun e=>by cases e;have:=(aF HO.o ho).1;omega))
   have HSL:Hid (qM wr qp 6=done.length):=by
    show _=_;rw[slenAt_is HP.o (v:=v) rfl];obtain⟨_,_,hv,_⟩:=aC.of_own HO.o
    rw[hv];rfl
   have hqs:qp+2≤w2.heap.size:=by have:=kU.lt HI2.o;omega
   clear hp hI2 hg2 hs2 HI HP HO HC hlen;obtain⟨Ao,co,hv,-,-,-⟩:=aC.of_own HO2.o
   subst hv;go_upto_region 5 with fail
   have HI3:Hid (kU (w2.alloc (.cells #[.int .i64 a1,.int .i64 a2] 24)) 24 mb (qp+1) (E.map kvd) (todo'.map kvd)):=HI2.o.keep (fun b e=>sO _ _ _ (by have:=HGL.o.2.2 b e;have:=HQ.o;have:=HQR.o;have:=HQP.o;omega)) (sO _ _ _ (by omega));have HP3:=Hi (HP2.o.alloc (.cells #[.int .i64 a1,.int .i64 a2] 24));have HO3:=Hi (HO2.o.alloc (.cells #[.int .i64 a1,.int .i64 a2] 24));have HC3:=Hi (HC2.o.alloc (.cells #[.int .i64 a1,.int .i64 a2] 24));have HQ3:=Hi (Blk.new w2 24 #[.int .i64 a1,.int .i64 a2]);have hqs3:qp+2≤(w2.alloc (.cells #[.int .i64 a1,.int .i64 a2] 24)).heap.size:=by rw[World.size_alloc];omega
   clear HI2 HP2 HO2 HC2 hqs hen;generalize w2.alloc (.cells #[.int .i64 a1,.int .i64 a2] 24)=w3 at HI3 HP3 HO3 HC3 HQ3 hqs3 ⊢;generalize w2.heap.size=B2 at HQ3 ⊢;have r1:=cZ HQ3.o 0 rfl;have r2:=cZ HQ3.o 1 rfl
   have p6:=cZ HP3.o 6 rfl;obtain⟨i0,hi,hz0,hz1,hz2⟩:=info_parts oR
   go_wp2_with (at_builtin;refine aG _ rfl (.tmp 28) (.tmp 30) _ rfl (qp+2) 24 i0 _ 2 16 Tryz.underlying28 hi hz0 hz1 hz2 rfl (by omega) (.slice Ao done.length co) (done.length) (aE (done.map Prod.fst)) rfl (HO3.o.alloc _) _ (some ⟨w3.heap.size,0,none⟩) (1) (1) ([.int .i64 a1,.int .i64 a2]) rfl ((cJ (by exact Blk.new w3 _ #[.int .i64 a1,.int .i64 a2]) (n:=2) rfl)) ((by intro u hu;exact aX [(a1,a2)] u (by simpa[aE] using hu))) ?c1 ?c2 ?c3 ?_)
   try case c1=>simp only[maxLen];omega
   try case c2=>omega
   try case c3=>simp;omega
   intro v4 w4 ho4 hg4 hat4;have hqb:∀k,(Value.slice Ao done.length co).ownBlock=some k→qp+2≤k:=fun k hk=>(aF HO3.o hk).1
   have hbk:Below (qp+2) w3 w4:=((sB _ w3).alloc (by omega) _).grown hg4 (by simp;omega) hqb;have HI4:Hid (kU w4 24 mb (qp+1) (E.map kvd) (todo'.map kvd)):=HI3.o.keep (fun b e=>hbk.block _ (by have:=HGL.o.2.2 b e;have:=HQ.o;have:=HQR.o;have:=HQP.o;omega)) (hbk.block _ (by omega));have HP4:Hid (Blk w4 qp 73 #[.int .i64 o1,.int .i64 o2,.string key,.int .i64 e1,.int .i64 e2,.slice none 0 0,.slice Ao done.length co]):=HP3.o.keep (hbk.block _ (by omega));have HC4:Hid (Chg (fun k=>k=qp∨k=qp+1) w1 w4):=(HC3.o.alloc _).grown hg4 (fun k hk=>.inr (by have:=hqb k hk;have:=HS1.o;omega));obtain⟨A4,c4,hv4,-,-,-⟩:=aC.of_own ho4
   subst hv4;have HO4:Hid (w4.ownsRow (qp+2) 24 2 (.slice A4 (done.length+1) c4) (done++[((a1,a2),xv)]).length (aE ((done++[((a1,a2),xv)]).map Prod.fst))):=by
    show World.ownsRow _ _ _ _ _ _ _;rw[sG,sQ,bC];simpa[aE] using ho4
   clear ho4 hg4 hat4 hbk hqb r1 r2 p6 HQ3 HI3 HO3 HP3 HC3;have p6:=cZ HP4.o 6 rfl;have f6:=HP4.o.frozen 6;have HPM2:Hid (((done++[((a1,a2),xv)])++todo').Perm E):=by
    show List.Perm _ _;rw[sX];exact(HPP.o.symm.append_left done).trans HPM.o
   have HI5:Hid (kU (w4.setCell ⟨qp,6,none⟩ (.slice A4 (done.length+1) c4)) 24 mb (qp+1) (E.map kvd) (todo'.map kvd)):=HI4.o.keep (fun b e=>sZ _ _ _ _ (by have:=HGL.o.2.2 b e;have:=HQ.o;have:=HQR.o;have:=HQP.o;show b≠qp;omega)) (sZ _ _ _ _ (by show qp+1≠qp;omega));have HP5:Hid (Blk (w4.setCell ⟨qp,6,none⟩ (.slice A4 (done.length+1) c4)) qp 73 #[.int .i64 o1,.int .i64 o2,.string key,.int .i64 e1,.int .i64 e2,.slice none 0 0,.slice A4 (done.length+1) c4]):=HP4.o.set_ 6 _;have HO5:Hid ((w4.setCell ⟨qp,6,none⟩ (.slice A4 (done.length+1) c4)).ownsRow (qp+2) 24 2 (.slice A4 (done.length+1) c4) (done++[((a1,a2),xv)]).length (aE ((done++[((a1,a2),xv)]).map Prod.fst))):=aU HO4.o fun k hk=>sZ _ _ _ _ (by have:=(aF HO4.o hk).1;show k≠qp;omega)
   have HC5:Hid (Chg (fun k=>k=qp∨k=qp+1) w1 (w4.setCell ⟨qp,6,none⟩ (.slice A4 (done.length+1) c4))):=HC4.o.setCell (p:=⟨qp,6,none⟩) (.inl (.inl rfl)) _;clear HI4 HP4 HO4 HC4;go_wp2_with fail
   go_roundw
   case rel=>exact⟨done++[((a1,a2),xv)],todo',_,HPM2,HI5,HP5,HO5,HC5⟩
   case measure =>
    show E.length-qM _ qp 6<E.length-qM wr qp 6;rw[HSL.o,slenAt_is HP5.o (v:=.slice A4 (done.length+1) c4) rfl];show E.length-(done.length+1)<E.length-done.length;omega
end Go.Proofs.YtmpkejflgpodkaaGreatDoor
