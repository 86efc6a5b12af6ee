/- The program's writer, in the words of a growing row. -/
import Derived.Test.YtmpkejflgpodkaaGreatDoorP10
import Derived.Lib.Strings
import Derived.Test.YtmpkejflgpodkaaGreatDoorP1
import Derived.Test.YtmpkejflgpodkaaGreatDoorP9
import Derived.StillTailTactics
import Derived.Maps.RangeWalk
import Derived.Test.YtmpkejflgpodkaaGreatDoorP6
set_option linter.unusedVariables false
set_option linter.unusedSimpArgs false
namespace Go.Proofs.YtmpkejflgpodkaaGreatDoor
open Go.ChangeShapes Go.WideShapes Go.ChangeAt Go.RowKit
end Go.Proofs.YtmpkejflgpodkaaGreatDoor
namespace Go.Proofs.YtmpkejflgpodkaaGreatDoor
open Go.ChangeShapes Go.WideShapes Go.ChangeAt Go.RowKit
end Go.Proofs.YtmpkejflgpodkaaGreatDoor
namespace Go.Proofs.YtmpkejflgpodkaaGreatDoor
open Go.ChangeShapes Go.WideShapes Go.ChangeAt Go.RowKit
theorem infoId : (Tryz.prog.info? 24).map (fun i=>(i.zero,i.size,i.bytes))=some (some (.agg #[.int .i64 0,.int .i64 0]),2,16):=by kernel_rfl
theorem ite_zero {c : Prop} [Decidable c] {a b : Nat} (h : (if c then a else b)=0) (ha : a≠0) : ¬ c∧b=0:=by
 by_cases hc : c
 · rw [if_pos hc] at h;exact absurd h ha
 · rw [if_neg hc] at h;exact ⟨hc,h⟩
theorem id_nat {a b : Int} (h : idB a b=true) : NatI a∧NatI b:=by
 simp only [idB,rootB,realB,numB,actorB,Bool.or_eq_true,Bool.and_eq_true,decide_eq_true_eq] at h
 unfold NatI
 omega
theorem real_nat {a b : Int} (h : realB a b=true) : NatI a∧NatI b:=id_nat (by rw [idB,h,Bool.or_true])
theorem value_good {k n : Int} {t : ByteArray} {a b : Int} (h : valueB k n t a b=true) : NatI k∧t.size≤60:=by
 have he : ∀ t : ByteArray,t.toList.isEmpty=true→t.size≤60:=fun t ht=>by
  rw [Lib.toList_data] at ht
  have h0 : t.data.toList=[]:=by simpa using ht
  have : t.data.toList.length=0:=by rw [h0];rfl
  rw [Array.length_toList] at this
  rw [ByteArray.size];omega
 unfold valueB at h
 split at h
 · subst_vars;exact ⟨⟨by omega,by omega⟩,he t (by simp [bareB] at h ⊢;exact h.1.1)⟩
 split at h
 · subst_vars;exact ⟨⟨by omega,by omega⟩,he t (by simp [bareB] at h ⊢;exact h.1.1)⟩
 split at h
 · rename_i hk;exact ⟨⟨by omega,by omega⟩,he t (by simp [bareB] at h ⊢;exact h.1)⟩
 split at h
 · subst_vars;exact ⟨⟨by omega,by omega⟩,by simp at h;exact h.2⟩
 split at h
 · rename_i hk;exact ⟨⟨by omega,by omega⟩,he t (by simp at h ⊢;exact h.1.2)⟩
 · cases h
theorem tail_value {k : Int} {kn root ins pe v kb : Bool} (h : tailE k kn root ins pe v kb=0) : v=true:=by
 unfold tailE at h
 have h1:=(ite_zero h (by omega)).2
 have h2:=(ite_zero h1 (by omega)).1
 simpa using h2
theorem op_good {o : OpD} (h : opE' o=0) (hv : (Lit.int .i64 o.vn).wf=true) : OpG o:=by
 unfold opE' opE at h
 obtain ⟨h1,h⟩:=ite_zero h (by omega)
 obtain ⟨h2,h⟩:=ite_zero h (by omega)
 obtain ⟨h3,h⟩:=ite_zero h (by omega)
 by_cases h4 : idsE o.l≠0
 · rw [if_pos h4] at h;exact absurd h h4
 rw [if_neg h4] at h
 have hI : idB o.on o.oa=true:=by
  cases hx : idB o.on o.oa
  · exact absurd (Or.inr (Or.inr (Or.inl hx))) h1
  · rfl
 have hJ : idB o.en o.ea=true:=by
  cases hx : idB o.en o.ea
  · exact absurd (Or.inr (Or.inr (Or.inr hx))) h1
  · rfl
 have hV:=value_good (tail_value h)
 have hL : o.l.length≤12:=by
  have : idsE o.l=0:=by omega
  unfold idsE at this
  have:=(ite_zero this (by omega)).1
  omega
 refine ⟨?_,(id_nat hI).1,(id_nat hI).2,by omega,(id_nat hJ).1,(id_nat hJ).2,hV.1,hv,hV.2,hL,fun r hr=>?_⟩
 · have : ¬ o.k < 1∧¬ 4 < o.k:=⟨fun hx=>h1 (Or.inl hx),fun hx=>h1 (Or.inr (Or.inl hx))⟩
   exact ⟨by omega,by omega⟩
 · have : o.l.all (fun r=>realB r.1 r.2)=true:=by simpa using h2
   exact real_nat (List.all_eq_true.1 this r hr)
theorem ops_good : ∀ {l : List OpD},opsE l=0→(∀ o∈l,(Lit.int .i64 o.vn).wf=true)→∀ o∈l,OpG o
 | [],_,_,_,h=>by cases h
 | x::l,h,hv,o,ho=>by
   have hx : opE' x=0:=by
    by_cases h0 : opE' x=0
    · exact h0
    · simp only [opsE,if_neg h0] at h;exact absurd h h0
   have hr : opsE l=0:=by simp only [opsE,if_pos hx] at h;exact h
   rcases List.mem_cons.1 ho with rfl | ho
   · exact op_good hx (hv _ (by simp))
   · exact ops_good hr (fun o ho=>hv o (by simp [ho])) o ho
theorem refs_good : ∀ {l : List Rf} {p : Int},refsE p l=0→∀ r∈l,NatI r.1∧NatI r.2
 | [],_,_,_,h=>by cases h
 | x::l,p,h,r,hr=>by
   simp only [refsE] at h
   obtain ⟨h1,h⟩:=ite_zero h (by omega)
   obtain ⟨_,h⟩:=ite_zero h (by omega)
   rcases List.mem_cons.1 hr with rfl | hr
   · have : isRef r=true:=by simpa using h1
     simp only [isRef,Bool.and_eq_true,decide_eq_true_eq] at this
     unfold NatI
     omega
   · exact refs_good h r hr
theorem chg_good {a s st : Int} {deps : List Rf} {ops : List OpD} (h : chgE a s st deps ops=0) (hv : ∀ o∈ops,(Lit.int .i64 o.vn).wf=true) : EncG a s st deps ops∧1≤st∧st≤1000000:=by
 unfold chgE at h
 obtain ⟨h1,h⟩:=ite_zero h (by omega)
 obtain ⟨h2,h⟩:=ite_zero h (by omega)
 by_cases h3 : refsE 0 deps≠0
 · rw [if_pos h3] at h;exact absurd h h3
 rw [if_neg h3] at h
 obtain ⟨h4,h⟩:=ite_zero h (by omega)
 obtain ⟨h5,h⟩:=ite_zero h (by omega)
 have hr : isRef (a,s)=true:=by
  cases hx : isRef (a,s)
  · exact absurd (Or.inl hx) h1
  · rfl
 simp only [isRef,Bool.and_eq_true,decide_eq_true_eq] at hr
 have hs : ¬ st < 1∧¬ 1000000 < st:=⟨fun hx=>h1 (Or.inr (Or.inl hx)),fun hx=>h1 (Or.inr (Or.inr hx))⟩
 refine ⟨⟨⟨by omega,by omega⟩,⟨by omega,by omega⟩,⟨by omega,by omega⟩,by omega,refs_good (p:=0) (by omega),by omega,ops_good h hv⟩,by omega,by omega⟩
end Go.Proofs.YtmpkejflgpodkaaGreatDoor
namespace Go.Proofs.YtmpkejflgpodkaaGreatDoor
open Go.ChangeShapes Go.WideShapes Go.ChangeAt Go.RowKit
def rdText (l : List UInt8) (most at_ : Nat) (bad : Bool) : List UInt8 × Nat × Bool :=
 match rdNum l most at_ bad with
 | (n,a,b)=>if b=true∨l.length - a < n then ([],a,true) else ((l.drop a).take n,a+n,false)
theorem rdText_no {l : List UInt8} {most at_ n a : Nat} {bad b : Bool} (h : rdNum l most at_ bad=(n,a,b)) (hc : b=true∨l.length - a < n) : rdText l most at_ bad=([],a,true):=by
 unfold rdText;rw [h];exact if_pos hc
theorem rdText_ok {l : List UInt8} {most at_ n a : Nat} {bad : Bool} (h : rdNum l most at_ bad=(n,a,false)) (hc : n≤l.length - a) : rdText l most at_ bad=((l.drop a).take n,a+n,false):=by
 unfold rdText;rw [h];exact if_neg (by simp;omega)
def rdPair (l : List UInt8) (m1 m2 : Nat) (s : Nat × Bool) : Rf × (Nat × Bool) :=
 let x:=rdNum l m1 s.1 s.2
 let y:=rdNum l m2 x.2.1 x.2.2
 (((x.1 : Int),(y.1 : Int)),y.2)
theorem rdPair_of {l : List UInt8} {m1 m2 at_ n1 a1 n2 a2 : Nat} {bad b1 b2 : Bool} (h1 : rdNum l m1 at_ bad=(n1,a1,b1)) (h2 : rdNum l m2 a1 b1=(n2,a2,b2)) : rdPair l m1 m2 (at_,bad)=(((n1 : Int),(n2 : Int)),(a2,b2)):=by
 simp only [rdPair,h1,h2]
def rdPairs (l : List UInt8) (m1 m2 : Nat) (s : Nat × Bool) : Nat→List Rf × (Nat × Bool)
 | 0=>([],s)
 | n+1 =>
   let r:=rdPairs l m1 m2 s n
   let p:=rdPair l m1 m2 r.2
   (r.1++[p.1],p.2)
theorem rdPairs_next {l : List UInt8} {m1 m2 n a a' : Nat} {s : Nat × Bool} {L : List Rf} {b b' : Bool} {r : Rf} (h : rdPairs l m1 m2 s n=(L,(a,b))) (h1 : rdPair l m1 m2 (a,b)=(r,(a',b'))) : rdPairs l m1 m2 s (n+1)=(L++[r],(a',b')):=by
 rw [rdPairs,h]
 simp only [h1]
def rdOp (l : List UInt8) (s : Nat × Bool) : OpD × (Nat × Bool) :=
 let k:=rdNum l 4 s.1 s.2
 let ob:=rdPair l 1000000 99 k.2
 let key:=rdText l 20 ob.2.1 ob.2.2
 let el:=rdPair l 1000000 99 key.2
 let ins:=rdNum l 1 el.2.1 el.2.2
 let vk:=rdNum l 6 ins.2.1 ins.2.2
 let vn:=rdInt l vk.2.1 vk.2.2
 let vt:=rdText l 60 vn.2.1 vn.2.2
 let m:=rdNum l 12 vt.2.1 vt.2.2
 let ps:=rdPairs l 1000000 99 m.2 m.1
 (⟨k.1,ob.1.1,ob.1.2,⟨key.1.toArray⟩,el.1.1,el.1.2,ins.1 == 1,vk.1,vn.1,⟨vt.1.toArray⟩,0,0,none,0,ps.1⟩,ps.2)
def rdOps (l : List UInt8) (s : Nat × Bool) : Nat→List OpD × (Nat × Bool)
 | 0=>([],s)
 | n+1 =>
   let r:=rdOps l s n
   let p:=rdOp l r.2
   (r.1++[p.1],p.2)
theorem rdOps_next {l : List UInt8} {n a a' : Nat} {s : Nat × Bool} {L : List OpD} {b b' : Bool} {r : OpD} (h : rdOps l s n=(L,(a,b))) (h1 : rdOp l (a,b)=(r,(a',b'))) : rdOps l s (n+1)=(L++[r],(a',b')):=by
 rw [rdOps,h]
 simp only [h1]
theorem rdOp_of2 {l : List UInt8} {at_ k ak ao akey ae ins ain vk avk avn avt m am aps : Nat} {bad bk bo bkey be bin bvk bvn bvt bm bps : Bool} {on oa en ea vn : Int} {key vt : List UInt8} {ps : List Rf}
 (h1 : rdNum l 4 at_ bad=(k,ak,bk)) (h2 : rdPair l 1000000 99 (ak,bk)=((on,oa),(ao,bo))) (h4 : rdText l 20 ao bo=(key,akey,bkey))
 (h5 : rdPair l 1000000 99 (akey,bkey)=((en,ea),(ae,be))) (h7 : rdNum l 1 ae be=(ins,ain,bin)) (h8 : rdNum l 6 ain bin=(vk,avk,bvk))
 (h9 : rdInt l avk bvk=(vn,avn,bvn)) (h10 : rdText l 60 avn bvn=(vt,avt,bvt)) (h11 : rdNum l 12 avt bvt=(m,am,bm)) (h12 : rdPairs l 1000000 99 (am,bm) m=(ps,(aps,bps))) :
 rdOp l (at_,bad)=(⟨k,on,oa,⟨key.toArray⟩,en,ea,ins == 1,vk,vn,⟨vt.toArray⟩,0,0,none,0,ps⟩,(aps,bps)):=by
 simp only [rdOp,h1,h2,h4,h5,h7,h8,h9,h10,h11,h12]
def base (o : OpD) : OpD:={ o with A:=none,c:=0 }
theorem ops_base {a b : List OpD} (h : a.map base=b) : b.map base=b:=by
 subst h
 rw [List.map_map];rfl
theorem opsE_base : ∀ {a b : List OpD},a.map base=b.map base→opsE a=opsE b
 | [],[],_=>rfl
 | [],_::_,h=>by simp at h
 | _::_,[],h=>by simp at h
 | x::a,y::b,h=>by
   simp only [List.map_cons,List.cons.injEq] at h
   have e : opE' x=opE' y:=by
    have h1 : opE' x=opE' (base x):=rfl
    have h2 : opE' y=opE' (base y):=rfl
    rw [h1,h2,h.1]
   rw [opsE,opsE,e,opsE_base h.2]
theorem map_base_len {a b : List OpD} (h : a.map base=b.map base) : a.length=b.length:=by
 have:=congrArg List.length h
 simpa using this
theorem chgE_base {a s st : Int} {deps : List Rf} {x y : List OpD} (h : x.map base=y.map base) : chgE a s st deps x=chgE a s st deps y:=by
 unfold chgE
 rw [opsE_base h,map_base_len h]
theorem opB_base : ∀ {a b : List OpD},a.map base=b.map base→a.flatMap opB=b.flatMap opB
 | [],[],_=>rfl
 | [],_::_,h=>by simp at h
 | _::_,[],h=>by simp at h
 | x::a,y::b,h=>by
   simp only [List.map_cons,List.cons.injEq] at h
   have e : opB x=opB y:=by
    have h1 : opB x=opB (base x):=rfl
    have h2 : opB y=opB (base y):=rfl
    rw [h1,h2,h.1]
   rw [List.flatMap_cons,List.flatMap_cons,e,opB_base h.2]
theorem encL_base {a s st : Int} {deps : List Rf} {x y : List OpD} (h : x.map base=y.map base) : encL a s st deps x=encL a s st deps y:=by
 unfold encL
 rw [opB_base h,map_base_len h]
structure Rd where
 a : Nat
 s : Nat
 st : Nat
 deps : List Rf
 ops : List OpD
 at_ : Nat
 bad : Bool
def rdAll (l : List UInt8) : Rd :=
 let a:=rdNum l 99 0 false
 let s:=rdNum l 1000000 a.2.1 a.2.2
 let st:=rdNum l 1000000 s.2.1 s.2.2
 let n:=rdNum l 12 st.2.1 st.2.2
 let d:=rdPairs l 99 1000000 n.2 n.1
 let m:=rdNum l 40 d.2.1 d.2.2
 let o:=rdOps l m.2 m.1
 ⟨a.1,s.1,st.1,d.1,o.1,o.2.1,o.2.2⟩
theorem rdAll_of {l : List UInt8} {a aa s as_ st ast n an ad m am ao : Nat} {ba bs bst bn bd bm bo : Bool} {deps : List Rf} {ops : List OpD}
 (h1 : rdNum l 99 0 false=(a,aa,ba)) (h2 : rdNum l 1000000 aa ba=(s,as_,bs)) (h3 : rdNum l 1000000 as_ bs=(st,ast,bst)) (h4 : rdNum l 12 ast bst=(n,an,bn)) (h5 : rdPairs l 99 1000000 (an,bn) n=(deps,(ad,bd)))
 (h6 : rdNum l 40 ad bd=(m,am,bm)) (h7 : rdOps l (am,bm) m=(ops,(ao,bo))) : rdAll l=⟨a,s,st,deps,ops,ao,bo⟩:=by
 simp only [rdAll,h1,h2,h3,h4,h5,h6,h7]
end Go.Proofs.YtmpkejflgpodkaaGreatDoor
namespace Go.Proofs.YtmpkejflgpodkaaGreatDoor
open Go.RowKit
structure ChD where
 a : Int
 s : Int
 st : Int
 deps : List Rf
 DA : Option Addr
 DC : Nat
 ops : List OpD
 OA : Option Addr
 OC : Nat
def ChD.rf (c : ChD) : Rf:=(c.a,c.s)
def ChD.err (c : ChD) : Nat:=chgE c.a c.s c.st c.deps c.ops
def ChD.enc (c : ChD) : List UInt8:=encL c.a c.s c.st c.deps c.ops
def ChD.base (c : ChD) : ChD:={ c with DA:=none,DC:=0,ops:=c.ops.map Go.Proofs.YtmpkejflgpodkaaGreatDoor.base,OA:=none,OC:=0 }
abbrev OpI:=OpD × Rf
def idsFrom (a : Int) : Int→List OpD→List OpI
 | _,[]=>[]
 | st,o::l=>(o,(st,a))::idsFrom a (st+1) l
def ChD.opsI (c : ChD) : List OpI:=idsFrom c.a c.st c.ops
def refsOf (L : List ChD) : List Rf:=L.map ChD.rf
def aheadR (r q : Rf) : Bool:=decide (r.1 < q.1∨r.1=q.1∧r.2 < q.2)
def putR (l : List Rf) (r : Rf) : List Rf:=if r∈l then l else l.takeWhile (fun x=>aheadR x r)++r::l.dropWhile (fun x=>aheadR x r)
def AscR (l : List Rf) : Prop:=l.Pairwise fun x y=>aheadR x y=true
def back : List ChD→List Rf→List Rf
 | [],_=>[]
 | c::L,w=>if c.rf∈w then c.rf::back L (w++c.deps) else back L w
def behindP (L : List ChD) (hs : List Rf) : List Rf:=back L.reverse hs
def knownP (L : List ChD) (R : List Rf) : List OpI:=(L.filter fun c=>decide (c.rf∈R)).flatMap ChD.opsI
def lookP (l : List OpI) (n : Rf) : Option OpI:=l.find? fun x=>decide (x.2=n)
def objP (x : OpI) : Rf:=(x.1.on,x.1.oa)
def elP (x : OpI) : Rf:=(x.1.en,x.1.ea)
def elemP (x : OpI) : Rf:=if x.1.ins then x.2 else elP x
def placeP (x y : OpI) : Bool:=decide (objP x=objP y) && decide (x.1.key=y.1.key) && decide (elemP x=elemP y)
def kindP (x : OpI) (known : List OpI) : Option Int :=
 if objP x=(0,0) then some 5 else match lookP known (objP x) with
 | some y=>if y.1.k=2 then some y.1.vk else none
 | none=>none
def keyOkP (x : OpI) (kd : Int) : Bool:=!(decide (kd=5) && decide (x.1.key=⟨#[]⟩) || decide (kd=6) && decide (x.1.key≠⟨#[]⟩))
def elemOkP (x : OpI) (known : List OpI) : Bool :=
 if elP x=(0,0) then true else match lookP known (elP x) with
 | some y=>y.1.ins && decide (objP y=objP x)
 | none=>false
def predOkP (x : OpI) (known : List OpI) (p : Rf) : Bool :=
 match lookP known p with
 | some y=>!decide (2 < y.1.k) && placeP y x && !(decide (x.1.k=4) && (decide (y.1.k≠1) || decide (y.1.vk≠4)))
 | none=>false
def mayP (x : OpI) (known : List OpI) : Bool :=
 match kindP x known with
 | some kd=>keyOkP x kd && elemOkP x known && x.1.l.all (predOkP x known)
 | none=>false
def fitOps : List OpI→List OpI→Bool
 | [],_=>true
 | x::l,known=>mayP x known && fitOps l (known++[x])
def seqOkP (c : ChD) (B : List Rf) : Bool:=B.all fun r=>!(decide (r.1=c.a) && decide (c.s≤r.2))
def prevOkP (c : ChD) (B : List Rf) : Bool:=!(decide (1 < c.s) && !B.any fun r=>decide (r.1=c.a) && decide (r.2=c.s - 1))
def fitsIn (L : List ChD) (c : ChD) (B : List Rf) : Bool:=seqOkP c B && prevOkP c B && (knownP L B).all (fun x=>decide (x.2.1 < c.st)) && fitOps c.opsI (knownP L B)
def fitsP (L : List ChD) (c : ChD) : Bool:=fitsIn L c (behindP L c.deps)
def readyP (L : List ChD) (c : ChD) : Bool:=c.deps.all fun d=>decide (d∈refsOf L)
def leastGo (p : ChD→Bool) : List ChD→Nat→Option (Nat × Rf)→Option (Nat × Rf)
 | [],_,best=>best
 | c::W,i,best=>leastGo p W (i+1) (if p c && (match best with | none=>true | some b=>aheadR c.rf b.2) then some (i,c.rf) else best)
def leastAt (p : ChD→Bool) (W : List ChD) : Option (Nat × Rf):=leastGo p W 0 none
def settle : Nat→List ChD→List ChD→List ChD × List ChD
 | 0,L,W=>(L,W)
 | n+1,L,W=>match leastAt (readyP L) W with
   | none=>(L,W)
   | some (i,_)=>match W[i]? with
     | none=>(L,W)
     | some x=>if fitsP L x then settle n (L++[x]) (W.eraseIdx i) else settle n L (W.eraseIdx i)
def findC (L : List ChD) (r : Rf) : Option ChD:=L.find? fun c=>decide (c.rf=r)
def sameE (c d : ChD) : Nat:=if c.enc=d.enc then 0 else 8
def takeP (L W : List ChD) (c : ChD) : (List ChD × List ChD) × Nat :=
 if c.err≠0 then ((L,W),c.err) else
 match findC L c.rf with
 | some d=>((L,W),sameE d c)
 | none=>match findC W c.rf with
   | some d=>((L,W),sameE d c)
   | none=>if 120≤L.length+W.length then ((L,W),4)
     else if readyP L c=false then ((L,W++[c]),0)
     else if fitsP L c=false then ((L,W),7)
     else (settle W.length (L++[c]) W,0)
def nextP (L out : List ChD) (c : ChD) : Bool:=!decide (c.rf∈refsOf out) && c.deps.all fun d=>decide (d∈refsOf out)
def allGo (L : List ChD) : Nat→List ChD→List ChD
 | 0,out=>out
 | n+1,out=>match leastAt (nextP L out) L with
   | none=>out
   | some (i,_)=>match L[i]? with
     | none=>out
     | some c=>allGo L n (out++[c])
def allP (L : List ChD) : List ChD:=allGo L L.length []
inductive Bk : List ChD→Prop
 | nil : Bk []
 | snoc {L : List ChD} {c : ChD} : Bk L→c.err=0→(∀ o∈c.ops,(Lit.int .i64 o.vn).wf=true)→c.rf∉refsOf L→readyP L c=true→fitsP L c=true→Bk (L++[c])
end Go.Proofs.YtmpkejflgpodkaaGreatDoor
namespace Go.Proofs.YtmpkejflgpodkaaGreatDoor
open Go.RowKit
theorem back_congr : ∀ (L : List ChD) {w w' : List Rf},(∀ r,r∈w↔r∈w')→back L w=back L w'
 | [],_,_,_=>rfl
 | c::L,w,w',h=>by
   have h2 : ∀ r,r∈w++c.deps↔r∈w'++c.deps:=fun r=>by rw [List.mem_append,List.mem_append,h]
   simp only [back,h,back_congr L h2,back_congr L h]
theorem back_sub : ∀ {L : List ChD} {w : List Rf} {r : Rf},r∈back L w→r∈refsOf L
 | [],_,_,h=>by simp [back] at h
 | c::L,w,r,h=>by
   simp only [refsOf,List.map_cons,List.mem_cons]
   rw [back] at h
   split at h
   · rcases List.mem_cons.1 h with h | h
     · exact .inl h
     · exact .inr (back_sub h)
   · exact .inr (back_sub h)
theorem back_union : ∀ (L : List ChD) (u v : List Rf) (r : Rf),r∈back L (u++v)↔r∈back L u∨r∈back L v
 | [],u,v,r=>by simp [back]
 | c::L,u,v,r=>by
   have e : ∀ {a b : List Rf},(∀ r,r∈a↔r∈b)→back L a=back L b:=fun h=>back_congr L h
   by_cases hu : c.rf∈u <;> by_cases hv : c.rf∈v
   · rw [back,back,back,if_pos (by simp [hu]),if_pos hu,if_pos hv,e (b:=(u++c.deps)++(v++c.deps)) (by intro r;simp only [List.mem_append];grind)]
     rw [List.mem_cons,List.mem_cons,List.mem_cons,back_union L]
     constructor
     · rintro (h | h | h)
       · exact .inl (.inl h)
       · exact .inl (.inr h)
       · exact .inr (.inr h)
     · rintro ((h | h) | (h | h))
       · exact .inl h
       · exact .inr (.inl h)
       · exact .inl h
       · exact .inr (.inr h)
   · rw [back,back,back,if_pos (by simp [hu]),if_pos hu,if_neg hv,e (b:=(u++c.deps)++v) (by intro r;simp only [List.mem_append];grind)]
     rw [List.mem_cons,List.mem_cons,back_union L,or_assoc]
   · rw [back,back,back,if_pos (by simp [hv]),if_neg hu,if_pos hv,e (b:=u++(v++c.deps)) (by intro r;simp only [List.mem_append];grind)]
     rw [List.mem_cons,List.mem_cons,back_union L]
     constructor
     · rintro (h | h | h)
       · exact .inr (.inl h)
       · exact .inl h
       · exact .inr (.inr h)
     · rintro (h | h | h)
       · exact .inr (.inl h)
       · exact .inl h
       · exact .inr (.inr h)
   · rw [back,back,back,if_neg (by simp [hu,hv]),if_neg hu,if_neg hv,back_union L]
theorem back_nil : ∀ (L : List ChD),back L []=[]
 | []=>rfl
 | c::L=>by rw [back,if_neg (by simp),back_nil L]
theorem back_each (L : List ChD) (r : Rf) : ∀ (w : List Rf),r∈back L w↔∃ h∈w,r∈back L [h]
 | []=>by simp [back_nil]
 | x::w=>by
   rw [show x::w=[x]++w from rfl,back_union,back_each L r w]
   simp
theorem back_head : ∀ {L : List ChD} {w : List Rf} {r : Rf},r∈w→r∈refsOf L→r∈back L w
 | [],_,_,_,h=>by simp [refsOf] at h
 | c::L,w,r,hw,h=>by
   rw [back]
   simp only [refsOf,List.map_cons,List.mem_cons] at h
   split
   · rcases h with h | h
     · rw [h];exact List.mem_cons_self ..
     · exact List.mem_cons_of_mem _ (back_head (List.mem_append_left _ hw) h)
   · rename_i hc
     rcases h with h | h
     · rw [h] at hw;exact absurd hw hc
     · exact back_head hw h
def TopR : List ChD→Prop
 | []=>True
 | c::L=>(∀ d∈c.deps,d∈refsOf L)∧c.rf∉refsOf L∧TopR L
theorem mem_refs {L : List ChD} {c : ChD} (h : c∈L) : c.rf∈refsOf L:=List.mem_map_of_mem h
theorem back_closed : ∀ {L : List ChD} {w : List Rf},TopR L→∀ {c : ChD},c∈L→c.rf∈back L w→∀ {d : Rf},d∈c.deps→d∈back L w
 | [],_,_,_,h,_,_,_=>by cases h
 | x::L,w,⟨h1,h2,h3⟩,c,hc,hb,d,hd=>by
   rw [back] at hb ⊢
   by_cases hx : x.rf∈w
   · rw [if_pos hx] at hb ⊢
     rcases List.mem_cons.1 hc with e | hc
     · subst e
       exact List.mem_cons_of_mem _ (back_head (List.mem_append_right _ hd) (h1 d hd))
     · rcases List.mem_cons.1 hb with e | hb
       · exact absurd (e▸mem_refs hc) h2
       · exact List.mem_cons_of_mem _ (back_closed h3 hc hb hd)
   · rw [if_neg hx] at hb ⊢
     rcases List.mem_cons.1 hc with e | hc
     · subst e
       exact absurd (back_sub hb) h2
     · exact back_closed h3 hc hb hd
theorem back_least : ∀ {L : List ChD} {w : List Rf} (S : Rf→Prop),(∀ r∈w,r∈refsOf L→S r)→(∀ c∈L,S c.rf→∀ d∈c.deps,d∈refsOf L→S d)→∀ r∈back L w,S r
 | [],_,_,_,_,r,h=>by simp [back] at h
 | x::L,w,S,h1,h2,r,h=>by
   have hr : ∀ {r},r∈refsOf L→r∈refsOf (x::L):=fun h=>by simp only [refsOf,List.map_cons,List.mem_cons];exact .inr h
   have h2' : ∀ c∈L,S c.rf→∀ d∈c.deps,d∈refsOf L→S d:=fun c hc hs d hd hm=>h2 c (List.mem_cons_of_mem _ hc) hs d hd (hr hm)
   rw [back] at h
   split at h
   · rename_i hx
     have hSx : S x.rf:=h1 _ hx (mem_refs (List.mem_cons_self ..))
     rcases List.mem_cons.1 h with h | h
     · rw [h];exact hSx
     · refine back_least (L:=L) S (fun r hr' hm=>?_) h2' r h
       rcases List.mem_append.1 hr' with h' | h'
       · exact h1 r h' (hr hm)
       · exact h2 x (List.mem_cons_self ..) hSx r h' (hr hm)
   · exact back_least (L:=L) S (fun r hr' hm=>h1 r hr' (hr hm)) h2' r h
theorem back_trans {L : List ChD} {w : List Rf} (ht : TopR L) {q : Rf} (hq : q∈back L w) {r : Rf} (hr : r∈back L [q]) : r∈back L w:=by
 refine back_least (fun r=>r∈back L w) (fun x hx _=>?_) (fun c hc hs d hd _=>back_closed ht hc hs hd) r hr
 rw [List.mem_singleton.1 hx];exact hq
theorem refsOf_append (A B : List ChD) : refsOf (A++B)=refsOf A++refsOf B:=by simp [refsOf]
theorem refsOf_reverse (A : List ChD) : refsOf A.reverse=(refsOf A).reverse:=by simp [refsOf]
theorem ready_mem {L : List ChD} {c : ChD} (h : readyP L c=true) : ∀ d∈c.deps,d∈refsOf L:=fun d hd=>by
 have:=List.all_eq_true.1 h d hd
 simpa using this
theorem Bk.top {L : List ChD} (h : Bk L) : TopR L.reverse:=by
 induction h with
 | nil=>trivial
 | @snoc L c hb _ _ hn hr _ ih =>
   rw [List.reverse_append]
   show TopR (c::L.reverse)
   exact ⟨fun d hd=>by rw [refsOf_reverse];exact List.mem_reverse.2 (ready_mem hr d hd),by rw [refsOf_reverse];exact fun h=>hn (List.mem_reverse.1 h),ih⟩
theorem Bk.nodup {L : List ChD} (h : Bk L) : (refsOf L).Nodup:=by
 induction h with
 | nil=>simp [refsOf]
 | @snoc L c hb _ _ hn hr _ ih =>
   rw [refsOf_append,List.nodup_append]
   refine ⟨ih,by simp [refsOf],fun a ha b hb' e=>?_⟩
   simp [refsOf] at hb'
   exact hn (by rw [← hb',← e];exact ha)
theorem Bk.err {L : List ChD} (h : Bk L) : ∀ c∈L,c.err=0∧∀ o∈c.ops,(Lit.int .i64 o.vn).wf=true:=by
 induction h with
 | nil=>intro c hc;cases hc
 | @snoc L c hb he hw hn hr _ ih =>
   intro x hx
   rcases List.mem_append.1 hx with hx | hx
   · exact ih x hx
   · rw [List.mem_singleton.1 hx];exact ⟨he,hw⟩
theorem behind_snoc (L : List ChD) (c : ChD) (hs : List Rf) : behindP (L++[c]) hs=if c.rf∈hs then c.rf::behindP L (hs++c.deps) else behindP L hs:=by
 unfold behindP;rw [List.reverse_append];rfl
theorem behind_sub {L : List ChD} {hs : List Rf} {r : Rf} (h : r∈behindP L hs) : r∈refsOf L:=by
 have:=back_sub h;rw [refsOf_reverse] at this;exact List.mem_reverse.1 this
theorem behind_head {L : List ChD} {hs : List Rf} {r : Rf} (h : r∈hs) (hm : r∈refsOf L) : r∈behindP L hs:=back_head h (by rw [refsOf_reverse];exact List.mem_reverse.2 hm)
theorem Bk.deps {L : List ChD} (h : Bk L) : ∀ c∈L,∀ d∈c.deps,d∈refsOf L:=by
 induction h with
 | nil=>intro c hc;cases hc
 | @snoc L c hb he hw hn hr _ ih =>
   intro x hx d hd
   rw [refsOf_append]
   rcases List.mem_append.1 hx with hx | hx
   · exact List.mem_append_left _ (ih x hx d hd)
   · rw [List.mem_singleton.1 hx] at hd;exact List.mem_append_left _ (ready_mem hr d hd)
theorem Bk.chain {L : List ChD} (h : Bk L) : ∀ c∈L,∀ s,1≤s→s < c.s→(c.a,s)∈behindP L c.deps:=by
 induction h with
 | nil=>intro c hc;cases hc
 | @snoc L c hb he hw hn hr hf ih =>
   intro x hx s h1 hs
   have hnot : ∀ {hs : List Rf},(∀ r∈hs,r∈refsOf L)→behindP (L++[c]) hs=behindP L hs:=fun hh=>by rw [behind_snoc,if_neg (fun e=>hn (hh _ e))]
   rcases List.mem_append.1 hx with hx | hx
   · rw [hnot (hb.deps x hx)];exact ih x hx s h1 hs
   · obtain rfl : x=c:=List.mem_singleton.1 hx
     rw [hnot (ready_mem hr)]
     have hp : prevOkP x (behindP L x.deps)=true:=by
      simp only [fitsP,fitsIn,Bool.and_eq_true] at hf;exact hf.1.1.2
     have h1s : 1 < x.s:=by omega
     have hq : (x.a,x.s - 1)∈behindP L x.deps:=by
      simp only [prevOkP,h1s,decide_true,Bool.true_and,Bool.not_not,List.any_eq_true,Bool.and_eq_true,decide_eq_true_eq] at hp
      obtain ⟨r,hr',e1,e2⟩:=hp
      have : r=(x.a,x.s - 1):=by rw [← e1,← e2]
      rw [← this];exact hr'
     by_cases e : s=x.s - 1
     · rw [e];exact hq
     · obtain ⟨y,hy,ey⟩:=List.mem_map.1 (behind_sub hq)
       have ea : y.a=x.a:=congrArg Prod.fst ey
       have es : y.s=x.s - 1:=congrArg Prod.snd ey
       have h2:=ih y hy s h1 (by omega)
       rw [ea] at h2
       have h3 : (x.a,s)∈back L.reverse [y.rf]:=by
        obtain ⟨d,hd,h4⟩:=(back_each L.reverse _ _).1 h2
        exact back_trans hb.top (back_closed hb.top (List.mem_reverse.2 hy) (back_head (by simp) (by rw [refsOf_reverse];exact List.mem_reverse.2 (mem_refs hy))) hd) h4
       exact back_trans hb.top hq (by rw [← ey];exact h3)
theorem idsFrom_mem {a : Int} : ∀ {l : List OpD} {st : Int} {x : OpI},x∈idsFrom a st l→x.2.2=a∧st≤x.2.1∧x.2.1 < st+l.length∧x.1∈l
 | [],_,_,h=>by cases h
 | o::l,st,x,h=>by
   rcases List.mem_cons.1 h with rfl | h
   · exact ⟨rfl,Int.le_refl _,by simp only [List.length_cons];omega,List.mem_cons_self ..⟩
   · obtain ⟨h1,h2,h3,h4⟩:=idsFrom_mem h
     exact ⟨h1,by omega,by simp only [List.length_cons];omega,List.mem_cons_of_mem _ h4⟩
theorem idsFrom_nodup (a : Int) : ∀ (l : List OpD) (st : Int),((idsFrom a st l).map Prod.snd).Nodup
 | [],_=>by simp [idsFrom]
 | o::l,st=>by
   rw [idsFrom,List.map_cons,List.nodup_cons]
   refine ⟨fun h=>?_,idsFrom_nodup a l _⟩
   obtain ⟨x,hx,e⟩:=List.mem_map.1 h
   have:=(idsFrom_mem hx).2.1
   rw [e] at this
   simp only at this
   omega
theorem Bk.less {L : List ChD} (h : Bk L) : ∀ c∈L,∀ b∈L,b.rf∈behindP L c.deps→∀ x∈b.opsI,x.2.1 < c.st:=by
 induction h with
 | nil=>intro c hc;cases hc
 | @snoc L c hb he hw hn hr hf ih =>
   intro y hy b hbm hbb x hx
   have hnot : ∀ {hs : List Rf},(∀ r∈hs,r∈refsOf L)→behindP (L++[c]) hs=behindP L hs:=fun hh=>by rw [behind_snoc,if_neg (fun e=>hn (hh _ e))]
   have hd : ∀ d∈y.deps,d∈refsOf L:=by
    rcases List.mem_append.1 hy with hy | hy
    · exact hb.deps y hy
    · rw [List.mem_singleton.1 hy];exact ready_mem hr
   rw [hnot hd] at hbb
   have hbL : b∈L:=by
    rcases List.mem_append.1 hbm with h | h
    · exact h
    · rw [List.mem_singleton.1 h] at hbb;exact absurd (behind_sub hbb) hn
   rcases List.mem_append.1 hy with hy | hy
   · exact ih y hy b hbL hbb x hx
   · rw [List.mem_singleton.1 hy] at hbb ⊢
     have h1 : (knownP L (behindP L c.deps)).all (fun x=>decide (x.2.1 < c.st))=true:=by
      simp only [fitsP,fitsIn,Bool.and_eq_true] at hf;exact hf.1.2
     have h2:=List.all_eq_true.1 h1 x (List.mem_flatMap.2 ⟨b,List.mem_filter.2 ⟨hbL,by simpa using hbb⟩,hx⟩)
     simpa using h2
theorem err_rf {c : ChD} (h : c.err=0) : isRef c.rf=true∧1≤c.st:=by
 unfold ChD.err chgE at h
 obtain ⟨h1,h⟩:=ite_zero h (by omega)
 exact ⟨by cases hx : isRef c.rf;exact absurd (Or.inl hx) h1;rfl,by omega⟩
theorem isRef_bd {r : Rf} (h : isRef r=true) : (1≤r.1∧r.1≤99)∧1≤r.2∧r.2≤1000000:=by
 simpa [isRef] using h
theorem Bk.ids {L : List ChD} (h : Bk L) : ((L.flatMap ChD.opsI).map Prod.snd).Nodup:=by
 have key : ∀ c∈L,∀ b∈L,b.a=c.a→b.s < c.s→∀ x∈b.opsI,x.2.1 < c.st:=fun c hc b hb' ea es x hx=>by
  have h1:=(isRef_bd (err_rf (h.err b hb').1).1).2.1
  have h2:=h.chain c hc b.s h1 es
  rw [← ea] at h2
  exact h.less c hc b hb' h2 x hx
 have hn:=h.nodup
 have : L.Pairwise fun b c=>b.rf≠c.rf:=by
  rw [refsOf,List.Nodup,List.pairwise_map] at hn;exact hn
 have h2 : L.Pairwise fun b c=>b∈L∧c∈L∧b.rf≠c.rf:=this.imp_of_mem fun hb hc hne=>⟨hb,hc,hne⟩
 rw [List.Nodup,List.pairwise_map,List.pairwise_flatMap]
 refine ⟨fun c hc=>?_,h2.imp fun {b c} ⟨hb,hc,hne⟩ x hx y hy e=>?_⟩
 · have:=idsFrom_nodup c.a c.ops c.st
   rw [List.Nodup,List.pairwise_map] at this
   exact this
 · have h3:=idsFrom_mem hx
   have h4:=idsFrom_mem hy
   have ea : b.a=c.a:=by rw [← h3.1,← h4.1,e]
   have en : x.2.1=y.2.1:=by rw [e]
   rcases Int.lt_trichotomy b.s c.s with hs | hs | hs
   · have:=key c hc b hb ea hs x hx;omega
   · exact hne (by unfold ChD.rf;rw [ea,hs])
   · have:=key b hb c hc ea.symm hs y hy;omega
/-! ### the least of those that may be taken -/
theorem aheadR_trans {a b c : Rf} (h1 : aheadR a b=true) (h2 : aheadR b c=true) : aheadR a c=true:=by
 simp only [aheadR,decide_eq_true_eq] at *;omega
theorem aheadR_irrefl (a : Rf) : aheadR a a=false:=by simp only [aheadR,decide_eq_false_iff_not];omega
theorem aheadR_total {a b : Rf} (h : a≠b) : aheadR a b=true∨aheadR b a=true:=by
 obtain ⟨a1,a2⟩:=a
 obtain ⟨b1,b2⟩:=b
 simp only [aheadR,decide_eq_true_eq,ne_eq,Prod.mk.injEq] at *;omega
def LeastOf (p : ChD→Bool) (W : List ChD) (best : Option (Nat × Rf)) : Prop :=
 match best with
 | none=>∀ c∈W,p c=false
 | some (i,r)=>∃ c,W[i]?=some c∧c.rf=r∧p c=true∧∀ d∈W,p d=true→aheadR d.rf r=false
theorem leastGo_of (p : ChD→Bool) : ∀ (W V : List ChD) (best : Option (Nat × Rf)),LeastOf p V best→LeastOf p (V++W) (leastGo p W V.length best)
 | [],V,best,h=>by simpa [leastGo] using h
 | c::W,V,best,h=>by
   unfold leastGo
   have e : V++c::W=(V++[c])++W:=by simp
   have el : V.length+1=(V++[c]).length:=by simp
   rw [e,el]
   refine leastGo_of p W (V++[c]) _ ?_
   cases hp : p c with
   | false =>
     simp only [Bool.false_and,Bool.false_eq_true,if_false]
     cases best with
     | none =>
       intro d hd
       rcases List.mem_append.1 hd with hd | hd
       · exact h d hd
       · rw [List.mem_singleton.1 hd];exact hp
     | some b =>
       obtain ⟨i,r⟩:=b
       obtain ⟨x,h1,h2,h3,h4⟩:=h
       refine ⟨x,by rw [List.getElem?_append_left (List.getElem?_eq_some_iff.1 h1).1];exact h1,h2,h3,fun d hd hpd=>?_⟩
       rcases List.mem_append.1 hd with hd | hd
       · exact h4 d hd hpd
       · rw [List.mem_singleton.1 hd,hp] at hpd;cases hpd
   | true =>
     cases best with
     | none =>
       simp only [Bool.and_self,if_true]
       refine ⟨c,by simp,rfl,hp,fun d hd hpd=>?_⟩
       rcases List.mem_append.1 hd with hd | hd
       · rw [h d hd] at hpd;cases hpd
       · rw [List.mem_singleton.1 hd];exact aheadR_irrefl _
     | some b =>
       obtain ⟨i,r⟩:=b
       obtain ⟨x,h1,h2,h3,h4⟩:=h
       simp only [Bool.true_and]
       cases ha : aheadR c.rf r with
       | true =>
         rw [if_pos rfl]
         refine ⟨c,by simp,rfl,hp,fun d hd hpd=>?_⟩
         rcases List.mem_append.1 hd with hd | hd
         · cases hx : aheadR d.rf c.rf with
           | false=>rfl
           | true=>have:=aheadR_trans hx ha;rw [h4 d hd hpd] at this;cases this
         · rw [List.mem_singleton.1 hd];exact aheadR_irrefl _
       | false =>
         rw [if_neg (by simp)]
         refine ⟨x,by rw [List.getElem?_append_left (List.getElem?_eq_some_iff.1 h1).1];exact h1,h2,h3,fun d hd hpd=>?_⟩
         rcases List.mem_append.1 hd with hd | hd
         · exact h4 d hd hpd
         · rw [List.mem_singleton.1 hd];exact ha
theorem leastAt_of (p : ChD→Bool) (W : List ChD) : LeastOf p W (leastAt p W):=by
 have:=leastGo_of p W [] none (fun c hc=>by cases hc)
 simpa [leastAt] using this
theorem leastAt_none {p : ChD→Bool} {W : List ChD} (h : leastAt p W=none) : ∀ c∈W,p c=false:=by
 have:=leastAt_of p W;rw [h] at this;exact this
theorem leastAt_some {p : ChD→Bool} {W : List ChD} {i : Nat} {r : Rf} (h : leastAt p W=some (i,r)) : ∃ c,W[i]?=some c∧c.rf=r∧p c=true∧∀ d∈W,p d=true→aheadR d.rf r=false:=by
 have:=leastAt_of p W;rw [h] at this;exact this
theorem leastAt_is {p : ChD→Bool} {W : List ChD} (hn : (refsOf W).Nodup) {i : Nat} {c : ChD} (hi : W[i]?=some c) (hp : p c=true) (hl : ∀ d∈W,p d=true→aheadR d.rf c.rf=false) : leastAt p W=some (i,c.rf):=by
 cases h : leastAt p W with
 | none=>have:=leastAt_none h c (List.mem_of_getElem? hi);rw [hp] at this;cases this
 | some b =>
   obtain ⟨j,r⟩:=b
   obtain ⟨d,h1,h2,h3,h4⟩:=leastAt_some h
   have e : d.rf=c.rf:=by
    by_cases e : d.rf=c.rf
    · exact e
    · rcases aheadR_total e with h | h
      · rw [hl d (List.mem_of_getElem? h1) h3] at h;cases h
      · rw [← h2] at h4;rw [h4 c (List.mem_of_getElem? hi) hp] at h;cases h
   have hij : i=j:=by
    have e1 : (refsOf W)[i]?=some c.rf:=by simp [refsOf,hi]
    have e2 : (refsOf W)[j]?=some c.rf:=by simp [refsOf,h1,e]
    obtain ⟨l1,e1⟩:=List.getElem?_eq_some_iff.1 e1
    obtain ⟨l2,e2⟩:=List.getElem?_eq_some_iff.1 e2
    exact (List.getElem_inj hn).1 (e1.trans e2.symm)
   rw [hij,← h2,e]
/-! ### what a book keeps to -/
structure Inv (L W : List ChD) : Prop where
 bk : Bk L
 good : ∀ c∈W,c.err=0∧∀ o∈c.ops,(Lit.int .i64 o.vn).wf=true
 nd : (refsOf W).Nodup
 apart : ∀ c∈W,c.rf∉refsOf L
 most : L.length+W.length≤120
theorem Inv.nil : Inv [] []:=⟨.nil,by simp,by simp [refsOf],by simp,by simp⟩
theorem findC_none {L : List ChD} {r : Rf} : findC L r=none↔r∉refsOf L:=by
 unfold findC refsOf
 rw [List.find?_eq_none]
 constructor
 · intro h hm
   obtain ⟨c,hc,e⟩:=List.mem_map.1 hm
   exact h c hc (by simpa using e)
 · intro h c hc e
   exact h (List.mem_map.2 ⟨c,hc,by simpa using e⟩)
theorem findC_some {L : List ChD} {r : Rf} {c : ChD} (h : findC L r=some c) : c∈L∧c.rf=r:=⟨List.mem_of_find?_eq_some h,by simpa using List.find?_some h⟩
theorem mem_eraseIdx_of {α : Type} {l : List α} {i : Nat} {x : α} (h : x∈l.eraseIdx i) : x∈l:=(List.eraseIdx_sublist _ _).subset h
theorem eraseIdx_refs (W : List ChD) (i : Nat) : refsOf (W.eraseIdx i)=(refsOf W).eraseIdx i:=by
 unfold refsOf
 induction W generalizing i with
 | nil=>rfl
 | cons x W ih=>cases i with
   | zero=>rfl
   | succ i=>simp only [List.eraseIdx_cons_succ,List.map_cons,ih]
theorem erased_not {W : List ChD} (hn : (refsOf W).Nodup) {i : Nat} {x : ChD} (hi : W[i]?=some x) : ∀ c∈W.eraseIdx i,c.rf≠x.rf:=by
 intro c hc e
 obtain ⟨j,hne,hj⟩:=List.mem_eraseIdx_iff_getElem?.1 hc
 have e1 : (refsOf W)[i]?=some x.rf:=by simp [refsOf,hi]
 have e2 : (refsOf W)[j]?=some x.rf:=by simp [refsOf,hj,e]
 obtain ⟨l1,e1⟩:=List.getElem?_eq_some_iff.1 e1
 obtain ⟨l2,e2⟩:=List.getElem?_eq_some_iff.1 e2
 exact hne ((List.getElem_inj hn).1 (e2.trans e1.symm))
theorem Inv.drop {L W : List ChD} (h : Inv L W) (i : Nat) : Inv L (W.eraseIdx i) :=
 ⟨h.bk,fun c hc=>h.good c (mem_eraseIdx_of hc),by rw [eraseIdx_refs];exact h.nd.sublist (List.eraseIdx_sublist _ _),fun c hc=>h.apart c (mem_eraseIdx_of hc),by
  have:=h.most;have:=List.length_eraseIdx_le W i;omega⟩
theorem Inv.move {L W : List ChD} (h : Inv L W) {i : Nat} {x : ChD} (hi : W[i]?=some x) (hr : readyP L x=true) (hf : fitsP L x=true) : Inv (L++[x]) (W.eraseIdx i):=by
 have hx:=List.mem_of_getElem? hi
 have hd:=h.drop i
 refine ⟨.snoc h.bk (h.good x hx).1 (h.good x hx).2 (h.apart x hx) hr hf,hd.good,hd.nd,fun c hc=>?_,?_⟩
 · rw [refsOf_append]
   intro hm
   rcases List.mem_append.1 hm with hm | hm
   · exact hd.apart c hc hm
   · exact erased_not h.nd hi c hc (by simpa [refsOf] using hm)
 · have:=h.most
   have h1:=(List.getElem?_eq_some_iff.1 hi).1
   have h2:=List.length_eraseIdx_of_lt h1
   rw [List.length_append,h2]
   simp only [List.length_cons,List.length_nil]
   omega
theorem settle_inv : ∀ (n : Nat) {L W : List ChD},Inv L W→Inv (settle n L W).1 (settle n L W).2
 | 0,_,_,h=>h
 | n+1,L,W,h=>by
   rw [settle]
   cases hl : leastAt (readyP L) W with
   | none=>exact h
   | some b =>
     obtain ⟨i,r⟩:=b
     obtain ⟨x,hi,_,hr,_⟩:=leastAt_some hl
     simp only [hi]
     cases hf : fitsP L x with
     | true=>rw [if_pos rfl];exact settle_inv n (h.move hi hr hf)
     | false=>rw [if_neg (by simp)];exact settle_inv n (h.drop i)
theorem takeP_inv {L W : List ChD} (h : Inv L W) {c : ChD} (hw : ∀ o∈c.ops,(Lit.int .i64 o.vn).wf=true) : Inv (takeP L W c).1.1 (takeP L W c).1.2:=by
 unfold takeP
 by_cases he : c.err≠0
 · rw [if_pos he];exact h
 rw [if_neg he]
 cases h1 : findC L c.rf with
 | some d=>exact h
 | none =>
   simp only
   cases h2 : findC W c.rf with
   | some d=>exact h
   | none =>
     simp only
     by_cases h3 : 120≤L.length+W.length
     · rw [if_pos h3];exact h
     rw [if_neg h3]
     have n1:=findC_none.1 h1
     have n2:=findC_none.1 h2
     have he' : c.err=0:=by omega
     cases hr : readyP L c with
     | false =>
       rw [if_pos rfl]
       refine ⟨h.bk,fun x hx=>?_,?_,fun x hx=>?_,by simp;omega⟩
       · rcases List.mem_append.1 hx with hx | hx
         · exact h.good x hx
         · rw [List.mem_singleton.1 hx];exact ⟨he',hw⟩
       · rw [refsOf_append,List.nodup_append]
         refine ⟨h.nd,by simp [refsOf],fun a ha b hb e=>?_⟩
         simp [refsOf] at hb
         exact n2 (by rw [← hb,← e];exact ha)
       · rcases List.mem_append.1 hx with hx | hx
         · exact h.apart x hx
         · rw [List.mem_singleton.1 hx];exact n1
     | true =>
       rw [if_neg (by simp)]
       cases hf : fitsP L c with
       | false=>rw [if_pos rfl];exact h
       | true =>
         rw [if_neg (by simp)]
         refine settle_inv _ ⟨.snoc h.bk he' hw n1 hr hf,h.good,h.nd,fun x hx=>?_,by simp;omega⟩
         rw [refsOf_append]
         intro hm
         rcases List.mem_append.1 hm with hm | hm
         · exact h.apart x hx hm
         · simp [refsOf] at hm
           exact n2 (by rw [← hm];exact mem_refs hx)
end Go.Proofs.YtmpkejflgpodkaaGreatDoor
namespace Go.Proofs.YtmpkejflgpodkaaGreatDoor
open Go.ChangeShapes Go.WideShapes Go.ChangeAt Go.RowKit
def ChD.cells (c : ChD) : List Value:=[.int .i64 c.a,.int .i64 c.s,.int .i64 c.st,.slice c.DA c.deps.length c.DC,.slice c.OA c.ops.length c.OC]
def ChD.v (c : ChD) : Value:=.agg #[.int .i64 c.a,.int .i64 c.s,.int .i64 c.st,.slice c.DA c.deps.length c.DC,.slice c.OA c.ops.length c.OC]
def chsC (L : List ChD) : List Value:=L.flatMap ChD.cells
theorem chsC_append (a b : List ChD) : chsC (a++b)=chsC a++chsC b:=by simp [chsC]
theorem chsC_at : ∀ {L : List ChD} {k : Nat} {c : ChD},L[k]?=some c→∀ i,i < 5→(chsC L)[k*5+i]?=c.cells[i]?
 | [],k,r,h=>by simp at h
 | x::l,0,o,h=>fun i hi=>by
   simp at h;subst h
   simp only [chsC,List.flatMap_cons,Nat.zero_mul,Nat.zero_add]
   exact List.getElem?_append_left (by simp only [ChD.cells,List.length_cons,List.length_nil];omega)
 | x::l,k+1,o,h=>fun i hi=>by
   have ih:=chsC_at (L:=l) (k:=k) (by simpa using h) i hi
   have e : chsC (x::l)=x.cells++chsC l:=by simp [chsC]
   have hx : x.cells.length=5:=by simp [ChD.cells]
   rw [e,List.getElem?_append_right (by rw [hx];omega),hx,show (k+1)*5+i - 5=k*5+i from by omega]
   exact ih
set_option maxRecDepth 100000 in
theorem eq_ref (a b c d : Int) (w : World) : (Op.equalIn 10000 77 (.agg #[.int .i64 a,.int .i64 b]) (.agg #[.int .i64 c,.int .i64 d])).run Tryz.prog w=.ok (decide ((a,b)=(c,d))) w:=by
 have hS : Tryz.prog.underlying 77=some (.struct (Tryz.prog.fieldsOf 77)):=by kernel_rfl
 have hp : Tryz.prog.stoodInHeld 77=false:=by kernel_rfl
 rw [show (10000 : Nat)=9999+1 from rfl,run_equalIn_agg w 9999 77 _ _ hS hp]
 simp only [Program.fieldsOf,Tryz.underlying77]
 go_simp
 by_cases h1 : a=c <;> by_cases h2 : b=d <;> simp [h1,h2]
theorem sref_any (a s : Int) (v2 v3 v4 : Value) (w : World) (h2 : v2.oneCell'=true) (h3 : v3.oneCell'=true) (h4 : v4.oneCell'=true) :
 Calls Tryz.prog 27 #[.agg #[.int .i64 a,.int .i64 s,v2,v3,v4]] w fun e w'=>e=.returned (.agg #[.int .i64 a,.int .i64 s])∧Below w.heap.size w w':=by
 have hres : Tryz.f27.results=#[.cell 2 77]:=by kernel_rfl
 go_enter Tryz.func27,Tryz.ntmps27
 go_wp2_with fail
 refine bodyPost_ret (v:=.agg #[.int .i64 a,.int .i64 s]) ?_ rfl ⟨rfl,?_⟩
 · simp only [results,hres]
   go_simp
 · exact ((Below.refl _ w).alloc (Nat.le_refl _) _).alloc (by simp) _
theorem ahead_any (r q : Rf) (w : World) : Calls Tryz.prog 55 #[refV r,refV q] w fun e w'=>e=.returned (.bool (aheadR r q))∧Below w.heap.size w w':=by
 obtain ⟨a,b⟩:=r
 obtain ⟨c,d⟩:=q
 simp only [refV,aheadR]
 have HB : Hid (Below w.heap.size w ((w.alloc (.cells #[.int .i64 a,.int .i64 b] 77)).alloc (.cells #[.int .i64 c,.int .i64 d] 77))):=((Below.refl _ w).alloc (Nat.le_refl _) _).alloc (by simp) _
 by_cases h1 : a=c
 · subst h1
   have e : decide (a < a∨a=a∧b < d)=decide (b < d):=by simp
   rw [e]
   go_enter Tryz.func55,Tryz.ntmps55
   go_wp2_with fail
   go_ret
   exact ⟨rfl,HB.out⟩
 · have e : decide (a < c∨a=c∧b < d)=decide (a < c):=by simp [h1]
   rw [e]
   go_enter Tryz.func55,Tryz.ntmps55
   go_wp2_with fail
   go_ret
   exact ⟨rfl,HB.out⟩
theorem has_step {l : List Rf} {k : Nat} {x r : Rf} (hx : l[k]?=some x) (h : r∉l.take k) (hne : x≠r) : r∉l.take (k+1):=by
 rw [List.take_add_one,hx]
 simp only [Option.toList_some,List.mem_append,List.mem_singleton,not_or]
 exact ⟨h,fun e=>hne e.symm⟩
set_option maxHeartbeats 2000000 in
set_option maxRecDepth 20000 in
theorem sHas_any (l : List Rf) (r : Rf) (D : Nat→Prop) (A : Option Addr) (c : Nat) (w : World) (hr : Reads D w 2 A l.length (refC l)) (hD : ∀ k,D k→k < w.heap.size) (hl : l.length≤9223372036854775807) :
 Calls Tryz.prog 56 #[.slice A l.length c,.agg #[.int .i64 r.1,.int .i64 r.2]] w fun e w'=>e=.returned (.bool (decide (r∈l)))∧Below w.heap.size w w':=by
 obtain ⟨n,hn⟩ : ∃ n,l.length=n:=⟨_,rfl⟩
 have HN:=Lib.hid hn
 have HR0:=Lib.hid (hr.keep (w':=w.alloc (.cells #[.int .i64 r.1,.int .i64 r.2] 77)) fun k hk=>Below.heap_alloc _ _ k (hD k hk))
 have HB0 : Hid (Below w.heap.size w (w.alloc (.cells #[.int .i64 r.1,.int .i64 r.2] 77))):=(Below.refl _ w).alloc (Nat.le_refl _) _
 have hQ:=Blk.new w 77 #[.int .i64 r.1,.int .i64 r.2]
 have HC0:=Lib.hid (And.intro (hQ.cell 0) (hQ.cell 1))
 rw [hn] at hl ⊢
 clear hn hr hD hQ
 go_enter Tryz.func56,Tryz.ntmps56
 go_wp2_with fail
 generalize w.alloc (.cells #[.int .i64 r.1,.int .i64 r.2] 77)=V at *
 go_loopw [5] (fun s5 wr=>∃ k : Nat,s5=.int .i64 k∧k≤n∧Hid (r∉l.take k)∧∃ m,wr=V.drewN m) (fun s5 _=>n - (intOf s5).toNat)
 case atStart=>exact ⟨0,rfl,by omega,by show r∉_;simp,0,rfl⟩
 case round =>
  obtain ⟨k,rfl,hk,HI,m,rfl⟩:=hrel
  by_cases hlt : k < n
  · obtain ⟨b1,o1,rfl,-,hc1⟩:=HR0.out.at_ (by rw [HN.out];omega) (by omega)
    obtain ⟨x,hx⟩ : ∃ x,l[k]?=some x:=⟨_,List.getElem?_eq_getElem (by rw [HN.out];exact hlt)⟩
    have x1 : V.cell? ⟨b1,o1+k*2,none⟩=some (.int .i64 x.1):=hc1 _ _ (refC_at hx).1
    have x2 : V.cell? ⟨b1,o1+k*2+1,none⟩=some (.int .i64 x.2):=hc1 _ _ (refC_at hx).2
    have y1 : V.cell? ⟨w.heap.size,0,none⟩=some (.int .i64 r.1):=HC0.out.1
    have y2 : V.cell? ⟨w.heap.size,1,none⟩=some (.int .i64 r.2):=HC0.out.2
    have HX:=Lib.hid hx
    have E:=fun w=>eq_ref x.1 x.2 r.1 r.2 w
    by_cases hxr : x=r
    · have HE : Hid (decide (r∈l)=true):=decide_eq_true (by rw [← hxr];exact List.mem_of_getElem? hx)
      have e1 : decide ((x.1,x.2)=(r.1,r.2))=true:=decide_eq_true hxr
      rw [e1] at E
      clear hc1 hx hxr e1
      go_wp2_with fail
      go_quiet (fail)
      go_wp2_with fail
      go_ret
      exact ⟨by rw [HE.out];rfl,by rw [World.drewN_drewN];exact below_drewN HB0.out _⟩
    · have e1 : decide ((x.1,x.2)=(r.1,r.2))=false:=decide_eq_false hxr
      rw [e1] at E
      have HE : Hid (r∉l.take (k+1)):=has_step hx HI.out hxr
      clear hc1 hx hxr e1
      go_wp2_with fail
      go_quiet (fail)
      change Exit.then _ _ _ _ ((V.drewN m).drewN nq)
      have HW : Hid ((V.drewN m).drewN nq=V.drewN (m+nq)):=by show _=_;rw [World.drewN_drewN]
      generalize (V.drewN m).drewN nq=w3 at HW ⊢
      clear x1 x2 y1 y2
      go_wp2_with fail
      go_roundw
      case rel=>exact ⟨k+1,by go_num,by omega,HE,_,HW.out⟩
      case measure=>simp [intOf];omega
  · have HE : Hid (decide (r∈l)=false):=decide_eq_false (by have:=HI.out;rwa [List.take_of_length_le (by rw [HN.out];omega)] at this)
    go_wp2_with fail
    go_ret
    exact ⟨by rw [HE.out];rfl,below_drewN HB0.out _⟩
theorem find_none_step {L : List ChD} {k : Nat} {x : ChD} {r : Rf} (hx : L[k]?=some x) (h : r∉refsOf (L.take k)) (hne : x.rf≠r) : r∉refsOf (L.take (k+1)):=by
 rw [List.take_add_one,hx,refsOf_append]
 simp only [Option.toList_some,List.mem_append,not_or]
 exact ⟨h,fun e=>hne (List.mem_singleton.1 e).symm⟩
theorem find_hit {L : List ChD} {k : Nat} {x : ChD} {r : Rf} (hx : L[k]?=some x) (h : r∉refsOf (L.take k)) (he : x.rf=r) : findC L r=some x:=by
 obtain ⟨hk,hx'⟩:=List.getElem?_eq_some_iff.1 hx
 have e : L=L.take k++x::L.drop (k+1):=by
  rw [← hx',List.getElem_cons_drop,List.take_append_drop]
 unfold findC
 rw [e,List.find?_append]
 have h1 : (L.take k).find? (fun c=>decide (c.rf=r))=none:=findC_none.2 h
 rw [h1]
 simp [he]
def FindI (L : List ChD) (r : Rf) (i : Int) : Prop:=(i=-1∧r∉refsOf L)∨∃ (k : Nat) (c : ChD),i=(k : Int)∧L[k]?=some c∧findC L r=some c
set_option maxHeartbeats 2000000 in
set_option maxRecDepth 20000 in
theorem sfind_any (L : List ChD) (r : Rf) (D : Nat→Prop) (A : Option Addr) (c : Nat) (w : World) (hr : Reads D w 5 A L.length (chsC L)) (hD : ∀ k,D k→k < w.heap.size) (hl : L.length≤9223372036854775807) :
 Calls Tryz.prog 26 #[.slice A L.length c,.agg #[.int .i64 r.1,.int .i64 r.2]] w fun e w'=>∃ i,e=.returned (.int .i64 i)∧FindI L r i∧Below w.heap.size w w':=by
 obtain ⟨n,hn⟩ : ∃ n,L.length=n:=⟨_,rfl⟩
 have HN:=Lib.hid hn
 have HR0:=Lib.hid (hr.keep (w':=w.alloc (.cells #[.int .i64 r.1,.int .i64 r.2] 77)) fun k hk=>Below.heap_alloc _ _ k (hD k hk))
 have HB0 : Hid (Below w.heap.size w (w.alloc (.cells #[.int .i64 r.1,.int .i64 r.2] 77))):=(Below.refl _ w).alloc (Nat.le_refl _) _
 have hQ:=Blk.new w 77 #[.int .i64 r.1,.int .i64 r.2]
 have HC0:=Lib.hid (And.intro (hQ.cell 0) (hQ.cell 1))
 rw [hn] at hl ⊢
 clear hn hr hD hQ
 go_enter Tryz.func26,Tryz.ntmps26
 go_wp2_with fail
 generalize w.alloc (.cells #[.int .i64 r.1,.int .i64 r.2] 77)=V at *
 go_loopw [5] (fun s5 wr=>∃ k : Nat,s5=.int .i64 k∧k≤n∧Hid (r∉refsOf (L.take k))∧∃ m,wr=V.drewN m) (fun s5 _=>n - (intOf s5).toNat)
 case atStart=>exact ⟨0,rfl,by omega,by show r∉_;simp [refsOf],0,rfl⟩
 case round =>
  obtain ⟨k,rfl,hk,HI,m,rfl⟩:=hrel
  by_cases hlt : k < n
  · obtain ⟨b1,o1,rfl,-,hc1⟩:=HR0.out.at_ (by rw [HN.out];omega) (by omega)
    obtain ⟨x,hx⟩ : ∃ x,L[k]?=some x:=⟨_,List.getElem?_eq_getElem (by rw [HN.out];exact hlt)⟩
    have x1 : V.cell? ⟨b1,o1+k*5,none⟩=some (.int .i64 x.a):=hc1 _ _ (chsC_at hx 0 (by omega))
    have x2 : V.cell? ⟨b1,o1+k*5+1,none⟩=some (.int .i64 x.s):=hc1 _ _ (chsC_at hx 1 (by omega))
    have y1 : V.cell? ⟨w.heap.size,0,none⟩=some (.int .i64 r.1):=HC0.out.1
    have y2 : V.cell? ⟨w.heap.size,1,none⟩=some (.int .i64 r.2):=HC0.out.2
    have HX:=Lib.hid hx
    by_cases h1 : x.a=r.1
    · have e1 : (x.a == r.1)=true:=by simp [h1]
      by_cases h2 : x.s=r.2
      · have e2 : (x.s == r.2)=true:=by simp [h2]
        have HE:=Lib.hid (find_hit hx HI.out (by unfold ChD.rf;rw [h1,h2]))
        clear hc1 hx h1 h2
        go_wp2_with fail
        go_quiet (fail)
        go_wp2_with fail
        go_ret
        exact ⟨_,rfl,.inr ⟨k,x,rfl,HX.out,HE.out⟩,by rw [World.drewN_drewN];exact below_drewN HB0.out _⟩
      · have e2 : (x.s == r.2)=false:=by simp [h2]
        have HE : Hid (r∉refsOf (L.take (k+1))):=find_none_step hx HI.out (fun e=>h2 (congrArg Prod.snd e))
        clear hc1 hx h1 h2
        go_wp2_with fail
        go_quiet (fail)
        change Exit.then _ _ _ _ ((V.drewN m).drewN nq)
        have HW : Hid ((V.drewN m).drewN nq=V.drewN (m+nq)):=by show _=_;rw [World.drewN_drewN]
        generalize (V.drewN m).drewN nq=w3 at HW ⊢
        clear x1 x2 y1 y2
        go_wp2_with fail
        go_roundw
        case rel=>exact ⟨k+1,by go_num,by omega,HE,_,HW.out⟩
        case measure=>simp [intOf];omega
    · have e1 : (x.a == r.1)=false:=by simp [h1]
      have HE : Hid (r∉refsOf (L.take (k+1))):=find_none_step hx HI.out (fun e=>h1 (congrArg Prod.fst e))
      clear hc1 hx h1
      go_wp2_with fail
      go_quiet (fail)
      change Exit.then _ _ _ _ ((V.drewN m).drewN nq)
      have HW : Hid ((V.drewN m).drewN nq=V.drewN (m+nq)):=by show _=_;rw [World.drewN_drewN]
      generalize (V.drewN m).drewN nq=w3 at HW ⊢
      clear x1 x2 y1 y2
      go_wp2_with fail
      go_roundw
      case rel=>exact ⟨k+1,by go_num,by omega,HE,_,HW.out⟩
      case measure=>simp [intOf];omega
  · have HE : Hid (r∉refsOf L):=by have:=HI.out;rwa [List.take_of_length_le (by rw [HN.out];omega)] at this
    go_wp2_with fail
    go_ret
    exact ⟨_,rfl,.inl ⟨rfl,HE.out⟩,below_drewN HB0.out _⟩
end Go.Proofs.YtmpkejflgpodkaaGreatDoor
namespace Go.Proofs.YtmpkejflgpodkaaGreatDoor
open Go.ChangeShapes Go.WideShapes Go.ChangeAt Go.RowKit
theorem infoRef : (Tryz.prog.info? 77).map (fun i=>(i.zero,i.size,i.bytes))=some (some (.agg #[.int .i64 0,.int .i64 0]),2,16):=by kernel_rfl
theorem refC_one (l : List Rf) : ∀ u∈refC l,u.oneCell'=true:=by
 intro u hu
 obtain ⟨r,_,h⟩:=List.mem_flatMap.1 hu
 simp only [List.mem_cons,List.not_mem_nil,or_false] at h
 rcases h with rfl | rfl <;> rfl
theorem take_drop_while {α : Type} (p : α→Bool) : ∀ (l : List α) (k : Nat),k≤l.length→(∀ x∈l.take k,p x=true)→(∀ x,l[k]?=some x→p x=false)→l.takeWhile p=l.take k∧l.dropWhile p=l.drop k
 | [],k,_,_,_=>by simp
 | a::l,0,_,_,h2=>by
   have:=h2 a (by simp)
   simp [this]
 | a::l,k+1,hk,h1,h2=>by
   have ha : p a=true:=h1 a (by simp)
   obtain ⟨e1,e2⟩:=take_drop_while p l k (by simpa using hk) (fun x hx=>h1 x (by simp [hx])) (fun x hx=>h2 x (by simpa using hx))
   simp [ha,e1,e2]
theorem putR_has {l : List Rf} {r : Rf} (h : r∈l) : putR l r=l:=by unfold putR;rw [if_pos h]
theorem putR_at {l : List Rf} {r : Rf} (h : r∉l) {k : Nat} (hk : k≤l.length) (h1 : ∀ x∈l.take k,aheadR x r=true) (h2 : ∀ x,l[k]?=some x→aheadR x r=false) : putR l r=l.take k++r::l.drop k:=by
 unfold putR
 obtain ⟨e1,e2⟩:=take_drop_while (fun x=>aheadR x r) l k hk h1 h2
 rw [if_neg h,e1,e2]
theorem refC_take (l : List Rf) (k : Nat) : (refC l).take (k*2)=refC (l.take k):=by
 induction l generalizing k with
 | nil=>simp [refC]
 | cons x l ih=>cases k with
   | zero=>simp [refC]
   | succ k =>
     have e : refC (x::l)=.int .i64 x.1::.int .i64 x.2::refC l:=by simp [refC]
     have e2 : refC (x::l.take k)=.int .i64 x.1::.int .i64 x.2::refC (l.take k):=by simp [refC]
     rw [e,show (k+1)*2=k*2+1+1 from by omega,List.take_succ_cons,List.take_succ_cons,ih,List.take_succ_cons,e2]
theorem refC_drop (l : List Rf) (k : Nat) : (refC l).drop (k*2)=refC (l.drop k):=by
 induction l generalizing k with
 | nil=>simp [refC]
 | cons x l ih=>cases k with
   | zero=>simp [refC]
   | succ k =>
     have e : refC (x::l)=.int .i64 x.1::.int .i64 x.2::refC l:=by simp [refC]
     rw [e,show (k+1)*2=k*2+1+1 from by omega,List.drop_succ_cons,List.drop_succ_cons,ih,List.drop_succ_cons]
theorem addr0 (g i : Nat) : (⟨g,0,none⟩ : Addr).add i=⟨g,i,none⟩:=by
 unfold Addr.add
 split
 · rename_i h;rw [h]
 · simp
set_option maxHeartbeats 4000000 in
set_option maxRecDepth 20000 in
theorem sPut_some (l : List Rf) (r : Rf) (base : Nat) (g c : Nat) (w : World) (ho : w.ownsRow base 77 2 (.slice (some ⟨g,0,none⟩) l.length c) l.length (refC l)) (hl : l.length≤1000000000) (hbs : base≤w.heap.size) :
 Calls Tryz.prog 124 #[.slice (some ⟨g,0,none⟩) l.length c,.agg #[.int .i64 r.1,.int .i64 r.2]] w fun e w'=>∃ v',e=.returned v'∧w'.ownsRow base 77 2 v' (putR l r).length (refC (putR l r))∧Below w.heap.size w w'∧(r∈l∨w'.ownsRow w.heap.size 77 2 v' (putR l r).length (refC (putR l r))):=by
 obtain ⟨A,c',hv',hc,hcm,hr0⟩:=Reads.of_own ho
 simp only [Value.slice.injEq,true_and] at hv'
 obtain ⟨rfl,rfl⟩:=hv'
 have hr : Reads (fun k=>k < w.heap.size) w 2 (some ⟨g,0,none⟩) l.length (refC l):=hr0.more fun k hk=>(own_lt ho hk).2
 have HO:=Lib.hid ho
 have HR0:=Lib.hid (reads_below hr ((Below.refl _ w).alloc (Nat.le_refl _) (.cells #[.int .i64 r.1,.int .i64 r.2] 77)))
 have HB0 : Hid (Below w.heap.size w (w.alloc (.cells #[.int .i64 r.1,.int .i64 r.2] 77))):=(Below.refl _ w).alloc (Nat.le_refl _) _
 have HQ0:=Lib.hid (Blk.new w 77 #[.int .i64 r.1,.int .i64 r.2])
 have hsz : (w.alloc (.cells #[.int .i64 r.1,.int .i64 r.2] 77)).heap.size=w.heap.size+1:=by simp
 clear ho hr0 hr
 have H1:=fun W c h1 h2 h3=>sHas_any l r (fun k=>k < W.heap.size) (some ⟨g,0,none⟩) c W h1 h2 h3
 go_enter Tryz.func124,Tryz.ntmps124
 go_wp2_with fail
 generalize w.alloc (.cells #[.int .i64 r.1,.int .i64 r.2] 77)=V at *
 replace H1:=H1 V c HR0.out (fun _ h=>h) (by omega)
 have y1 : V.cell? ⟨w.heap.size,0,none⟩=some (.int .i64 r.1):=HQ0.out.cell 0
 have y2 : V.cell? ⟨w.heap.size,1,none⟩=some (.int .i64 r.2):=HQ0.out.cell 1
 go_wp2_with fail
 go_at_call 56
 refine H1.mono ?_
 rintro e w0 ⟨rfl,hb⟩
 have HB1 : Hid (Below w.heap.size w w0):=HB0.out.trans (hb.mono HB0.out.size)
 have HQ1:=Lib.hid (HQ0.out.keep (hb.block _ HQ0.out.lt))
 have HR1:=Lib.hid (reads_below HR0.out hb)
 have hs1 : w.heap.size+1≤w0.heap.size:=by rw [← hsz];exact hb.size
 clear hb H1 HR0 HQ0 y1 y2 hsz
 by_cases hm : r∈l
 · have e1 : decide (r∈l)=true:=decide_eq_true hm
   rw [e1]
   go_wp2_with fail
   go_ret
   rw [putR_has hm]
   exact ⟨_,rfl,own_below HO.out HB1.out,HB1.out,.inl hm⟩
 · have e1 : decide (r∈l)=false:=decide_eq_false hm
   rw [e1]
   obtain ⟨n,hn⟩ : ∃ n,l.length=n:=⟨_,rfl⟩
   have HN:=Lib.hid hn
   rw [hn] at hl hc ⊢
   have HM:=Lib.hid hm
   clear hn hm e1
   go_wp2_with fail
   go_loopw [6] (fun s6 wr=>∃ k : Nat,s6=.int .i64 k∧k≤n∧Hid (∀ x∈l.take k,aheadR x r=true)∧Hid (Below w0.heap.size w0 wr)) (fun s6 _=>n - (intOf s6).toNat)
   case atStart=>exact ⟨0,rfl,by omega,by show ∀ x∈_,_;simp,Below.refl _ _⟩
   case round =>
    obtain ⟨k,rfl,hk,HI,HB⟩:=hrel
    have y1 : wr.cell? ⟨w.heap.size,0,none⟩=some (.int .i64 r.1):=(HQ1.out.keep (HB.out.block _ HQ1.out.lt)).cell 0
    have y2 : wr.cell? ⟨w.heap.size,1,none⟩=some (.int .i64 r.2):=(HQ1.out.keep (HB.out.block _ HQ1.out.lt)).cell 1
    by_cases hlt : k < n
    · obtain ⟨b1,o1,hA,-,hc1⟩:=(reads_below HR1.out HB.out).at_ (by rw [HN.out];omega) (by omega)
      simp only [Option.some.injEq,Addr.mk.injEq,and_true] at hA
      obtain ⟨rfl,rfl⟩:=hA
      obtain ⟨x,hx⟩ : ∃ x,l[k]?=some x:=⟨_,List.getElem?_eq_getElem (by rw [HN.out];exact hlt)⟩
      have x1 : wr.cell? ⟨g,k*2,none⟩=some (.int .i64 x.1):=by have:=hc1 _ _ (refC_at hx).1;rwa [Nat.zero_add] at this
      have x2 : wr.cell? ⟨g,k*2+1,none⟩=some (.int .i64 x.2):=by have:=hc1 _ _ (refC_at hx).2;rwa [Nat.zero_add] at this
      have g1 : decide ((k : Int) < n)=true:=decide_eq_true (by omega)
      have HX:=Lib.hid hx
      clear hc1 hx
      go_wp2_with fail
      refine wp_region_still_tail 10 (by kernel_rfl) (by kernel_rfl) ?_
      simp only [List.take_succ_cons,List.take_zero,List.drop_succ_cons,List.drop_zero]
      repeat (first | (refine wpStill_want rfl (fun K hK=>?_);go_simp;refine hK _ ?_;clear hK K) | (refine wpStill_skip rfl ?_;go_frame))
      refine wpStill_nil ?_
      change wpList _ _ _ _ _ wr.drew
      have HBD : Hid (Below w0.heap.size w0 wr.drew):=HB.out.drew
      generalize wr.drew=w2 at HBD ⊢
      clear x1 x2 y1 y2 HB
      go_wp2_with fail
      go_at_call 55
      refine (ahead_any x r w2).mono ?_
      rintro e w3 ⟨rfl,hb⟩
      have HB3 : Hid (Below w0.heap.size w0 w3):=HBD.out.trans (hb.mono HBD.out.size)
      clear hb HBD
      cases ha : aheadR x r with
      | true =>
        have HI2 : Hid (∀ x∈l.take (k+1),aheadR x r=true):=by
         intro z hz
         rw [List.take_add_one,HX.out] at hz
         rcases List.mem_append.1 hz with hz | hz
         · exact HI.out z hz
         · simp at hz;rw [hz];exact ha
        clear ha
        go_wp2_with fail
        go_roundw
        case rel=>exact ⟨k+1,by go_num,by omega,HI2,HB3⟩
        case measure=>simp [intOf];omega
      | false =>
        have HP : Hid (putR l r=l.take k++r::l.drop k):=putR_at HM.out (by rw [HN.out];omega) HI.out (fun z hz=>by rw [HX.out] at hz;cases hz;exact ha)
        clear ha HX
        obtain ⟨i0,hi,hz0,hz1,hz2⟩:=info_parts infoRef
        have HRW : Hid (Reads (fun x=>x < w3.heap.size) w3 2 (some ⟨g,0,none⟩) n (refC l)):=by have:=reads_below HR1.out HB3.out;rwa [HN.out] at this
        have HT : Hid (Reads (fun x=>x < w3.heap.size) w3 2 (some ⟨g,0,none⟩) k (refC (l.take k))):=by have:=HRW.out.take hk;rwa [refC_take] at this
        have HQW:=Lib.hid (HQ1.out.keep (HB3.out.block _ HQ1.out.lt))
        have HBW : Hid (Below w.heap.size w w3):=HB1.out.trans (HB3.out.mono HB1.out.size)
        clear HB0 HB1 hs1 HQ1 HI
        go_wp2_with (at_builtin;refine wpList_append_any _ rfl (.tmp 27) (.tmp 30) _ rfl (w3.heap.size) 77 i0 _ 2 16 Tryz.underlying79 hi hz0 hz1 hz2 rfl (by omega) (.slice none 0 0) (0) (refC []) rfl (own_nil _ _ _ _) _ ((some ⟨g,0,none⟩)) (k) (c) (refC (l.take k)) rfl (HT.out) (refC_one _) ?c1 ?c2 ?c3 ?_)
        try case c1=>simp only [maxLen];omega
        try case c2=>omega
        try case c3=>exact Nat.le_refl _
        intro v4 w4 ho4 hg4 _
        have HB4 : Hid (Below w3.heap.size w3 w4):=(Below.refl _ w3).grown hg4 (Nat.le_refl _) (fun g e=>by cases e)
        replace ho4 : w4.ownsRow w3.heap.size 77 2 v4 k (refC (l.take k)):=by simpa [refC] using ho4
        have HO4:=Lib.hid ho4
        have hQ4:=HQW.out.keep (HB4.out.block _ HQW.out.lt)
        have y1 : w4.cell? ⟨w.heap.size,0,none⟩=some (.int .i64 r.1):=hQ4.cell 0
        have y2 : w4.cell? ⟨w.heap.size,1,none⟩=some (.int .i64 r.2):=hQ4.cell 1
        clear ho4 hg4 hQ4
        go_wp2_with (at_builtin;refine wpList_append_one 79 77 (.agg #[.int .i64 0,.int .i64 0]) 2 16 Tryz.underlying79 infoRef rfl (by omega) rfl (.tmp 32) (.tmp 34) rfl (w3.heap.size) (v4) (k) (refC (l.take k)) rfl (HO4.out.alloc _) (w4.heap.size) 1 ([.int .i64 r.1,.int .i64 r.2]) rfl ?d1 ?d2 ?d3 ?d4 ?d5 ?d6 ?_)
        try case d1=>rfl
        try case d2=>intro j u hj;exact new_cells _ _ _ hj
        try case d3=>first | exact refC_one [r] | exact ⟨rfl,rfl⟩ | rfl
        try case d4=>omega
        try case d5=>omega
        try case d6=>first | (have:=HB4.out.size;simp;omega) | (simp;done)
        intro v1 w1 hown1 hg1 hat1
        have hb1 : Below (w3.heap.size) w3 w1:=(HB4.out.alloc HB4.out.size _).grown hg1 (by have:=HB4.out.size;first | (simp;omega) | (simp;done)) (fun g hg=>(own_lt (HO4.out) hg).1)
        clear hat1 hg1 y1 y2
        have HO5:=Lib.hid hown1
        have HB5:=Lib.hid hb1
        have HC : Hid (Reads (fun x=>x < w1.heap.size) w1 2 (if c=k then (some ⟨g,0,none⟩) else Option.map (fun x : Addr=>x.add (k*2)) (some ⟨g,0,none⟩)) (n - k) (refC (l.drop k))):=by
         have:=(reads_below HRW.out HB5.out).cut (cap:=c) hk (by omega)
         rwa [refC_drop] at this
        clear hown1 hb1 HO4 HB4 HRW HT HQW
        have HF : Hid (∀ (v' : Value) (w' : World),w'.ownsRow w3.heap.size 77 2 v' (k+1+(n - k)) (refC (l.take k)++[.int .i64 r.1,.int .i64 r.2]++refC (l.drop k))→w'.ownsRow w.heap.size 77 2 v' (putR l r).length (refC (putR l r))):=by
         intro v' w' h
         have e1 : (putR l r).length=k+1+(n - k):=by rw [HP.out];simp only [List.length_append,List.length_take,List.length_cons,List.length_drop];have:=HN.out;omega
         have e2 : refC (putR l r)=refC (l.take k)++[.int .i64 r.1,.int .i64 r.2]++refC (l.drop k):=by rw [HP.out,refC_append,List.append_assoc];rfl
         rw [e1,e2]
         exact own_base h fun g hg=>Nat.le_trans HBW.out.size (own_lt h hg).1
        by_cases hck : c=k
        · rw [if_pos hck] at HC
          go_wp2_with (at_builtin;refine wpList_append_any _ rfl (.tmp 36) (.tmp 39) _ rfl (w3.heap.size) 77 i0 _ 2 16 Tryz.underlying79 hi hz0 hz1 hz2 rfl (by omega) (v1) (k+1) (refC (l.take k)++[.int .i64 r.1,.int .i64 r.2]) rfl (HO5.out) _ (_) (_) (_) (refC (l.drop k)) rfl ((by simpa using HC.out)) (refC_one _) ?c1 ?c2 ?c3 ?_)
          try case c1=>simp only [maxLen];omega
          try case c2=>omega
          try case c3=>exact HB5.out.size
          intro v6 w6 ho6 hg6 _
          have HB6 : Hid (Below w3.heap.size w3 w6):=HB5.out.grown hg6 HB5.out.size (fun g hg=>(own_lt HO5.out hg).1)
          have HO6 : Hid (w6.ownsRow w.heap.size 77 2 v6 (putR l r).length (refC (putR l r))):=HF.out _ _ (by simpa using ho6)
          clear ho6 hg6 HF HC HO5 HB5
          go_wp2_with fail
          go_ret
          exact ⟨_,rfl,own_base HO6.out (fun g hg=>Nat.le_trans hbs (own_lt HO6.out hg).1),HBW.out.trans (HB6.out.mono HBW.out.size),.inr HO6.out⟩
        · rw [if_neg hck] at HC
          have HC2 : Hid (Reads (fun x=>x < w1.heap.size) w1 2 (some ⟨g,k*2,none⟩) (n - k) (refC (l.drop k))):=by have:=HC.out;rw [Option.map_some,addr0] at this;exact this
          go_wp2_with (at_builtin;refine wpList_append_any _ rfl (.tmp 36) (.tmp 39) _ rfl (w3.heap.size) 77 i0 _ 2 16 Tryz.underlying79 hi hz0 hz1 hz2 rfl (by omega) (v1) (k+1) (refC (l.take k)++[.int .i64 r.1,.int .i64 r.2]) rfl (HO5.out) _ (_) (_) (_) (refC (l.drop k)) rfl ((by simpa using HC2.out)) (refC_one _) ?c1 ?c2 ?c3 ?_)
          try case c1=>simp only [maxLen];omega
          try case c2=>omega
          try case c3=>exact HB5.out.size
          intro v6 w6 ho6 hg6 _
          have HB6 : Hid (Below w3.heap.size w3 w6):=HB5.out.grown hg6 HB5.out.size (fun g hg=>(own_lt HO5.out hg).1)
          have HO6 : Hid (w6.ownsRow w.heap.size 77 2 v6 (putR l r).length (refC (putR l r))):=HF.out _ _ (by simpa using ho6)
          clear ho6 hg6 HF HC HO5 HB5
          go_wp2_with fail
          go_ret
          exact ⟨_,rfl,own_base HO6.out (fun g hg=>Nat.le_trans hbs (own_lt HO6.out hg).1),HBW.out.trans (HB6.out.mono HBW.out.size),.inr HO6.out⟩
    · have g1 : decide ((k : Int) < n)=false:=decide_eq_false (by omega)
      obtain rfl : k=n:=by omega
      have HP : Hid (putR l r=l.take k++r::l.drop k):=putR_at HM.out (by rw [HN.out];omega) HI.out (fun z hz=>by rw [List.getElem?_eq_none (by rw [HN.out];omega)] at hz;cases hz)
      clear y1 y2
      go_wp2_with fail
      go_quiet (fail)
      change Exit.then _ _ _ _ (wr.drewN nq)
      have HBD : Hid (Below w0.heap.size w0 (wr.drewN nq)):=below_drewN HB.out nq
      generalize wr.drewN nq=w3 at HBD ⊢
      clear HB
      obtain ⟨i0,hi,hz0,hz1,hz2⟩:=info_parts infoRef
      have HRW : Hid (Reads (fun x=>x < w3.heap.size) w3 2 (some ⟨g,0,none⟩) k (refC l)):=by have:=reads_below HR1.out HBD.out;rwa [HN.out] at this
      have HT : Hid (Reads (fun x=>x < w3.heap.size) w3 2 (some ⟨g,0,none⟩) k (refC (l.take k))):=by have:=HRW.out.take hk;rwa [refC_take] at this
      have HQW:=Lib.hid (HQ1.out.keep (HBD.out.block _ HQ1.out.lt))
      have HBW : Hid (Below w.heap.size w w3):=HB1.out.trans (HBD.out.mono HB1.out.size)
      clear HB0 HB1 hs1 HQ1 HI
      go_wp2_with (at_builtin;refine wpList_append_any _ rfl (.tmp 27) (.tmp 30) _ rfl (w3.heap.size) 77 i0 _ 2 16 Tryz.underlying79 hi hz0 hz1 hz2 rfl (by omega) (.slice none 0 0) (0) (refC []) rfl (own_nil _ _ _ _) _ ((some ⟨g,0,none⟩)) (k) (c) (refC (l.take k)) rfl (HT.out) (refC_one _) ?c1 ?c2 ?c3 ?_)
      try case c1=>simp only [maxLen];omega
      try case c2=>omega
      try case c3=>exact Nat.le_refl _
      intro v4 w4 ho4 hg4 _
      have HB4 : Hid (Below w3.heap.size w3 w4):=(Below.refl _ w3).grown hg4 (Nat.le_refl _) (fun g e=>by cases e)
      replace ho4 : w4.ownsRow w3.heap.size 77 2 v4 k (refC (l.take k)):=by simpa [refC] using ho4
      have HO4:=Lib.hid ho4
      have hQ4:=HQW.out.keep (HB4.out.block _ HQW.out.lt)
      have y1 : w4.cell? ⟨w.heap.size,0,none⟩=some (.int .i64 r.1):=hQ4.cell 0
      have y2 : w4.cell? ⟨w.heap.size,1,none⟩=some (.int .i64 r.2):=hQ4.cell 1
      clear ho4 hg4 hQ4
      go_wp2_with (at_builtin;refine wpList_append_one 79 77 (.agg #[.int .i64 0,.int .i64 0]) 2 16 Tryz.underlying79 infoRef rfl (by omega) rfl (.tmp 32) (.tmp 34) rfl (w3.heap.size) (v4) (k) (refC (l.take k)) rfl (HO4.out.alloc _) (w4.heap.size) 1 ([.int .i64 r.1,.int .i64 r.2]) rfl ?d1 ?d2 ?d3 ?d4 ?d5 ?d6 ?_)
      try case d1=>rfl
      try case d2=>intro j u hj;exact new_cells _ _ _ hj
      try case d3=>first | exact refC_one [r] | exact ⟨rfl,rfl⟩ | rfl
      try case d4=>omega
      try case d5=>omega
      try case d6=>first | (have:=HB4.out.size;simp;omega) | (simp;done)
      intro v1 w1 hown1 hg1 hat1
      have hb1 : Below (w3.heap.size) w3 w1:=(HB4.out.alloc HB4.out.size _).grown hg1 (by have:=HB4.out.size;first | (simp;omega) | (simp;done)) (fun g hg=>(own_lt (HO4.out) hg).1)
      clear hat1 hg1 y1 y2
      have HO5:=Lib.hid hown1
      have HB5:=Lib.hid hb1
      have HC : Hid (Reads (fun x=>x < w1.heap.size) w1 2 (if c=k then (some ⟨g,0,none⟩) else Option.map (fun x : Addr=>x.add (k*2)) (some ⟨g,0,none⟩)) (k - k) (refC (l.drop k))):=by
       have:=(reads_below HRW.out HB5.out).cut (cap:=c) hk (by omega)
       rwa [refC_drop] at this
      clear hown1 hb1 HO4 HB4 HRW HT HQW
      have HF : Hid (∀ (v' : Value) (w' : World),w'.ownsRow w3.heap.size 77 2 v' (k+1+(k - k)) (refC (l.take k)++[.int .i64 r.1,.int .i64 r.2]++refC (l.drop k))→w'.ownsRow w.heap.size 77 2 v' (putR l r).length (refC (putR l r))):=by
       intro v' w' h
       have e1 : (putR l r).length=k+1+(k - k):=by rw [HP.out];simp only [List.length_append,List.length_take,List.length_cons,List.length_drop];have:=HN.out;omega
       have e2 : refC (putR l r)=refC (l.take k)++[.int .i64 r.1,.int .i64 r.2]++refC (l.drop k):=by rw [HP.out,refC_append,List.append_assoc];rfl
       rw [e1,e2]
       exact own_base h fun g hg=>Nat.le_trans HBW.out.size (own_lt h hg).1
      by_cases hck : c=k
      · rw [if_pos hck] at HC
        go_wp2_with (at_builtin;refine wpList_append_any _ rfl (.tmp 36) (.tmp 39) _ rfl (w3.heap.size) 77 i0 _ 2 16 Tryz.underlying79 hi hz0 hz1 hz2 rfl (by omega) (v1) (k+1) (refC (l.take k)++[.int .i64 r.1,.int .i64 r.2]) rfl (HO5.out) _ (_) (_) (_) (refC (l.drop k)) rfl ((by simpa using HC.out)) (refC_one _) ?c1 ?c2 ?c3 ?_)
        try case c1=>simp only [maxLen];omega
        try case c2=>omega
        try case c3=>exact HB5.out.size
        intro v6 w6 ho6 hg6 _
        have HB6 : Hid (Below w3.heap.size w3 w6):=HB5.out.grown hg6 HB5.out.size (fun g hg=>(own_lt HO5.out hg).1)
        have HO6 : Hid (w6.ownsRow w.heap.size 77 2 v6 (putR l r).length (refC (putR l r))):=HF.out _ _ (by simpa using ho6)
        clear ho6 hg6 HF HC HO5 HB5
        go_wp2_with fail
        go_ret
        exact ⟨_,rfl,own_base HO6.out (fun g hg=>Nat.le_trans hbs (own_lt HO6.out hg).1),HBW.out.trans (HB6.out.mono HBW.out.size),.inr HO6.out⟩
      · rw [if_neg hck] at HC
        have HC2 : Hid (Reads (fun x=>x < w1.heap.size) w1 2 (some ⟨g,k*2,none⟩) (k - k) (refC (l.drop k))):=by have:=HC.out;rw [Option.map_some,addr0] at this;exact this
        go_wp2_with (at_builtin;refine wpList_append_any _ rfl (.tmp 36) (.tmp 39) _ rfl (w3.heap.size) 77 i0 _ 2 16 Tryz.underlying79 hi hz0 hz1 hz2 rfl (by omega) (v1) (k+1) (refC (l.take k)++[.int .i64 r.1,.int .i64 r.2]) rfl (HO5.out) _ (_) (_) (_) (refC (l.drop k)) rfl ((by simpa using HC2.out)) (refC_one _) ?c1 ?c2 ?c3 ?_)
        try case c1=>simp only [maxLen];omega
        try case c2=>omega
        try case c3=>exact HB5.out.size
        intro v6 w6 ho6 hg6 _
        have HB6 : Hid (Below w3.heap.size w3 w6):=HB5.out.grown hg6 HB5.out.size (fun g hg=>(own_lt HO5.out hg).1)
        have HO6 : Hid (w6.ownsRow w.heap.size 77 2 v6 (putR l r).length (refC (putR l r))):=HF.out _ _ (by simpa using ho6)
        clear ho6 hg6 HF HC HO5 HB5
        go_wp2_with fail
        go_ret
        exact ⟨_,rfl,own_base HO6.out (fun g hg=>Nat.le_trans hbs (own_lt HO6.out hg).1),HBW.out.trans (HB6.out.mono HBW.out.size),.inr HO6.out⟩
set_option maxHeartbeats 4000000 in
set_option maxRecDepth 20000 in
theorem sPut_nil (r : Rf) (w : World) :
 Calls Tryz.prog 124 #[.slice none 0 0,.agg #[.int .i64 r.1,.int .i64 r.2]] w fun e w'=>∃ v',e=.returned v'∧w'.ownsRow w.heap.size 77 2 v' 1 (refC [r])∧Below w.heap.size w w':=by
 have HB0 : Hid (Below w.heap.size w (w.alloc (.cells #[.int .i64 r.1,.int .i64 r.2] 77))):=(Below.refl _ w).alloc (Nat.le_refl _) _
 have HQ0:=Lib.hid (Blk.new w 77 #[.int .i64 r.1,.int .i64 r.2])
 have H1:=fun W=>sHas_any [] r (fun _=>False) none 0 W (Reads.none_) (fun _ h=>h.elim) (by simp)
 go_enter Tryz.func124,Tryz.ntmps124
 go_wp2_with fail
 generalize w.alloc (.cells #[.int .i64 r.1,.int .i64 r.2] 77)=V at *
 replace H1:=H1 V
 have y1 : V.cell? ⟨w.heap.size,0,none⟩=some (.int .i64 r.1):=HQ0.out.cell 0
 have y2 : V.cell? ⟨w.heap.size,1,none⟩=some (.int .i64 r.2):=HQ0.out.cell 1
 go_wp2_with fail
 go_at_call 56
 refine H1.mono ?_
 rintro e w0 ⟨rfl,hb⟩
 have HB1 : Hid (Below w.heap.size w w0):=HB0.out.trans (hb.mono HB0.out.size)
 have HQ1:=Lib.hid (HQ0.out.keep (hb.block _ HQ0.out.lt))
 clear hb H1 HQ0 y1 y2 HB0
 have e1 : decide (r∈([] : List Rf))=false:=by simp
 rw [e1]
 clear e1
 go_wp2_with fail
 go_loopw [6] (fun s6 wr=>s6=.int .i64 0∧Hid (Below w0.heap.size w0 wr)) (fun _ _=>0)
 case atStart=>exact ⟨rfl,Below.refl _ _⟩
 case round =>
  obtain ⟨rfl,HB⟩:=hrel
  go_wp2_with fail
  go_quiet (fail)
  change Exit.then _ _ _ _ (wr.drewN nq)
  have HBD : Hid (Below w0.heap.size w0 (wr.drewN nq)):=below_drewN HB.out nq
  generalize wr.drewN nq=w3 at HBD ⊢
  obtain ⟨i0,hi,hz0,hz1,hz2⟩:=info_parts infoRef
  have HQ3:=Lib.hid (HQ1.out.keep (HBD.out.block _ HQ1.out.lt))
  have HB3 : Hid (Below w.heap.size w w3):=HB1.out.trans (HBD.out.mono HB1.out.size)
  clear HB HBD HB1 HQ1
  go_wp2_with (at_builtin;refine wpList_append_any _ rfl (.tmp 27) (.tmp 30) _ rfl (w3.heap.size) 77 i0 _ 2 16 Tryz.underlying79 hi hz0 hz1 hz2 rfl (by omega) (.slice none 0 0) (0) (refC []) rfl (own_nil _ _ _ _) _ (none) (0) (0) (refC []) rfl ((Reads.none_ (D:=fun _=>False))) (refC_one _) ?c1 ?c2 ?c3 ?_)
  try case c1=>simp only [maxLen];omega
  try case c2=>omega
  try case c3=>exact Nat.le_refl _
  intro v4 w4 ho4 hg4 _
  have HB4 : Hid (Below w3.heap.size w3 w4):=(Below.refl _ w3).grown hg4 (Nat.le_refl _) (fun g e=>by cases e)
  replace ho4 : w4.ownsRow w3.heap.size 77 2 v4 0 (refC []):=by simpa [refC] using ho4
  have HO4:=Lib.hid ho4
  have hQ4:=HQ3.out.keep (HB4.out.block _ HQ3.out.lt)
  have y1 : w4.cell? ⟨w.heap.size,0,none⟩=some (.int .i64 r.1):=hQ4.cell 0
  have y2 : w4.cell? ⟨w.heap.size,1,none⟩=some (.int .i64 r.2):=hQ4.cell 1
  clear ho4 hg4 hQ4
  go_wp2_with (at_builtin;refine wpList_append_one 79 77 (.agg #[.int .i64 0,.int .i64 0]) 2 16 Tryz.underlying79 infoRef rfl (by omega) rfl (.tmp 32) (.tmp 34) rfl (w3.heap.size) (v4) (0) (refC []) rfl (HO4.out.alloc _) (w4.heap.size) 1 ([.int .i64 r.1,.int .i64 r.2]) rfl ?d1 ?d2 ?d3 ?d4 ?d5 ?d6 ?_)
  try case d1=>rfl
  try case d2=>intro j u hj;exact new_cells _ _ _ hj
  try case d3=>first | exact refC_one [r] | exact ⟨rfl,rfl⟩ | rfl
  try case d4=>omega
  try case d5=>omega
  try case d6=>first | (have:=HB4.out.size;simp;omega) | (simp;done)
  intro v1 w1 hown1 hg1 hat1
  have hb1 : Below (w3.heap.size) w3 w1:=(HB4.out.alloc HB4.out.size _).grown hg1 (by have:=HB4.out.size;first | (simp;omega) | (simp;done)) (fun g hg=>(own_lt (HO4.out) hg).1)
  clear hat1 hg1 y1 y2
  have HO5:=Lib.hid hown1
  have HB5:=Lib.hid hb1
  clear hown1 hb1 HO4 HB4 HQ3
  go_wp2_with (at_builtin;refine wpList_append_any _ rfl (.tmp 36) (.tmp 39) _ rfl (w3.heap.size) 77 i0 _ 2 16 Tryz.underlying79 hi hz0 hz1 hz2 rfl (by omega) (v1) (1) (refC []++[.int .i64 r.1,.int .i64 r.2]) rfl (HO5.out) _ (_) (_) (_) (refC []) rfl ((Reads.none_ (D:=fun _=>False))) (refC_one _) ?c1 ?c2 ?c3 ?_)
  try case c1=>simp only [maxLen];omega
  try case c2=>omega
  try case c3=>exact HB5.out.size
  intro v6 w6 ho6 hg6 _
  have HB6 : Hid (Below w3.heap.size w3 w6):=HB5.out.grown hg6 HB5.out.size (fun g hg=>(own_lt HO5.out hg).1)
  have HO6 : Hid (w6.ownsRow w.heap.size 77 2 v6 1 (refC [r])):=by
   have h : w6.ownsRow w3.heap.size 77 2 v6 1 (refC [r]):=by simpa [refC] using ho6
   exact own_base h fun g hg=>Nat.le_trans HB3.out.size (own_lt h hg).1
  clear ho6 hg6 HO5 HB5
  go_wp2_with fail
  go_ret
  exact ⟨_,rfl,HO6.out,HB3.out.trans (HB6.out.mono HB3.out.size)⟩
theorem sPut_any (l : List Rf) (r : Rf) (base : Nat) (v : Value) (w : World) (ho : w.ownsRow base 77 2 v l.length (refC l)) (hl : l.length≤1000000000) (hbs : base≤w.heap.size) :
 Calls Tryz.prog 124 #[v,.agg #[.int .i64 r.1,.int .i64 r.2]] w fun e w'=>∃ v',e=.returned v'∧w'.ownsRow base 77 2 v' (putR l r).length (refC (putR l r))∧Below w.heap.size w w'∧(r∈l∨w'.ownsRow w.heap.size 77 2 v' (putR l r).length (refC (putR l r))):=by
 have ho':=ho
 rcases ho.2 with ⟨rfl,h0⟩ | ⟨g,cap,cur,rfl,_⟩
 · obtain rfl : l=[]:=List.length_eq_zero_iff.1 h0
   refine (sPut_nil r w).mono ?_
   rintro e w' ⟨v',rfl,h1,h2⟩
   exact ⟨v',rfl,own_base h1 fun g hg=>Nat.le_trans hbs (own_lt h1 hg).1,h2,.inr h1⟩
 · exact sPut_some l r base g cap w ho' hl hbs
end Go.Proofs.YtmpkejflgpodkaaGreatDoor
namespace Go.Proofs.YtmpkejflgpodkaaGreatDoor
open Go.ChangeShapes Go.WideShapes Go.ChangeAt Go.RowKit
theorem putR_mem {l : List Rf} {r x : Rf} : x∈putR l r↔x∈l∨x=r:=by
 unfold putR
 split
 · rename_i h
   constructor
   · exact .inl
   · rintro (h' | rfl)
     · exact h'
     · exact h
 · rw [List.mem_append,List.mem_cons]
   have:=List.takeWhile_append_dropWhile (p:=fun x=>aheadR x r) (l:=l)
   constructor
   · rintro (h | h | h)
     · exact .inl (by rw [← this];exact List.mem_append_left _ h)
     · exact .inr h
     · exact .inl (by rw [← this];exact List.mem_append_right _ h)
   · rintro (h | h)
     · rw [← this] at h
       rcases List.mem_append.1 h with h | h
       · exact .inl h
       · exact .inr (.inr h)
     · exact .inr (.inl h)
theorem putR_len {l : List Rf} {r : Rf} (h : r∉l) : (putR l r).length=l.length+1:=by
 unfold putR
 rw [if_neg h,List.length_append,List.length_cons]
 have:=congrArg List.length (List.takeWhile_append_dropWhile (p:=fun x=>aheadR x r) (l:=l))
 rw [List.length_append] at this
 omega
theorem takeWhile_all {α : Type} {p : α→Bool} {l : List α} {x : α} (h : x∈l.takeWhile p) : p x=true:=by
 induction l with
 | nil=>cases h
 | cons a l ih =>
   rw [List.takeWhile_cons] at h
   split at h
   · rename_i ha
     rcases List.mem_cons.1 h with rfl | h
     · exact ha
     · exact ih h
   · cases h
theorem putR_asc {l : List Rf} {r : Rf} (h : AscR l) : AscR (putR l r):=by
 unfold putR
 split
 · exact h
 · rename_i hm
   have hs:=List.takeWhile_append_dropWhile (p:=fun x=>aheadR x r) (l:=l)
   have h1 : AscR (l.takeWhile (fun x=>aheadR x r)):=h.sublist (List.takeWhile_sublist _)
   have h2 : AscR (l.dropWhile (fun x=>aheadR x r)):=h.sublist (List.dropWhile_sublist _)
   have h3 : ∀ x∈l.dropWhile (fun x=>aheadR x r),aheadR r x=true:=by
    intro x hx
    cases hd : l.dropWhile (fun x=>aheadR x r) with
    | nil=>rw [hd] at hx;cases hx
    | cons a t =>
      have ha : aheadR a r=false:=by
       have:=List.head_dropWhile_not (fun x=>aheadR x r) (l:=l) (by rw [hd];simp)
       simp only [hd,List.head_cons] at this
       simpa using this
      have hal : a∈l:=by rw [← hs,hd];simp
      have hra : aheadR r a=true:=by
       rcases aheadR_total (a:=a) (b:=r) (fun e=>hm (e▸hal)) with h | h
       · rw [ha] at h;cases h
       · exact h
      rw [hd] at hx h2
      rcases List.mem_cons.1 hx with rfl | hx
      · exact hra
      · exact aheadR_trans hra ((List.pairwise_cons.1 h2).1 x hx)
   rw [AscR,List.pairwise_append]
   refine ⟨h1,List.pairwise_cons.2 ⟨h3,h2⟩,fun a ha b hb=>?_⟩
   have har : aheadR a r=true:=takeWhile_all (p:=fun x=>aheadR x r) ha
   rcases List.mem_cons.1 hb with rfl | hb
   · exact har
   · exact aheadR_trans har (h3 b hb)
theorem AscR.nodup {l : List Rf} (h : AscR l) : l.Nodup:=h.imp fun h e=>by rw [e,aheadR_irrefl] at h;cases h
theorem nodup_le {l m : List Rf} (hn : l.Nodup) (hs : ∀ x∈l,x∈m) : l.length≤m.length:=by
 induction l generalizing m with
 | nil=>simp
 | cons a l ih =>
   obtain ⟨h1,h2⟩:=List.nodup_cons.1 hn
   obtain ⟨p,q,rfl⟩:=List.append_of_mem (hs a (by simp))
   have:=ih (m:=p++q) h2 (fun x hx=>by
    have h:=hs x (by simp [hx])
    rcases List.mem_append.1 h with h | h
    · exact List.mem_append_left _ h
    · rcases List.mem_cons.1 h with rfl | h
      · exact absurd hx h1
      · exact List.mem_append_right _ h)
   simp only [List.length_append,List.length_cons] at this ⊢
   omega
structure BI (L : List ChD) (hs todo out : List Rf) (k : Nat) : Prop where
 asc : AscR out
 sub : ∀ r∈out,r∈behindP L hs
 tod : ∀ r∈todo,r∈refsOf L→r∈behindP L hs
 hds : ∀ r∈hs,r∈todo
 don : ∀ j,j < k→∀ r,todo[j]?=some r→r∈out∨r∉refsOf L
 cls : ∀ c∈L,c.rf∈out→∀ d∈c.deps,d∈todo
 len : todo.length≤hs.length+12*out.length
 kl : k≤todo.length
theorem BI.start (L : List ChD) (hs : List Rf) : BI L hs hs [] 0 :=
 ⟨by simp [AscR],by simp,fun r hr hm=>behind_head hr hm,fun r hr=>hr,fun j hj=>by omega,by simp,by simp,by omega⟩
theorem BI.outlen {L : List ChD} {hs todo out : List Rf} {k : Nat} (h : BI L hs todo out k) : out.length≤L.length:=by
 have:=nodup_le h.asc.nodup (m:=refsOf L) (fun x hx=>behind_sub (h.sub x hx))
 simpa [refsOf] using this
theorem BI.skip {L : List ChD} {hs todo out : List Rf} {k : Nat} (h : BI L hs todo out k) {x : Rf} (hx : todo[k]?=some x) (hm : x∈out∨x∉refsOf L) : BI L hs todo out (k+1) :=
 { h with
  don:=fun j hj r hr=>by
   by_cases e : j=k
   · subst e;rw [hx] at hr;cases hr;exact hm
   · exact h.don j (by omega) r hr
  kl:=(List.getElem?_eq_some_iff.1 hx).1 }
theorem BI.put {L : List ChD} (ht : TopR L.reverse) {hs todo out : List Rf} {k : Nat} (h : BI L hs todo out k) {c : ChD} (hx : todo[k]?=some c.rf) (hc : c∈L) (hn : (refsOf L).Nodup) (hm : c.rf∉out) (hd : c.deps.length≤12) :
 BI L hs (todo++c.deps) (putR out c.rf) (k+1):=by
 have hkl:=(List.getElem?_eq_some_iff.1 hx).1
 have hb : c.rf∈behindP L hs:=h.tod _ (List.mem_of_getElem? hx) (mem_refs hc)
 refine ⟨putR_asc h.asc,fun r hr=>?_,fun r hr hm=>?_,fun r hr=>List.mem_append_left _ (h.hds r hr),fun j hj r hr=>?_,fun b hbL hbo d hd=>?_,?_,?_⟩
 · rcases putR_mem.1 hr with hr | rfl
   · exact h.sub r hr
   · exact hb
 · rcases List.mem_append.1 hr with hr | hr
   · exact h.tod r hr hm
   · exact back_closed ht (List.mem_reverse.2 hc) hb hr
 · rw [List.getElem?_append_left (by omega)] at hr
   by_cases e : j=k
   · subst e;rw [hx] at hr;cases hr;exact .inl (putR_mem.2 (.inr rfl))
   · rcases h.don j (by omega) r hr with h | h
     · exact .inl (putR_mem.2 (.inl h))
     · exact .inr h
 · rcases putR_mem.1 hbo with hbo | hbo
   · exact List.mem_append_left _ (h.cls b hbL hbo d hd)
   · have : b=c:=by
      rw [refsOf,List.Nodup,List.pairwise_map] at hn
      by_cases e : b=c
      · exact e
      · exact absurd hbo (by
         have h2 : ∀ {l : List ChD},l.Pairwise (fun x y=>x.rf≠y.rf)→b∈l→c∈l→b.rf≠c.rf:=by
          intro l
          induction l with
          | nil=>intro _ h;cases h
          | cons a l ih =>
            intro hp hb hc
            obtain ⟨h1,h2⟩:=List.pairwise_cons.1 hp
            rcases List.mem_cons.1 hb with e1 | hb
            · rcases List.mem_cons.1 hc with e2 | hc
              · exact absurd (e1.trans e2.symm) e
              · rw [e1];exact h1 c hc
            · rcases List.mem_cons.1 hc with e2 | hc
              · rw [e2];exact (h1 b hb).symm
              · exact ih h2 hb hc
         exact h2 hn hbL hc)
     rw [this] at hd
     exact List.mem_append_right _ hd
 · rw [putR_len hm,List.length_append];have:=h.len;omega
 · rw [List.length_append];omega
theorem BI.done {L : List ChD} {hs todo out : List Rf} (h : BI L hs todo out todo.length) : ∀ r,r∈out↔r∈behindP L hs:=by
 have hall : ∀ r∈todo,r∈refsOf L→r∈out:=fun r hr hm=>by
  obtain ⟨j,hj⟩:=List.getElem?_of_mem hr
  rcases h.don j (List.getElem?_eq_some_iff.1 hj).1 r hj with h | h
  · exact h
  · exact absurd hm h
 intro r
 refine ⟨h.sub r,fun hr=>?_⟩
 refine back_least (fun r=>r∈out) (fun r hr hm=>hall r (h.hds r hr) ?_) (fun c hc hs d hd hm=>hall d (h.cls c (List.mem_reverse.1 hc) hs d hd) ?_) r hr
 · rw [refsOf_reverse] at hm;exact List.mem_reverse.1 hm
 · rw [refsOf_reverse] at hm;exact List.mem_reverse.1 hm
structure ChIn (D : Nat→Prop) (w : World) (c : ChD) : Prop where
 hd : Reads D w 2 c.DA c.deps.length (refC c.deps)
 hdl : c.deps.length≤9223372036854775807
 ho : Reads D w 13 c.OA c.ops.length (opsC c.ops)
 hol : c.ops.length≤9223372036854775807
 hp : ∀ o∈c.ops,Reads D w 2 o.A o.l.length (refC o.l)∧o.l.length≤9223372036854775807
theorem ChIn.keep {D : Nat→Prop} {w w' : World} {c : ChD} (h : ChIn D w c) (hk : Keeps D w w') : ChIn D w' c :=
 ⟨h.hd.keep hk,h.hdl,h.ho.keep hk,h.hol,fun o ho=>⟨(h.hp o ho).1.keep hk,(h.hp o ho).2⟩⟩
theorem ChIn.chm {D : Nat→Prop} {w : World} {c : ChD} (h : ChIn D w c) (hD : ∀ k,D k→k < w.heap.size) : ChM w c.deps c.DA c.ops c.OA :=
 ⟨h.hd.more hD,h.hdl,h.ho.more hD,h.hol,fun o ho=>⟨(h.hp o ho).1.more hD,(h.hp o ho).2⟩⟩
theorem ChIn.more {D D' : Nat→Prop} {w : World} {c : ChD} (h : ChIn D w c) (hD : ∀ k,D k→D' k) : ChIn D' w c :=
 ⟨h.hd.more hD,h.hdl,h.ho.more hD,h.hol,fun o ho=>⟨(h.hp o ho).1.more hD,(h.hp o ho).2⟩⟩
structure ChsIn (D : Nat→Prop) (w : World) (A : Option Addr) (L : List ChD) : Prop where
 row : Reads D w 5 A L.length (chsC L)
 each : ∀ c∈L,ChIn D w c
theorem ChsIn.keep {D : Nat→Prop} {w w' : World} {A : Option Addr} {L : List ChD} (h : ChsIn D w A L) (hk : Keeps D w w') : ChsIn D w' A L :=
 ⟨h.row.keep hk,fun c hc=>(h.each c hc).keep hk⟩
theorem ChsIn.below {w w' : World} {A : Option Addr} {L : List ChD} (h : ChsIn (fun k=>k < w.heap.size) w A L) (hb : Below w.heap.size w w') : ChsIn (fun k=>k < w'.heap.size) w' A L :=
 ⟨reads_below h.row hb,fun c hc=>((h.each c hc).keep fun k hk=>hb.block k hk).more fun _ hk=>Nat.lt_of_lt_of_le hk hb.size⟩
set_option maxHeartbeats 8000000 in
set_option maxRecDepth 20000 in
theorem sBehind_any (L : List ChD) (hs : List Rf) (A : Option Addr) (c : Nat) (H : Option Addr) (hc : Nat) (w : World) (hL : ChsIn (fun k=>k < w.heap.size) w A L) (hr : Reads (fun k=>k < w.heap.size) w 2 H hs.length (refC hs))
 (ht : TopR L.reverse) (hn : (refsOf L).Nodup) (hd : ∀ c∈L,c.deps.length≤12) (hl : L.length≤120) (hhl : hs.length≤100000000) :
 Calls Tryz.prog 81 #[.slice A L.length c,.slice H hs.length hc] w fun e w'=>∃ v out,e=.returned v∧w'.ownsRow w.heap.size 77 2 v out.length (refC out)∧AscR out∧(∀ r,r∈out↔r∈behindP L hs)∧out.length≤120∧Below w.heap.size w w':=by
 obtain ⟨nh,hnh⟩ : ∃ n,hs.length=n:=⟨_,rfl⟩
 obtain ⟨n,hnn⟩ : ∃ n,L.length=n:=⟨_,rfl⟩
 have HNH:=Lib.hid hnh
 have HN:=Lib.hid hnn
 have HL:=Lib.hid hL
 have HT:=Lib.hid ht
 have HD:=Lib.hid hd
 have HND:=Lib.hid hn
 have HLL:=Lib.hid hl
 rw [hnh] at hhl hr ⊢
 rw [hnn] at hl ⊢
 have HR:=Lib.hid hr
 clear hr hL ht hd hn hnh hnn
 obtain ⟨i0,hi,hz0,hz1,hz2⟩:=info_parts infoRef
 go_enter Tryz.func81,Tryz.ntmps81
 go_wp2_with (at_builtin;refine wpList_append_any _ rfl (.tmp 10) (.tmp 11) _ rfl (w.heap.size) 77 i0 _ 2 16 Tryz.underlying79 hi hz0 hz1 hz2 rfl (by omega) (.slice none 0 0) (0) (refC []) rfl (own_nil _ _ _ _) _ (H) (nh) (hc) (refC hs) rfl (HR.out) (refC_one _) ?c1 ?c2 ?c3 ?_)
 try case c1=>simp only [maxLen];omega
 try case c2=>omega
 try case c3=>exact Nat.le_refl _
 intro v1 w1 ho1 hg1 _
 have HB1 : Hid (Below w.heap.size w w1):=(Below.refl _ w).grown hg1 (Nat.le_refl _) (fun g e=>by cases e)
 have HO1 : Hid (w1.ownsRow w.heap.size 77 2 v1 hs.length (refC hs)):=by show w1.ownsRow _ _ _ _ _ _;rw [HNH.out];simpa [refC] using ho1
 clear ho1 hg1 HR
 go_wp2_with fail
 go_loopw [5,6,7,8,9] (fun s5 s6 s7 _ _ wr=>∃ (k : Nat) (todo out : List Rf),s7=.int .i64 k∧Hid (BI L hs todo out k)∧Hid (wr.ownsRow w.heap.size 77 2 s5 out.length (refC out))∧Hid (wr.ownsRow w.heap.size 77 2 s6 todo.length (refC todo)) ∧
  Hid (∀ g,s5.ownBlock=some g→s6.ownBlock≠some g)∧Hid (Below w.heap.size w wr)) (fun _ _ s7 _ _ _=>nh+1440 - (intOf s7).toNat)
 case atStart=>exact ⟨0,hs,[],rfl,BI.start L hs,own_nil _ _ _ _,HO1.out,(by show ∀ g,_→_;intro g e;cases e),HB1.out⟩
 case round =>
  obtain ⟨k,todo,out,rfl,HI,HO,HTD,HNE,HB⟩:=hrel
  obtain ⟨Ao,co,rfl,hco1,hco2,hro⟩:=Reads.of_own HO.out
  obtain ⟨At,ct,rfl,hct1,hct2,hrt⟩:=Reads.of_own HTD.out
  have hol : out.length≤120:=Nat.le_trans HI.out.outlen HLL.out
  have htl : todo.length≤nh+1440:=by have:=HI.out.len;have:=HNH.out;omega
  have hkt:=HI.out.kl
  have HRO:=Lib.hid (hro.more (fun k hk=>(own_lt HO.out hk).2))
  have HRT:=Lib.hid (hrt.more (fun k hk=>(own_lt HTD.out hk).2))
  have H1:=fun W (r : Rf) h1 h2=>sHas_any out r (fun k=>k < W.heap.size) Ao co W h1 (fun _ h=>h) h2
  have H2:=fun W (r : Rf) h1 h2=>sfind_any L r (fun k=>k < W.heap.size) A c W h1 (fun _ h=>h) h2
  have H3:=fun W (r : Rf) h1 h2 h3=>sPut_any out r w.heap.size (.slice Ao out.length co) W h1 h2 h3
  obtain ⟨no,hno⟩ : ∃ no,out.length=no:=⟨_,rfl⟩
  obtain ⟨m,hm⟩ : ∃ m,todo.length=m:=⟨_,rfl⟩
  have HNO:=Lib.hid hno
  have HM:=Lib.hid hm
  rw [hno] at H1 H3 hol hco1 HRO HNE ⊢
  rw [hm] at htl hkt hct1 HRT HNE ⊢
  rw [HN.out] at H2
  clear hro hrt hno hm
  by_cases hlt : k < m
  · obtain ⟨b1,o1,rfl,-,hc1⟩:=HRT.out.at_ (by omega) (by omega)
    obtain ⟨x,hx⟩ : ∃ x,todo[k]?=some x:=⟨_,List.getElem?_eq_getElem (by rw [HM.out];exact hlt)⟩
    have x1 : wr.cell? ⟨b1,o1+k*2,none⟩=some (.int .i64 x.1):=hc1 _ _ (refC_at hx).1
    have x2 : wr.cell? ⟨b1,o1+k*2+1,none⟩=some (.int .i64 x.2):=hc1 _ _ (refC_at hx).2
    have HX:=Lib.hid hx
    replace H1:=H1 wr x HRO.out (by omega)
    clear hc1 hx
    go_wp2_with fail
    go_at_call 56
    refine H1.mono ?_
    rintro e w2 ⟨rfl,hb⟩
    have HW2:=Lib.hid hb
    have hrt2:=(reads_below HRT.out hb)
    obtain ⟨b2,o2,e2,-,hc1⟩:=hrt2.at_ (by omega) (by omega)
    simp only [Option.some.injEq,Addr.mk.injEq,and_true] at e2
    obtain ⟨rfl,rfl⟩:=e2
    have y1 : w2.cell? ⟨b1,o1+k*2,none⟩=some (.int .i64 x.1):=hc1 _ _ (refC_at HX.out).1
    have y2 : w2.cell? ⟨b1,o1+k*2+1,none⟩=some (.int .i64 x.2):=hc1 _ _ (refC_at HX.out).2
    have HL2:=Lib.hid (HL.out.below (HB.out.trans (hb.mono HB.out.size)))
    replace H2:=H2 w2 x (by rw [← HN.out];exact HL2.out.row) (by omega)
    clear hb H1 x1 x2 hrt2 hc1
    go_wp2_with fail
    go_at_call 26
    refine H2.mono ?_
    rintro e w3 ⟨i,rfl,hfi,hb⟩
    have HW3 : Hid (Below wr.heap.size wr w3):=HW2.out.trans (hb.mono HW2.out.size)
    have HFI:=Lib.hid hfi
    clear hb H2 y1 y2 HL2 hfi HW2
    have HB3 : Hid (Below w.heap.size w w3):=HB.out.trans (HW3.out.mono HB.out.size)
    have HO3:=Lib.hid (own_below HO.out HW3.out)
    have HTD3:=Lib.hid (own_below HTD.out HW3.out)
    rw [HNO.out] at HO3
    rw [HM.out] at HTD3
    by_cases hxo : x∈out
    · have e1 : decide (x∈out)=true:=decide_eq_true hxo
      have HI2:=Lib.hid (HI.out.skip HX.out (.inl hxo))
      rw [e1]
      clear e1 hxo H3
      go_wp2_with fail
      go_roundw
      case rel=>exact ⟨k+1,todo,out,by go_num,HI2,by rw [HNO.out];exact HO3,by rw [HM.out];exact HTD3,HNE,HB3⟩
      case measure=>simp [intOf];omega
    · have e1 : decide (x∈out)=false:=decide_eq_false hxo
      rw [e1]
      rcases HFI.out with ⟨rfl,hno⟩ | ⟨j,y,rfl,hyj,hfc⟩
      · have HI2:=Lib.hid (HI.out.skip HX.out (.inr hno))
        clear e1 hxo H3 hno
        go_wp2_with fail
        go_roundw
        case rel=>exact ⟨k+1,todo,out,by go_num,HI2,by rw [HNO.out];exact HO3,by rw [HM.out];exact HTD3,HNE,HB3⟩
        case measure=>simp [intOf];omega
      · obtain ⟨hyL,hyr⟩:=findC_some hfc
        subst hyr
        have HY:=Lib.hid hyL
        have HYJ:=Lib.hid hyj
        have hjn : j < n:=by rw [← HN.out];exact (List.getElem?_eq_some_iff.1 hyj).1
        have HI2:=Lib.hid (HI.out.put HT.out HX.out hyL HND.out hxo (HD.out y hyL))
        have hrt3:=reads_below HRT.out HW3.out
        obtain ⟨b2,o2,e2,-,hc1⟩:=hrt3.at_ (by omega) (by omega)
        simp only [Option.some.injEq,Addr.mk.injEq,and_true] at e2
        obtain ⟨rfl,rfl⟩:=e2
        have y1 : w3.cell? ⟨b1,o1+k*2,none⟩=some (.int .i64 y.rf.1):=hc1 _ _ (refC_at HX.out).1
        have y2 : w3.cell? ⟨b1,o1+k*2+1,none⟩=some (.int .i64 y.rf.2):=hc1 _ _ (refC_at HX.out).2
        replace H3:=H3 w3 y.rf (by first | exact HO3.out | (rw [HNO.out];exact HO3.out)) (by omega) HB3.out.size
        have HXO:=Lib.hid hxo
        clear e1 hxo hc1 hrt3 hfc hyL hyj
        go_wp2_with fail
        go_at_call 124
        refine H3.mono ?_
        rintro e w4 ⟨v4,rfl,ho4,hb4,hor⟩
        have HB4 : Hid (Below w.heap.size w w4):=HB3.out.trans (hb4.mono HB3.out.size)
        have ho4':=hor.resolve_left HXO.out
        have HO4:=Lib.hid ho4
        have HTD4:=Lib.hid (own_below HTD3.out hb4)
        have HNE4 : Hid (∀ g,v4.ownBlock=some g→(Value.slice (some ⟨b1,o1,none⟩) m ct).ownBlock≠some g):=by
         intro g hg e
         have h1:=(own_lt ho4' hg).1
         have h2:=(own_lt HTD3.out e).2
         omega
        have HL4:=Lib.hid (HL.out.below HB4.out)
        have hLy:=HL4.out.each y HY.out
        obtain ⟨b3,o3,hA3,-,hc3⟩:=HL4.out.row.at_ (by rw [HN.out];omega) (by omega)
        subst hA3
        have y3 : w4.cell? ⟨b3,o3+j*5+3,none⟩=some (.slice y.DA y.deps.length y.DC):=by
         have:=hc3 _ _ (chsC_at HYJ.out 3 (by omega))
         rw [← Nat.add_assoc] at this
         exact this
        have HRD:=Lib.hid hLy.hd
        have hdl:=HD.out y HY.out
        have hb4s : w.heap.size≤w4.heap.size:=HB4.out.size
        clear hb4 hor ho4 ho4' H3 y1 y2 hc3 hLy HB3 HL4
        go_wp2_with (at_builtin;refine wpList_append_any _ rfl (.tmp 42) (.tmp 47) _ rfl (w.heap.size) 77 i0 _ 2 16 Tryz.underlying79 hi hz0 hz1 hz2 rfl (by omega) (.slice (some ⟨b1,o1,none⟩) m ct) (m) (refC todo) rfl (HTD4.out) _ (y.DA) (y.deps.length) (y.DC) (refC y.deps) rfl (HRD.out) (refC_one _) ?c1 ?c2 ?c3 ?_)
        try case c1=>simp only [maxLen];omega
        try case c2=>omega
        try case c3=>exact hb4s
        intro v5 w5 ho5 hg5 hat5
        have HB5 : Hid (Below w.heap.size w w5):=HB4.out.grown hg5 HB4.out.size (fun g hg=>(own_lt HTD4.out hg).1)
        have HO5 : Hid (w5.ownsRow w.heap.size 77 2 v4 (putR out y.rf).length (refC (putR out y.rf))):=own_keep HO4.out fun g hg=>hg5.block g (own_lt HO4.out hg).2 (fun e=>HNE4.out g hg e.symm)
        have HT5 : Hid (w5.ownsRow w.heap.size 77 2 v5 (todo++y.deps).length (refC (todo++y.deps))):=by
         show w5.ownsRow _ _ _ _ _ _
         rw [List.length_append,HM.out,refC_append];exact ho5
        have HNE5 : Hid (∀ g,v4.ownBlock=some g→v5.ownBlock≠some g):=by
         intro g hg e
         rcases hat5 with h | h
         · exact HNE4.out g hg (h▸e)
         · rw [h] at e
           have:=(own_lt HO4.out hg).2
           simp only [Option.some.injEq] at e
           omega
        clear ho5 hg5 hat5 HO4 HTD4 HNE4 HRD y3 HTD3 HO3 HB4
        go_wp2_with fail
        go_roundw
        case rel=>exact ⟨k+1,todo++y.deps,putR out y.rf,by go_num,HI2,HO5,HT5,HNE5,HB5⟩
        case measure=>simp [intOf];omega
  · have hkm : k=m:=by omega
    have HF : Hid (AscR out∧(∀ r,r∈out↔r∈behindP L hs)):=⟨HI.out.asc,BI.done (by have:=HI.out;rwa [hkm,← HM.out] at this)⟩
    clear H1 H2 H3
    go_wp2_with fail
    go_ret
    exact ⟨_,out,rfl,by have:=HO.out;rwa [HNO.out] at this ⊢,HF.out.1,HF.out.2,by rw [HNO.out];exact hol,HB.out⟩
end Go.Proofs.YtmpkejflgpodkaaGreatDoor
namespace Go.Proofs.YtmpkejflgpodkaaGreatDoor
open Go.ChangeShapes Go.WideShapes Go.ChangeAt Go.RowKit
def opIC (x : OpI) : List Value:=opC x.1++[.int .i64 x.2.1,.int .i64 x.2.2]
def opIV (x : OpI) : Value:=.agg #[.int .i64 x.1.k,.int .i64 x.1.on,.int .i64 x.1.oa,.string x.1.key,.int .i64 x.1.en,.int .i64 x.1.ea,.bool x.1.ins,.int .i64 x.1.vk,.int .i64 x.1.vn,.string x.1.vt,.int .i64 x.1.va,.int .i64 x.1.vb,.slice x.1.A x.1.l.length x.1.c,.int .i64 x.2.1,.int .i64 x.2.2]
def opsIC (l : List OpI) : List Value:=l.flatMap opIC
theorem opIC_length (x : OpI) : (opIC x).length=15:=by simp [opIC,opC]
theorem opsIC_append (a b : List OpI) : opsIC (a++b)=opsIC a++opsIC b:=by simp [opsIC]
theorem opsIC_at : ∀ {L : List OpI} {k : Nat} {c : OpI},L[k]?=some c→∀ i,i < 15→(opsIC L)[k*15+i]?=(opIC c)[i]?
 | [],k,r,h=>by simp at h
 | x::l,0,o,h=>fun i hi=>by
   simp at h;subst h
   simp only [opsIC,List.flatMap_cons,Nat.zero_mul,Nat.zero_add]
   exact List.getElem?_append_left (by rw [opIC_length];omega)
 | x::l,k+1,o,h=>fun i hi=>by
   have ih:=opsIC_at (L:=l) (k:=k) (by simpa using h) i hi
   have e : opsIC (x::l)=opIC x++opsIC l:=by simp [opsIC]
   rw [e,List.getElem?_append_right (by rw [opIC_length];omega),opIC_length,show (k+1)*15+i - 15=k*15+i from by omega]
   exact ih
theorem opsIC_one (l : List OpI) : ∀ u∈opsIC l,u.oneCell'=true:=by
 intro u hu
 obtain ⟨r,_,h⟩:=List.mem_flatMap.1 hu
 simp only [opIC,opC,List.mem_append,List.mem_cons,List.not_mem_nil,or_false] at h
 rcases h with (rfl | rfl | rfl | rfl | rfl | rfl | rfl | rfl | rfl | rfl | rfl | rfl | rfl) | (rfl | rfl) <;> rfl
theorem look_none {l : List OpI} {n : Rf} : lookP l n=none↔∀ x∈l,x.2≠n:=by
 unfold lookP
 rw [List.find?_eq_none]
 simp
theorem look_none_step {L : List OpI} {k : Nat} {x : OpI} {r : Rf} (hx : L[k]?=some x) (h : lookP (L.take k) r=none) (hne : x.2≠r) : lookP (L.take (k+1)) r=none:=by
 rw [look_none] at *
 rw [List.take_add_one,hx]
 intro y hy
 rcases List.mem_append.1 hy with hy | hy
 · exact h y hy
 · simp at hy;rw [hy];exact hne
theorem look_hit {L : List OpI} {k : Nat} {x : OpI} {r : Rf} (hx : L[k]?=some x) (h : lookP (L.take k) r=none) (he : x.2=r) : lookP L r=some x:=by
 obtain ⟨hk,hx'⟩:=List.getElem?_eq_some_iff.1 hx
 have e : L=L.take k++x::L.drop (k+1):=by
  rw [← hx',List.getElem_cons_drop,List.take_append_drop]
 unfold lookP at *
 rw [e,List.find?_append,h]
 simp [he]
def LookI (L : List OpI) (r : Rf) (i : Int) : Prop:=(i=-1∧lookP L r=none)∨∃ (k : Nat) (c : OpI),i=(k : Int)∧L[k]?=some c∧lookP L r=some c
set_option maxHeartbeats 2000000 in
set_option maxRecDepth 20000 in
theorem slook_any (L : List OpI) (r : Rf) (D : Nat→Prop) (A : Option Addr) (c : Nat) (w : World) (hr : Reads D w 15 A L.length (opsIC L)) (hD : ∀ k,D k→k < w.heap.size) (hl : L.length≤9223372036854775807) :
 Calls Tryz.prog 31 #[.slice A L.length c,.agg #[.int .i64 r.1,.int .i64 r.2]] w fun e w'=>∃ i,e=.returned (.int .i64 i)∧LookI L r i∧Below w.heap.size w w':=by
 obtain ⟨n,hn⟩ : ∃ n,L.length=n:=⟨_,rfl⟩
 have HN:=Lib.hid hn
 have HR0:=Lib.hid (hr.keep (w':=w.alloc (.cells #[.int .i64 r.1,.int .i64 r.2] 24)) fun k hk=>Below.heap_alloc _ _ k (hD k hk))
 have HB0 : Hid (Below w.heap.size w (w.alloc (.cells #[.int .i64 r.1,.int .i64 r.2] 24))):=(Below.refl _ w).alloc (Nat.le_refl _) _
 have hQ:=Blk.new w 24 #[.int .i64 r.1,.int .i64 r.2]
 have HC0:=Lib.hid (And.intro (hQ.cell 0) (hQ.cell 1))
 rw [hn] at hl ⊢
 clear hn hr hD hQ
 go_enter Tryz.func31,Tryz.ntmps31
 go_wp2_with fail
 generalize w.alloc (.cells #[.int .i64 r.1,.int .i64 r.2] 24)=V at *
 go_loopw [5] (fun s5 wr=>∃ k : Nat,s5=.int .i64 k∧k≤n∧Hid (lookP (L.take k) r=none)∧∃ m,wr=V.drewN m) (fun s5 _=>n - (intOf s5).toNat)
 case atStart=>exact ⟨0,rfl,by omega,by show lookP _ _=_;simp [lookP],0,rfl⟩
 case round =>
  obtain ⟨k,rfl,hk,HI,m,rfl⟩:=hrel
  by_cases hlt : k < n
  · obtain ⟨b1,o1,rfl,-,hc1⟩:=HR0.out.at_ (by rw [HN.out];omega) (by omega)
    obtain ⟨x,hx⟩ : ∃ x,L[k]?=some x:=⟨_,List.getElem?_eq_getElem (by rw [HN.out];exact hlt)⟩
    have x1 : V.cell? ⟨b1,o1+k*15+13,none⟩=some (.int .i64 x.2.1):=by have:=hc1 _ _ (opsIC_at hx 13 (by omega));rw [← Nat.add_assoc] at this;exact this
    have x2 : V.cell? ⟨b1,o1+k*15+13+1,none⟩=some (.int .i64 x.2.2):=by have:=hc1 _ _ (opsIC_at hx 14 (by omega));rw [← Nat.add_assoc] at this;exact this
    have y1 : V.cell? ⟨w.heap.size,0,none⟩=some (.int .i64 r.1):=HC0.out.1
    have y2 : V.cell? ⟨w.heap.size,1,none⟩=some (.int .i64 r.2):=HC0.out.2
    have HX:=Lib.hid hx
    have E:=fun w=>eq_id x.2.1 x.2.2 r.1 r.2 w
    by_cases hxr : x.2=r
    · have HE:=Lib.hid (look_hit hx HI.out hxr)
      have e1 : (x.2.1 == r.1 && x.2.2 == r.2)=true:=by rw [← hxr];simp
      rw [e1] at E
      clear hc1 hx hxr e1
      go_wp2_with fail
      go_quiet (fail)
      go_wp2_with fail
      go_ret
      exact ⟨_,rfl,.inr ⟨k,x,rfl,HX.out,HE.out⟩,by rw [World.drewN_drewN];exact below_drewN HB0.out _⟩
    · have e1 : (x.2.1 == r.1 && x.2.2 == r.2)=false:=by
       cases h : (x.2.1 == r.1 && x.2.2 == r.2) with
       | false=>rfl
       | true=>simp at h;exact absurd (Prod.ext h.1 h.2) hxr
      rw [e1] at E
      have HE:=Lib.hid (look_none_step hx HI.out hxr)
      clear hc1 hx hxr e1
      go_wp2_with fail
      go_quiet (fail)
      change Exit.then _ _ _ _ ((V.drewN m).drewN nq)
      have HW : Hid ((V.drewN m).drewN nq=V.drewN (m+nq)):=by show _=_;rw [World.drewN_drewN]
      generalize (V.drewN m).drewN nq=w3 at HW ⊢
      clear x1 x2 y1 y2
      go_wp2_with fail
      go_roundw
      case rel=>exact ⟨k+1,by go_num,by omega,HE,_,HW.out⟩
      case measure=>simp [intOf];omega
  · have HE : Hid (lookP L r=none):=by have:=HI.out;rwa [List.take_of_length_le (by rw [HN.out];omega)] at this
    go_wp2_with fail
    go_ret
    exact ⟨_,rfl,.inl ⟨rfl,HE.out⟩,below_drewN HB0.out _⟩
theorem dec_pair (a b c d : Int) : decide ((a,b)=(c,d))=(a == c && b == d):=by
 by_cases h1 : a=c <;> by_cases h2 : b=d <;> simp [h1,h2]
theorem dec_key (a b : ByteArray) : decide (a=b)=decide (a.toList=b.toList):=by
 have : a=b↔a.toList=b.toList:=⟨fun h=>by rw [h],fun h=>bytes_inj (by rw [← ByteArray.toList_eq,← ByteArray.toList_eq];exact h)⟩
 by_cases h : a=b
 · rw [decide_eq_true h,decide_eq_true (this.1 h)]
 · rw [decide_eq_false h,decide_eq_false (fun e=>h (this.2 e))]
theorem selem_any (x : OpI) (w : World) :
 Calls Tryz.prog 62 #[opIV x] w fun e w'=>e=.returned (.agg #[.int .i64 (elemP x).1,.int .i64 (elemP x).2])∧Below w.heap.size w w':=by
 have hres : Tryz.f62.results=#[.cell 2 24]:=by kernel_rfl
 unfold opIV elemP elP
 have HB : ∀ u v : Value,Hid (Below w.heap.size w ((w.alloc (.cells #[.int .i64 x.1.k,.int .i64 x.1.on,.int .i64 x.1.oa,.string x.1.key,.int .i64 x.1.en,.int .i64 x.1.ea,.bool x.1.ins,.int .i64 x.1.vk,.int .i64 x.1.vn,.string x.1.vt,.int .i64 x.1.va,.int .i64 x.1.vb,.slice x.1.A x.1.l.length x.1.c,.int .i64 x.2.1,.int .i64 x.2.2] 90)).alloc (.cells #[u,v] 24))):=fun u v=>((Below.refl _ w).alloc (Nat.le_refl _) _).alloc (by simp) _
 obtain ⟨b,hb⟩ : ∃ b,x.1.ins=b:=⟨_,rfl⟩
 rw [hb] at HB ⊢
 clear hb
 cases b with
 | true =>
   go_enter Tryz.func62,Tryz.ntmps62
   go_wp2_with fail
   refine bodyPost_ret (v:=.agg #[.int .i64 x.2.1,.int .i64 x.2.2]) ?_ rfl ⟨rfl,(HB _ _).out⟩
   simp only [results,hres]
   go_simp
 | false =>
   go_enter Tryz.func62,Tryz.ntmps62
   go_wp2_with fail
   refine bodyPost_ret (v:=.agg #[.int .i64 x.1.en,.int .i64 x.1.ea]) ?_ rfl ⟨rfl,(HB _ _).out⟩
   simp only [results,hres]
   go_simp
set_option maxHeartbeats 4000000 in
set_option maxRecDepth 20000 in
theorem splace_any (x y : OpI) (w : World) :
 Calls Tryz.prog 36 #[opIV x,opIV y] w fun e w'=>e=.returned (.bool (placeP x y))∧Below w.heap.size w w':=by
 have H1:=fun W=>selem_any x W
 have H2:=fun W=>selem_any y W
 unfold opIV at *
 have HQ1:=Lib.hid (Blk.new w 90 #[.int .i64 x.1.k,.int .i64 x.1.on,.int .i64 x.1.oa,.string x.1.key,.int .i64 x.1.en,.int .i64 x.1.ea,.bool x.1.ins,.int .i64 x.1.vk,.int .i64 x.1.vn,.string x.1.vt,.int .i64 x.1.va,.int .i64 x.1.vb,.slice x.1.A x.1.l.length x.1.c,.int .i64 x.2.1,.int .i64 x.2.2])
 have HQ2:=Lib.hid (Blk.new (w.alloc (.cells #[.int .i64 x.1.k,.int .i64 x.1.on,.int .i64 x.1.oa,.string x.1.key,.int .i64 x.1.en,.int .i64 x.1.ea,.bool x.1.ins,.int .i64 x.1.vk,.int .i64 x.1.vn,.string x.1.vt,.int .i64 x.1.va,.int .i64 x.1.vb,.slice x.1.A x.1.l.length x.1.c,.int .i64 x.2.1,.int .i64 x.2.2] 90)) 90 #[.int .i64 y.1.k,.int .i64 y.1.on,.int .i64 y.1.oa,.string y.1.key,.int .i64 y.1.en,.int .i64 y.1.ea,.bool y.1.ins,.int .i64 y.1.vk,.int .i64 y.1.vn,.string y.1.vt,.int .i64 y.1.va,.int .i64 y.1.vb,.slice y.1.A y.1.l.length y.1.c,.int .i64 y.2.1,.int .i64 y.2.2])
 have HB2 : Hid (Below w.heap.size w ((w.alloc (.cells #[.int .i64 x.1.k,.int .i64 x.1.on,.int .i64 x.1.oa,.string x.1.key,.int .i64 x.1.en,.int .i64 x.1.ea,.bool x.1.ins,.int .i64 x.1.vk,.int .i64 x.1.vn,.string x.1.vt,.int .i64 x.1.va,.int .i64 x.1.vb,.slice x.1.A x.1.l.length x.1.c,.int .i64 x.2.1,.int .i64 x.2.2] 90)).alloc (.cells #[.int .i64 y.1.k,.int .i64 y.1.on,.int .i64 y.1.oa,.string y.1.key,.int .i64 y.1.en,.int .i64 y.1.ea,.bool y.1.ins,.int .i64 y.1.vk,.int .i64 y.1.vn,.string y.1.vt,.int .i64 y.1.va,.int .i64 y.1.vb,.slice y.1.A y.1.l.length y.1.c,.int .i64 y.2.1,.int .i64 y.2.2] 90))):=((Below.refl _ w).alloc (Nat.le_refl _) _).alloc (by simp) _
 rw [World.size_alloc] at HQ2
 go_enter Tryz.func36,Tryz.ntmps36
 go_wp2_with fail
 go_at_call 62
 refine (H1 _).mono ?_
 rintro e w3 ⟨rfl,hb⟩
 replace HQ1:=Lib.hid ((HQ1.out.keep (Below.heap_alloc _ (.cells #[.int .i64 y.1.k,.int .i64 y.1.on,.int .i64 y.1.oa,.string y.1.key,.int .i64 y.1.en,.int .i64 y.1.ea,.bool y.1.ins,.int .i64 y.1.vk,.int .i64 y.1.vn,.string y.1.vt,.int .i64 y.1.va,.int .i64 y.1.vb,.slice y.1.A y.1.l.length y.1.c,.int .i64 y.2.1,.int .i64 y.2.2] 90) _ HQ1.out.lt)).keep (hb.block _ (by rw [World.size_alloc];exact Nat.lt_succ_of_lt HQ1.out.lt)))
 replace HQ2:=Lib.hid (HQ2.out.keep (hb.block _ HQ2.out.lt))
 have HB3 : Hid (Below w.heap.size w w3):=HB2.out.trans (hb.mono HB2.out.size)
 have hs3 : w.heap.size+1+1≤w3.heap.size:=by have:=hb.size;rwa [World.size_alloc,World.size_alloc] at this
 clear hb H1 HB2
 have y0 : w3.cell? ⟨w.heap.size+1,0,none⟩=some (.int .i64 y.1.k):=HQ2.out.cell 0
 have y1 : w3.cell? ⟨w.heap.size+1,1,none⟩=some (.int .i64 y.1.on):=HQ2.out.cell 1
 have y2 : w3.cell? ⟨w.heap.size+1,2,none⟩=some (.int .i64 y.1.oa):=HQ2.out.cell 2
 have y3 : w3.cell? ⟨w.heap.size+1,3,none⟩=some (.string y.1.key):=HQ2.out.cell 3
 have y4 : w3.cell? ⟨w.heap.size+1,4,none⟩=some (.int .i64 y.1.en):=HQ2.out.cell 4
 have y5 : w3.cell? ⟨w.heap.size+1,5,none⟩=some (.int .i64 y.1.ea):=HQ2.out.cell 5
 have y6 : w3.cell? ⟨w.heap.size+1,6,none⟩=some (.bool y.1.ins):=HQ2.out.cell 6
 have y7 : w3.cell? ⟨w.heap.size+1,7,none⟩=some (.int .i64 y.1.vk):=HQ2.out.cell 7
 have y8 : w3.cell? ⟨w.heap.size+1,8,none⟩=some (.int .i64 y.1.vn):=HQ2.out.cell 8
 have y9 : w3.cell? ⟨w.heap.size+1,9,none⟩=some (.string y.1.vt):=HQ2.out.cell 9
 have y10 : w3.cell? ⟨w.heap.size+1,10,none⟩=some (.int .i64 y.1.va):=HQ2.out.cell 10
 have y11 : w3.cell? ⟨w.heap.size+1,11,none⟩=some (.int .i64 y.1.vb):=HQ2.out.cell 11
 have y12 : w3.cell? ⟨w.heap.size+1,12,none⟩=some (.slice y.1.A y.1.l.length y.1.c):=HQ2.out.cell 12
 have y13 : w3.cell? ⟨w.heap.size+1,13,none⟩=some (.int .i64 y.2.1):=HQ2.out.cell 13
 have y14 : w3.cell? ⟨w.heap.size+1,14,none⟩=some (.int .i64 y.2.2):=HQ2.out.cell 14
 have hn1 : w.heap.size+1 < w3.heap.size:=by omega
 go_wp2_with fail
 clear y0 y1 y2 y3 y4 y5 y6 y7 y8 y9 y10 y11 y12 y13 y14
 go_at_call 62
 refine (H2 _).mono ?_
 rintro e w4 ⟨rfl,hb⟩
 generalize hex : elemP x=ex at *
 generalize hey : elemP y=ey at *
 have HEX:=Lib.hid hex
 have HEY:=Lib.hid hey
 clear hex hey
 have hbE:=Below.heap_alloc w3 (.cells #[.int .i64 ex.1,.int .i64 ex.2] 24)
 have hlt : ∀ j,j < w3.heap.size→w4.heap[j]?=w3.heap[j]?:=fun j hj=>(hb.block j (by rw [World.size_alloc];omega)).trans (hbE j hj)
 replace HQ1:=Lib.hid (HQ1.out.keep (hlt _ HQ1.out.lt))
 replace HQ2:=Lib.hid (HQ2.out.keep (hlt _ HQ2.out.lt))
 have HE1:=Lib.hid ((Blk.new w3 24 #[.int .i64 ex.1,.int .i64 ex.2]).keep (hb.block _ (by simp)))
 have HB4 : Hid (Below w.heap.size w w4):=(HB3.out.alloc HB3.out.size _).trans (hb.mono (by rw [World.size_alloc];omega))
 have hs4 : w3.heap.size+1≤w4.heap.size:=by have:=hb.size;rwa [World.size_alloc] at this
 clear hb hbE hlt H2 HB3
 have HB5 : Hid (Below w.heap.size w (w4.alloc (.cells #[.int .i64 ey.1,.int .i64 ey.2] 24))):=HB4.out.alloc HB4.out.size _
 have x1 : w4.cell? ⟨w.heap.size,1,none⟩=some (.int .i64 x.1.on):=HQ1.out.cell 1
 have x2 : w4.cell? ⟨w.heap.size,2,none⟩=some (.int .i64 x.1.oa):=HQ1.out.cell 2
 have x3 : w4.cell? ⟨w.heap.size,3,none⟩=some (.string x.1.key):=HQ1.out.cell 3
 have y1 : w4.cell? ⟨w.heap.size+1,1,none⟩=some (.int .i64 y.1.on):=HQ2.out.cell 1
 have y2 : w4.cell? ⟨w.heap.size+1,2,none⟩=some (.int .i64 y.1.oa):=HQ2.out.cell 2
 have y3 : w4.cell? ⟨w.heap.size+1,3,none⟩=some (.string y.1.key):=HQ2.out.cell 3
 have z0 : w4.cell? ⟨w3.heap.size,0,none⟩=some (.int .i64 ex.1):=HE1.out.cell 0
 have z1 : w4.cell? ⟨w3.heap.size,1,none⟩=some (.int .i64 ex.2):=HE1.out.cell 1
 have hn2 : w.heap.size < w4.heap.size:=by omega
 have hn3 : w.heap.size+1 < w4.heap.size:=by omega
 have hn4 : w3.heap.size < w4.heap.size:=by omega
 have E1:=fun w=>eq_id x.1.on x.1.oa y.1.on y.1.oa w
 have E2:=fun w=>eq_id ex.1 ex.2 ey.1 ey.2 w
 have HPL : Hid (placeP x y=(((x.1.on == y.1.on && x.1.oa == y.1.oa) && (decide (x.1.key.toList=y.1.key.toList))) && (ex.1 == ey.1 && ex.2 == ey.2))):=by
  show placeP x y=_
  unfold placeP objP
  rw [HEX.out,HEY.out,dec_pair,dec_key,show decide (ex=ey)=_ from dec_pair ex.1 ex.2 ey.1 ey.2]
 generalize (x.1.on == y.1.on && x.1.oa == y.1.oa)=b1 at *
 generalize (ex.1 == ey.1 && ex.2 == ey.2)=b3 at *
 cases b1
 · go_wp2_with fail
   go_ret
   exact ⟨by rw [HPL.out];rfl,HB5.out⟩
 · by_cases hk : x.1.key.toList=y.1.key.toList
   · rw [decide_eq_true hk] at HPL
     go_wp2_with fail
     go_ret
     exact ⟨by rw [HPL.out];rfl,HB5.out⟩
   · rw [decide_eq_false hk] at HPL
     go_wp2_with fail
     go_ret
     exact ⟨by rw [HPL.out];rfl,HB5.out⟩
end Go.Proofs.YtmpkejflgpodkaaGreatDoor
