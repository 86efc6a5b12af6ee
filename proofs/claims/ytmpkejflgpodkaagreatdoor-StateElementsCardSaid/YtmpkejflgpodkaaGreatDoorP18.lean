/- Contracts: a row of refs sorted, and turned round. -/
import Derived.Test.YtmpkejflgpodkaaGreatDoorP17
import Derived.Test.YtmpkejflgpodkaaGreatDoorShelf
import Derived.Shelf.SlSortCmp.WholeK
import Derived.Shelf.SlSortCmp.NoneTotal
import Derived.Test.YtmpkejflgpodkaaGreatDoorP12
import Derived.Test.YtmpkejflgpodkaaGreatDoorP16
import Derived.Test.YtmpkejflgpodkaaGreatDoorP15
import Derived.Test.YtmpkejflgpodkaaGreatDoorShelfJ
import Derived.Test.YtmpkejflgpodkaaGreatDoorP0
import Derived.WalkSmall
import Derived.Laws.OwnMore
import Derived.Deep.DeepCutAuto
import Derived.Test.YtmpkejflgpodkaaGreatDoorP1
set_option linter.unusedVariables false
set_option linter.unusedSimpArgs false
namespace Go.Proofs.YtmpkejflgpodkaaGreatDoor
open Go.ChangeShapes Go.WideShapes Go.ChangeAt Go.RowKit
def encR (r : Rf) : List Value:=[.int .i64 r.1,.int .i64 r.2]
def RefRow (w : World) (g : Nat) (l : List Rf) : Prop:=∀ j u,(refC l)[j]?=some u→w.cell? ⟨g,j,none⟩=some u∧w.frozen? ⟨g,j,none⟩=false
theorem refC_get (l : List Rf) (t : Nat) (h : t < l.length*2) : (refC l)[t]?=some ((encR (l.toArray[t / 2]!))[t % 2]!):=by
 obtain ⟨q,m,ht,hm⟩ : ∃ q m,t=q*2+m∧m < 2:=⟨t / 2,t % 2,by omega,by omega⟩
 subst ht
 rw [show (q*2+m) / 2=q from by omega,show (q*2+m) % 2=m from by omega]
 have hk : q < l.length:=by omega
 obtain ⟨h1,h2⟩:=refC_at (List.getElem?_eq_getElem hk)
 rw [getElem!_pos l.toArray q (by simpa using hk)]
 match m,hm with
 | 0,_=>simpa [encR] using h1
 | 1,_=>simpa [encR] using h2
theorem RefRow.holds {w : World} {g : Nat} {l : List Rf} (h : RefRow w g l) : Sort.HoldsK encR 2 w g 0 l.toArray:=by
 intro j hj
 have hj' : j < l.length*2:=by simpa using hj
 have:=h j _ (refC_get l j hj')
 rw [Sort.get_flatK encR 2 l.toArray j (by simpa using hj')]
 simpa using this
theorem RefRow.of_holds {w : World} {g : Nat} {l : List Rf} (h : Sort.HoldsK encR 2 w g 0 l.toArray) : RefRow w g l:=by
 intro j u hu
 have hj' : j < l.length*2:=by
  rcases Nat.lt_or_ge j (l.length*2) with h | h
  · exact h
  · rw [List.getElem?_eq_none (by rw [refC_length];exact h)] at hu;cases hu
 have h1:=h j (by simpa using hj')
 rw [Sort.get_flatK encR 2 l.toArray j (by simpa using hj')] at h1
 rw [refC_get l j hj'] at hu
 obtain rfl:=Option.some.inj hu
 simpa using h1
theorem RefRow.keep {w w' : World} {g : Nat} {l : List Rf} (h : RefRow w g l) (hk : w'.heap[g]?=w.heap[g]?) : RefRow w' g l:=fun j u hu=>by
 obtain ⟨h1,h2⟩:=h j u hu
 exact ⟨(World.cell?_of_block (w:=w) (a:=⟨g,j,none⟩) hk).trans h1,(World.frozen?_of_block (w:=w) (a:=⟨g,j,none⟩) hk).trans h2⟩
theorem RefRow.reads {w : World} {g : Nat} {l : List Rf} (h : RefRow w g l) : Reads (fun k=>k=g) w 2 (some ⟨g,0,none⟩) l.length (refC l) :=
 ⟨refC_length l,fun _=>⟨_,rfl,rfl,fun j u hu=>by
  have:=(h j u hu).1
  unfold Addr.add
  split
  · rename_i e;rw [e] at this;exact this
  · simpa using this⟩⟩
theorem sortWorld_chg {w : World} {g n : Nat} {d : Array Rf} {os : Array Obj} : Chg (fun k=>k=g) w (sortWorldK encR 2 w g 0 n d os):=by
 refine ⟨rfl,rfl,rfl,size_sortWorldK_c encR 2 w g 0 n d os,fun k hk hne=>?_⟩
 have e : (sortWorldK encR 2 w g 0 n d os).heap=(w.heap.modify g (Sort.onCells (Sort.putCells id 0 (Sort.flatK encR 2 d))))++os:=rfl
 rw [e,Array.getElem?_append_left (by simpa using hk),Array.getElem?_modify,if_neg (fun h=>hne h.symm)]
theorem encR_one (x : Rf) : ∀ v∈encR x,v.oneCell'=true:=by
 intro v hv
 simp only [encR,List.mem_cons,List.not_mem_nil,or_false] at hv
 rcases hv with rfl | rfl <;> rfl
theorem lt_cmp (x y : Rf) : ltOf cmpR x y=decide (x.1 < y.1∨x.1=y.1∧x.2 < y.2):=by
 unfold ltOf cmpR Lib.compareInt
 by_cases h1 : x.1 < y.1
 · simp [h1]
 · by_cases h2 : y.1 < x.1
   · have h3 : x.1≠y.1:=by omega
     simp [h1,h2,h3]
   · have h3 : x.1=y.1:=by omega
     by_cases h4 : x.2 < y.2
     · simp [h3,h4]
     · by_cases h5 : y.2 < x.2 <;> simp [h3,h4,h5]
theorem swo_cmp : Sort.SWO (ltOf cmpR) where
 irrefl x:=by rw [lt_cmp];simp
 trans x y z h1 h2:=by rw [lt_cmp] at *;simp only [decide_eq_true_eq] at *;omega
 ntrans x y z h1 h2:=by rw [lt_cmp] at *;simp only [decide_eq_false_iff_not] at *;omega
def AscW (l : List Rf) : Prop:=∀ (i j : Nat) (x y : Rf),i < j→l[i]?=some x→l[j]?=some y→¬ (y.1 < x.1∨y.1=x.1∧y.2 < x.2)
theorem sortA_any (g cap : Nat) (l : List Rf) (w : World) (h : RefRow w g l) (hg : g < w.heap.size) (hl : l.length≤1000000) :
 Calls Tryz.prog 131 #[.slice (some ⟨g,0,none⟩) l.length cap,.func (.func 132) #[] #[]] w fun e w' =>
  e=.returned (.tuple #[])∧∃ l',l'.Perm l∧AscW l'∧RefRow w' g l'∧Chg (fun k=>k=g) w w':=by
 have eg : ∀ args w,(callFunc 132 args).run Tryz.prog w=.ok (.enter 132 args) w:=enters_of Tryz.func132 (by kernel_rfl) (Option.some_get (show Tryz.f132.body.isSome=true by kernel_rfl)).symm
 have hc : CmpLays Tryz.prog 132 #[] encR 2 cmpR g 0 l.toArray.size w:=fun _ _ _ _ x y=>compareRefs_any x y _
 have:=AnyQ.slices_SortFunc Tryz.sortRef 2 Tryz.isAgg77 Tryz.sizeOf77 encR (fun _=>rfl) encR_one cmpR swo_cmp 132 #[] g 0 cap l.toArray w eg hc h.holds hg (by simp;omega)
 rw [show l.toArray.size=l.length from by simp] at this
 refine this.mono ?_
 rintro e w' ⟨rfl,d',n,os,hp,hs,rfl⟩
 have hsz : d'.size=l.length:=by simpa using hp.1
 refine ⟨rfl,d'.toList,?_,?_,RefRow.of_holds (by simpa using holdsK_sortWorldK_c encR 2 w g 0 l.toArray d' n os h.holds hg (by simpa using hsz)),sortWorld_chg⟩
 · have h1 : d'.extract 0 l.length=d':=by rw [← hsz];exact Array.extract_size
   have h2 : l.toArray.extract 0 l.length=l.toArray:=by
    have : l.length=l.toArray.size:=by simp
    rw [this];exact Array.extract_size
   have h3:=hp.2.2
   rw [h1,h2] at h3
   exact h3
 · intro i j x y hij hx hy
   have hj : j < l.length:=by
    rw [← hsz]
    rcases Nat.lt_or_ge j d'.size with h | h
    · exact h
    · rw [List.getElem?_eq_none (by simpa using h)] at hy;cases hy
   have h1:=hs i j (Nat.zero_le _) hij hj
   have ex : d'[i]! = x:=by
    rw [Array.getElem?_toList] at hx
    rw [Array.getElem!_eq_getD,Array.getD_eq_getD_getElem?,hx];rfl
   have ey : d'[j]! = y:=by
    rw [Array.getElem?_toList] at hy
    rw [Array.getElem!_eq_getD,Array.getD_eq_getD_getElem?,hy];rfl
   rw [lt_cmp,ex,ey] at h1
   simpa using h1
end Go.Proofs.YtmpkejflgpodkaaGreatDoor
namespace Go.Proofs.YtmpkejflgpodkaaGreatDoor
open Go.ChangeShapes Go.WideShapes Go.ChangeAt Go.RowKit
def kv (p : Rf × Value) : Value × Value:=(refV p.1,p.2)
theorem sortNone (p : Option Addr) (cap : Nat) (fv : Value) (w : World) : Calls Tryz.prog 131 #[.slice p 0 cap,fv] w fun e w'=>e=.returned (.tuple #[])∧w'=w:=by
 have:=AnyF.slices_SortFunc_none Tryz.sortRef p cap fv w
 exact this
theorem wpK_next (w : World) {ops : Array Oper} {rest : List Oper} {o : Oper} {a : Act} {Q : Exit→Act→World→Prop} (hg : o.guard=none) (it : Operand) (hop : o.op=Op.next it false) (b r : Nat) (K todo : List (Rf × Value)) (hit : a.eval it=.pointer (some ⟨r,0,none⟩)) (h : IterL w 77 b r (K.map kv) (todo.map kv))
 (hDone : todo=[]→wpList Tryz.prog ops Q rest (a.put o.dst (.tuple #[.bool false])) w)
 (hMore : ∀ (x : Rf × Value) (todo' : List (Rf × Value)) (w' : World),todo.Perm (x::todo')→IterL w' 77 b r (K.map kv) (todo'.map kv)→w.grownBy w' (some r)→w'.heap.size=w.heap.size →
   (Instr.entry (.pointer (some ⟨r,0,none⟩))).run Tryz.prog w'=.ok (.tuple #[.agg #[.int .i64 x.1.1,.int .i64 x.1.2],x.2]) w'→wpList Tryz.prog ops Q rest (a.put o.dst (.tuple #[.bool true,.agg #[.int .i64 x.1.1,.int .i64 x.1.2],x.2])) w') :
 wpList Tryz.prog ops Q (o::rest) a w:=by
 refine wpL_next w hg it hop _ b r _ _ hit h (fun e=>hDone (List.map_eq_nil_iff.1 e)) fun key v todo' w' hp hI hg hs hen=>?_
 obtain ⟨x,t',hx,hp1,hp2⟩:=perm_unmap _ hp
 have e1 : refV x.1=key:=congrArg Prod.fst hx
 have e2 : x.2=v:=congrArg Prod.snd hx
 subst e1 e2
 exact hMore x t' w' hp1 (hI.perm hp2) hg hs hen
set_option maxHeartbeats 2000000 in
set_option maxRecDepth 20000 in
theorem rising_any (K : List (Rf × Value)) (b : Nat) (w : World) (h : MapL w 77 b (K.map kv)) (hl : K.length≤1000000) :
 Calls Tryz.prog 87 #[.map (some b)] w fun e w'=>∃ A c S,e=.returned (.slice A S.length c)∧S.Perm (K.map Prod.fst)∧AscW S∧(S=[]∨∃ g,w.heap.size≤g∧g < w'.heap.size∧A=some ⟨g,0,none⟩∧RefRow w' g S∧S.length≤c∧c≤9223372036854775807)∧Below w.heap.size w w':=by
 have HM:=Lib.hid h
 go_enter Tryz.func87,Tryz.ntmps87
 go_wp2_with (refine wpL_range w rfl (.tmp 5) 159 rfl 77 82 Tryz.underlying159 b (K.map kv) rfl HM.out ?_;intro w1 hI1 hb1 hs1)
 have HI1:=Lib.hid hI1
 have HB1:=Lib.hid hb1
 clear hI1 hb1 h
 simp only [Act.put,List.setIfInBounds_toArray,List.set_cons_zero,List.set_cons_succ]
 go_loopw [3,4] (fun s3 _ wr=>∃ done todo : List (Rf × Value),Hid ((done++todo).Perm K)∧Hid (IterL wr 77 b w.heap.size (K.map kv) (todo.map kv))∧Hid (wr.ownsRow (w.heap.size+1) 77 2 s3 done.length (refC (done.map Prod.fst)))∧Hid (Below w.heap.size w wr)) (fun s3 _ _=>K.length - slen s3)
 case atStart=>exact ⟨[],K,List.Perm.refl _,HI1,own_nil _ _ _ _,HB1⟩
 case round =>
  clear HI1 HB1
  obtain ⟨done,todo,HP,HI,HO,HW⟩:=hrel
  have hlen : done.length+todo.length=K.length:=by rw [← List.length_append];exact HP.out.length_eq
  go_wp2_with (refine wpK_next _ rfl (.tmp 6) rfl b w.heap.size K todo rfl HI.out ?_ ?_)
  · intro ht
    subst ht
    have HPD : Hid (done.Perm K):=by have:=HP.out;rwa [List.append_nil] at this
    obtain ⟨Ao,co,hv,hco,hcm,-⟩:=Reads.of_own HO.out
    have HCO : Hid (done.length≤co∧co≤9223372036854775807):=⟨hco,by simpa [maxLen] using hcm⟩
    subst hv
    clear hcm
    have HDN : Hid (done.length=K.length):=HPD.out.length_eq
    clear hlen
    go_wp2_with fail
    by_cases h0 : done.length=0
    · have hd0 : done=[]:=List.length_eq_zero_iff.1 h0
      rw [h0]
      go_at_call 131
      refine (sortNone Ao co _ wr).mono ?_
      rintro e w2 ⟨rfl,rfl⟩
      go_wp2_with fail
      go_ret
      exact ⟨Ao,co,[],rfl,by have:=HPD.out;rw [hd0] at this;rw [List.nil_perm.1 this];exact List.Perm.refl _,fun i j x y _ hx=>by simp at hx,.inl rfl,HW.out⟩
    · obtain ⟨g,cap,hA,hg1,hg2⟩:=HO.out.form (by omega)
      simp only [Value.slice.injEq,true_and] at hA
      obtain ⟨rfl,rfl⟩:=hA
      have hrow : RefRow wr g (done.map Prod.fst):=fun j u hu=>by
       have hj : j < done.length*2:=by
        rcases Nat.lt_or_ge j (done.length*2) with h | h
        · exact h
        · rw [List.getElem?_eq_none (by rw [refC_length,List.length_map];exact h)] at hu;cases hu
       exact ⟨(World.ownsRow.cellAt HO.out j hj).trans hu,World.ownsRow.frozenAt HO.out j⟩
      have C1:=sortA_any g co (done.map Prod.fst) wr hrow hg2 (by rw [List.length_map,HDN.out];exact hl)
      rw [List.length_map] at C1
      go_at_call 131
      refine C1.mono ?_
      rintro e w2 ⟨rfl,S,hp,hasc,hrow2,hch⟩
      have HLS : Hid (S.length=done.length):=by show _=_;rw [hp.length_eq,List.length_map]
      have HW2 : Hid (Below w.heap.size w w2):=HW.out.trans (hch.below HW.out.size fun k hk=>by rw [hk];omega)
      have HS : Hid (S.Perm (K.map Prod.fst)):=hp.trans (HPD.out.map _)
      have HAS:=Lib.hid hasc
      have HRW:=Lib.hid hrow2
      have hsz2:=hch.size
      clear hp hasc hrow2 hch C1 hrow
      go_wp2_with fail
      go_ret
      exact ⟨_,co,S,by rw [HLS.out];rfl,HS.out,HAS.out,.inr ⟨g,by omega,by omega,rfl,HRW.out,by rw [HLS.out];exact HCO.out.1,HCO.out.2⟩,HW2.out⟩
  · intro a1 a2 v todo' w2 hp hI2 hg2 hs2 hen
    have HI2:=Lib.hid hI2
    have HW2 : Hid (Below w.heap.size w w2):=HW.out.grown hg2 HW.out.size (fun k hk=>by cases hk;exact Nat.le_refl _)
    have hwl : w.heap.size < w2.heap.size:=by have:=HI2.out.lt;omega
    have HO2 : Hid (w2.ownsRow (w.heap.size+1) 77 2 _ done.length (refC (done.map Prod.fst))):=HO.out.kept hg2 (by
     cases ho : Value.ownBlock _ with
     | none=>exact .inl rfl
     | some k=>exact .inr (fun e=>by cases e;have:=(own_lt HO.out ho).1;omega))
    clear hI2 hg2 HI HO HW
    have hbl : b < w.heap.size:=HM.out.lt
    obtain ⟨Ao,co,hv,hco,-,-⟩:=Reads.of_own HO2.out
    subst hv
    clear hs2
    go_upto_region 5 with fail
    have HW3 : Hid (Below w.heap.size w (w2.alloc (.cells #[.int .i64 a1,.int .i64 a2] 77))):=HW2.out.alloc HW2.out.size _
    have HQ3 : Hid (Blk (w2.alloc (.cells #[.int .i64 a1,.int .i64 a2] 77)) w2.heap.size 77 #[.int .i64 a1,.int .i64 a2]):=Blk.new w2 _ _
    have HI3 : Hid (IterL (w2.alloc (.cells #[.int .i64 a1,.int .i64 a2] 77)) 77 b w.heap.size (K.map kv) (todo'.map kv)):=HI2.out.keep (Below.heap_alloc _ _ _ (by omega)) (Below.heap_alloc _ _ _ hwl)
    have HO3:=Lib.hid (HO2.out.alloc (.cells #[.int .i64 a1,.int .i64 a2] 77))
    clear HW2 HI2 HO2 hen
    have hw3 : (w2.alloc (.cells #[.int .i64 a1,.int .i64 a2] 77)).heap.size=w2.heap.size+1:=by simp
    generalize w2.alloc (.cells #[.int .i64 a1,.int .i64 a2] 77)=w3 at HW3 HQ3 HI3 HO3 hw3 ⊢
    generalize hB2 : w2.heap.size=B2 at HQ3 hwl hw3 ⊢
    clear hB2
    have hw4 : w.heap.size < w3.heap.size:=by omega
    clear hw3
    have r1 : w3.cell? ⟨B2,0,none⟩=some (.int .i64 a1):=HQ3.out.cell 0
    have r2 : w3.cell? ⟨B2,1,none⟩=some (.int .i64 a2):=HQ3.out.cell 1
    obtain ⟨i0,hi,hz0,hz1,hz2⟩:=info_parts infoRef
    go_wp2_with (at_builtin;refine wpList_append_any _ rfl (.tmp 11) (.tmp 13) _ rfl (w.heap.size+1) 77 i0 _ 2 16 Tryz.underlying79 hi hz0 hz1 hz2 rfl (by omega) (.slice Ao done.length co) (done.length) (refC (done.map Prod.fst)) rfl (HO3.out.alloc _) _ (some ⟨w3.heap.size,0,none⟩) (1) (1) ([.int .i64 a1,.int .i64 a2]) rfl ((blk_reads (by exact Blk.new w3 _ #[.int .i64 a1,.int .i64 a2]) (n:=2) rfl)) ((by intro u hu;exact refC_one [(a1,a2)] u (by simpa [refC] using hu))) ?c1 ?c2 ?c3 ?_)
    try case c1=>simp only [maxLen];have:=hlen;omega
    try case c2=>have:=hlen;omega
    try case c3=>simp;omega
    intro v4 w4 ho4 hg4 hat4
    have hbk : Below (w.heap.size+1) w3 w4:=((Below.refl _ w3).alloc (by omega) _).grown hg4 (by simp;omega) (fun k hk=>(own_lt HO3.out hk).1)
    have HW4 : Hid (Below w.heap.size w w4):=HW3.out.trans (hbk.mono (Nat.le_succ _))
    have HI4 : Hid (IterL w4 77 b w.heap.size (K.map kv) (todo'.map kv)):=HI3.out.keep (hbk.block _ (by omega)) (hbk.block _ (by omega))
    have HO4 : Hid (w4.ownsRow (w.heap.size+1) 77 2 v4 (done++[((a1,a2),v)]).length (refC ((done++[((a1,a2),v)]).map Prod.fst))):=by
     show World.ownsRow _ _ _ _ _ _ _
     rw [List.length_append,List.map_append,refC_append]
     simpa [refC] using ho4
    have HP2 : Hid (((done++[((a1,a2),v)])++todo').Perm K):=by
     show List.Perm _ _
     rw [List.append_assoc]
     exact (hp.symm.append_left done).trans HP.out
    have hsl : slen v4=done.length+1:=by
     obtain ⟨_,_,hv,_⟩:=Reads.of_own ho4
     rw [hv];rfl
    have hdl : done.length < K.length:=by have:=hp.length_eq;simp only [List.length_cons] at this;omega
    clear ho4 hg4 hat4 hbk r1 r2 HQ3 HI3 HO3 HW3
    go_wp2_with fail
    go_roundw
    case rel=>exact ⟨done++[((a1,a2),v)],todo',HP2,HI4,HO4,HW4⟩
    case measure =>
     show K.length - slen v4 < K.length - slen (.slice Ao done.length co)
     rw [hsl]
     show K.length - (done.length+1) < K.length - done.length
     omega
end Go.Proofs.YtmpkejflgpodkaaGreatDoor
namespace Go.Proofs.YtmpkejflgpodkaaGreatDoor
open Go.ChangeShapes Go.WideShapes Go.ChangeAt Go.RowKit
set_option maxRecDepth 20000 in
theorem new_any (w : World) :
 Calls Tryz.prog 83 #[] w fun e w'=>∃ g bh bw bb,e=.returned (.pointer (some ⟨g,0,none⟩))∧Blk w' g 162 #[.map (some bh),.map (some bw),.map (some bb)]∧HasL w' bh []∧HasL w' bw []∧MapL w' 77 bb []∧(bh≠bw∧bh≠bb∧bw≠bb)∧(w.heap.size≤bh∧w.heap.size≤bw∧w.heap.size≤bb∧w.heap.size≤g)∧Below w.heap.size w w':=by
 have hmm : ∀ (t : TypeId) (w : World),(Instr.makeMap t none).run Tryz.prog w=.ok (.map (some w.heap.size)) (w.alloc (.map #[] 0)):=fun _ _=>rfl
 have h1 : HasL (w.alloc (.map #[] 0)) w.heap.size []:=MapL.made w _
 have hb1 : Below w.heap.size w (w.alloc (.map #[] 0)):=(Below.refl _ w).alloc (Nat.le_refl _) _
 have hz1 : (w.alloc (.map #[] 0)).heap.size=w.heap.size+1:=by simp
 generalize hw1 : w.alloc (.map #[] 0)=w1 at h1 hb1 hz1
 have h2 : HasL (w1.alloc (.map #[] 0)) w1.heap.size []:=MapL.made w1 _
 have hb2:=(Below.refl w1.heap.size w1).alloc (Nat.le_refl _) (.map #[] 0)
 have hz2 : (w1.alloc (.map #[] 0)).heap.size=w1.heap.size+1:=by simp
 generalize hw2 : w1.alloc (.map #[] 0)=w2 at h2 hb2 hz2
 have h3 : MapL (w2.alloc (.map #[] 0)) 77 w2.heap.size []:=MapL.made w2 _
 have hb3:=(Below.refl w2.heap.size w2).alloc (Nat.le_refl _) (.map #[] 0)
 have hz3 : (w2.alloc (.map #[] 0)).heap.size=w2.heap.size+1:=by simp
 generalize hw3 : w2.alloc (.map #[] 0)=w3 at h3 hb3 hz3
 have hq:=Blk.new w3 162 #[.map (some w.heap.size),.map (some w1.heap.size),.map (some w2.heap.size)]
 have hb4:=(Below.refl w3.heap.size w3).alloc (Nat.le_refl _) (.cells #[.map (some w.heap.size),.map (some w1.heap.size),.map (some w2.heap.size)] 162)
 have HZ:=Lib.hid (And.intro hz1 (And.intro hz2 hz3))
 clear hz1 hz2 hz3
 go_enter Tryz.func83,Tryz.ntmps83
 go_wp2_with fail
 go_ret
 obtain ⟨hz1,hz2,hz3⟩:=HZ.out
 have l1:=MapL.lt h1
 have l2:=MapL.lt h2
 have l3:=MapL.lt h3
 have k1 : HasL w3 w.heap.size []:=MapL.keep (MapL.keep h1 (hb2.block _ (by omega))) (hb3.block _ (by omega))
 have k2 : HasL w3 w1.heap.size []:=MapL.keep h2 (hb3.block _ (by omega))
 refine ⟨w3.heap.size,w.heap.size,w1.heap.size,w2.heap.size,rfl,hq,MapL.keep k1 (hb4.block _ (MapL.lt k1)),MapL.keep k2 (hb4.block _ (MapL.lt k2)),MapL.keep h3 (hb4.block _ l3),⟨by omega,by omega,by omega⟩,⟨by omega,by omega,by omega,by omega⟩,?_⟩
 exact ((hb1.trans (hb2.mono (by omega))).trans (hb3.mono (by omega))).trans (hb4.mono (by omega))
def NF (w : World) (bh bw bb k : Nat) : Prop:=k < w.heap.size∧k≠bh∧k≠bw∧k≠bb
structure PB (w : World) (g bh bw bb : Nat) (X : List (ChD × Nat × List Rf)) (W : List ChD) : Prop where
 blk : Blk w g 162 #[.map (some bh),.map (some bw),.map (some bb)]
 mh : HasL w bh (X.map Prod.fst)
 mw : HasL w bw W
 mb : MapL w 77 bb (X.map fun x=>(refV x.1.rf,.map (some x.2.1)))
 ne : bh≠bw∧bh≠bb∧bw≠bb
 sets : ∀ x∈X,SetM w x.2.1 x.2.2∧NF w bh bw bb x.2.1∧∀ r,r∈x.2.2↔r∈behindP (X.map Prod.fst) [x.1.rf]
 inL : ∀ x∈X,ChIn (NF w bh bw bb) w x.1
 inW : ∀ c∈W,ChIn (NF w bh bw bb) w c
theorem NF.more {w w' : World} {bh bw bb k : Nat} (h : NF w bh bw bb k) (hs : w.heap.size≤w'.heap.size) : NF w' bh bw bb k:=⟨Nat.lt_of_lt_of_le h.1 hs,h.2⟩
theorem PB.below {w w' : World} {g bh bw bb : Nat} {X : List (ChD × Nat × List Rf)} {W : List ChD} (h : PB w g bh bw bb X W) (hb : Below w.heap.size w w') : PB w' g bh bw bb X W :=
 ⟨h.blk.keep (hb.block _ h.blk.lt),MapL.keep h.mh (hb.block _ (MapL.lt h.mh)),MapL.keep h.mw (hb.block _ (MapL.lt h.mw)),MapL.keep h.mb (hb.block _ (MapL.lt h.mb)),h.ne,
  fun x hx=>⟨(h.sets x hx).1.keep (hb.block _ (h.sets x hx).2.1.1),(h.sets x hx).2.1.more hb.size,(h.sets x hx).2.2⟩,
  fun x hx=>((h.inL x hx).keep fun k hk=>hb.block k hk.1).more fun k hk=>hk.more hb.size,
  fun c hc=>((h.inW c hc).keep fun k hk=>hb.block k hk.1).more fun k hk=>hk.more hb.size⟩
theorem PB.hb {w : World} {g bh bw bb : Nat} {X : List (ChD × Nat × List Rf)} {W : List ChD} (h : PB w g bh bw bb X W) : HB w g bh (.map (some bw)) (.map (some bb)) (X.map Prod.fst):=⟨h.blk,h.mh⟩
theorem PB.nil {w : World} {g bh bw bb : Nat} (hb : Blk w g 162 #[.map (some bh),.map (some bw),.map (some bb)]) (h1 : HasL w bh []) (h2 : HasL w bw []) (h3 : MapL w 77 bb []) (hn : bh≠bw∧bh≠bb∧bw≠bb) : PB w g bh bw bb [] [] :=
 ⟨hb,h1,h2,h3,hn,(fun _ h=>by cases h),(fun _ h=>by cases h),(fun _ h=>by cases h)⟩
end Go.Proofs.YtmpkejflgpodkaaGreatDoor
namespace Go.Proofs.YtmpkejflgpodkaaGreatDoor
open Go.RowKit
theorem toList_inj {a b : ByteArray} (h : (a.toList == b.toList)=true) : a=b:=by
 have h':=eq_of_beq h
 rw [ByteArray.toList_eq,ByteArray.toList_eq] at h'
 obtain ⟨⟨x⟩⟩:=a
 obtain ⟨⟨y⟩⟩:=b
 have h2 : x=y:=h'
 rw [h2]
theorem sameO_iff (x y : OpD) : sameO x y=true↔base x=base y:=by
 obtain ⟨k,on,oa,key,en,ea,ins,vk,vn,vt,va,vb,A,c,l⟩:=x
 obtain ⟨k',on',oa',key',en',ea',ins',vk',vn',vt',va',vb',A',c',l'⟩:=y
 simp only [sameO,idE,valE,base,Bool.and_eq_true,beq_iff_eq,decide_eq_true_eq,OpD.mk.injEq,true_and]
 constructor
 · rintro ⟨h1,⟨h2,h3⟩,h4,⟨h5,h6⟩,h7,⟨h8,h9,h10,h11,h12⟩,h13⟩
   exact ⟨h1,h2,h3,toList_inj (by simpa using h4),h5,h6,h7,h8,h9,toList_inj (by simpa using h10),h11,h12,h13⟩
 · rintro ⟨h1,h2,h3,rfl,h5,h6,h7,h8,h9,rfl,h11,h12,h13⟩
   exact ⟨h1,⟨h2,h3⟩,rfl,⟨h5,h6⟩,h7,⟨h8,h9,rfl,h11,h12⟩,h13⟩
theorem sameOs_iff : ∀ (l m : List OpD),sameOs l m=true↔l.map base=m.map base
 | [],[]=>by simp [sameOs]
 | [],_::_=>by simp [sameOs]
 | _::_,[]=>by simp [sameOs]
 | x::l,y::m=>by
   simp only [sameOs,Bool.and_eq_true,List.map_cons,List.cons.injEq]
   rw [sameO_iff,sameOs_iff l m]
theorem enc_inj {c d : ChD} (hc : c.err=0) (hd : d.err=0) (hcv : ∀ o∈c.ops,(Lit.int .i64 o.vn).wf=true) (hdv : ∀ o∈d.ops,(Lit.int .i64 o.vn).wf=true) (h : c.enc=d.enc) :
 c.st=d.st∧c.deps=d.deps∧c.ops.map base=d.ops.map base:=by
 have h1:=read_back (show chgE c.a c.s c.st c.deps c.ops=0 from hc) hcv []
 have h2:=read_back (show chgE d.a d.s d.st d.deps d.ops=0 from hd) hdv []
 rw [show encL c.a c.s c.st c.deps c.ops=encL d.a d.s d.st d.deps d.ops from h,h2] at h1
 simp only [Rd.mk.injEq] at h1
 obtain ⟨_,_,h3,h4,h5,_⟩:=h1
 have b1:=(err_ok hc).1
 have b2:=(err_ok hd).1
 exact ⟨by omega,h4.symm,h5.symm⟩
theorem sameC_enc {c d : ChD} (hc : c.err=0) (hd : d.err=0) (hcv : ∀ o∈c.ops,(Lit.int .i64 o.vn).wf=true) (hdv : ∀ o∈d.ops,(Lit.int .i64 o.vn).wf=true) (hr : c.rf=d.rf) : sameC c d=decide (c.enc=d.enc):=by
 have hr1 : c.a=d.a:=congrArg Prod.fst hr
 have hr2 : c.s=d.s:=congrArg Prod.snd hr
 by_cases he : c.enc=d.enc
 · obtain ⟨h1,h2,h3⟩:=enc_inj hc hd hcv hdv he
   rw [decide_eq_true he]
   unfold sameC
   rw [(sameOs_iff _ _).2 h3,h1,h2]
   simp
 · rw [decide_eq_false he]
   cases h : sameC c d with
   | false=>rfl
   | true =>
     unfold sameC at h
     simp only [Bool.and_eq_true,beq_iff_eq,decide_eq_true_eq] at h
     obtain ⟨h1,h2,h3⟩:=h
     refine absurd ?_ he
     unfold ChD.enc
     rw [hr1,hr2,h1,h2]
     exact encL_base ((sameOs_iff _ _).1 h3)
end Go.Proofs.YtmpkejflgpodkaaGreatDoor
namespace Go.Proofs.YtmpkejflgpodkaaGreatDoor
open Go.RowKit
theorem base_rf (c : ChD) : c.base.rf=c.rf:=rfl
theorem base_err (c : ChD) : c.base.err=c.err:=chgE_base (base_base c.ops)
theorem base_enc (c : ChD) : c.base.enc=c.enc:=encL_base (base_base c.ops)
def bI (x : OpI) : OpI:=(base x.1,x.2)
theorem idsFrom_base : ∀ (a st : Int) (l : List OpD),idsFrom a st (l.map base)=(idsFrom a st l).map bI
 | _,_,[]=>rfl
 | a,st,o::l=>by simp only [List.map_cons,idsFrom,idsFrom_base a (st+1) l];rfl
theorem base_opsI (c : ChD) : c.base.opsI=c.opsI.map bI:=idsFrom_base c.a c.st c.ops
theorem refs_base (L : List ChD) : refsOf (L.map ChD.base)=refsOf L:=by
 unfold refsOf
 rw [List.map_map]
 rfl
theorem back_base : ∀ (L : List ChD) (w : List Rf),back (L.map ChD.base) w=back L w
 | [],_=>rfl
 | c::L,w=>by
   simp only [List.map_cons,back,base_rf,back_base L]
   rfl
theorem behind_base (L : List ChD) (hs : List Rf) : behindP (L.map ChD.base) hs=behindP L hs:=by
 unfold behindP
 rw [← List.map_reverse]
 exact back_base _ _
theorem known_base (L : List ChD) (R : List Rf) : knownP (L.map ChD.base) R=(knownP L R).map bI:=by
 unfold knownP
 induction L with
 | nil=>rfl
 | cons c L ih =>
   by_cases h : c.rf∈R
   · simp only [List.map_cons,List.filter_cons,base_rf,h,decide_true,if_true,List.flatMap_cons,List.map_append,base_opsI]
     rw [ih]
   · simp only [List.map_cons,List.filter_cons,base_rf,h,decide_false,Bool.false_eq_true,if_false]
     exact ih
theorem look_base (l : List OpI) (n : Rf) : lookP (l.map bI) n=(lookP l n).map bI:=by
 unfold lookP
 induction l with
 | nil=>rfl
 | cons x l ih =>
   by_cases h : x.2=n
   · simp [bI,h]
   · simp only [List.map_cons,List.find?_cons,show (bI x).2=x.2 from rfl,decide_eq_false h]
     exact ih
theorem kind_base (x : OpI) (K : List OpI) : kindP (bI x) (K.map bI)=kindP x K:=by
 unfold kindP
 rw [show objP (bI x)=objP x from rfl,look_base]
 cases lookP K (objP x) <;> rfl
theorem elem_base (x : OpI) (K : List OpI) : elemOkP (bI x) (K.map bI)=elemOkP x K:=by
 unfold elemOkP
 rw [show elP (bI x)=elP x from rfl,look_base]
 cases lookP K (elP x) <;> rfl
theorem pred_base (x : OpI) (K : List OpI) (p : Rf) : predOkP (bI x) (K.map bI) p=predOkP x K p:=by
 unfold predOkP
 rw [look_base]
 cases lookP K p <;> rfl
theorem may_base (x : OpI) (K : List OpI) : mayP (bI x) (K.map bI)=mayP x K:=by
 unfold mayP
 rw [kind_base,elem_base]
 cases kindP x K with
 | none=>rfl
 | some kd =>
   show (keyOkP x kd && elemOkP x K && x.1.l.all (predOkP (bI x) (K.map bI)))=_
   rw [show predOkP (bI x) (K.map bI)=predOkP x K from funext (pred_base x K)]
theorem fitOps_base : ∀ (l K : List OpI),fitOps (l.map bI) (K.map bI)=fitOps l K
 | [],_=>rfl
 | x::l,K=>by
   simp only [List.map_cons,fitOps,may_base]
   have:=fitOps_base l (K++[x])
   rw [List.map_append] at this
   rw [← this]
   rfl
theorem fits_base (L : List ChD) (c : ChD) : fitsP (L.map ChD.base) c.base=fitsP L c:=by
 unfold fitsP fitsIn
 rw [show c.base.deps=c.deps from rfl,behind_base,known_base,base_opsI,fitOps_base]
 rw [List.all_map]
 rfl
theorem ready_base (L : List ChD) (c : ChD) : readyP (L.map ChD.base) c.base=readyP L c:=by
 unfold readyP
 rw [refs_base]
 rfl
theorem leastGo_base (p q : ChD→Bool) (h : ∀ c,p c.base=q c) : ∀ (W : List ChD) (i : Nat) (b : Option (Nat × Rf)),leastGo p (W.map ChD.base) i b=leastGo q W i b
 | [],_,_=>rfl
 | c::W,i,b=>by
   simp only [List.map_cons,leastGo,h,base_rf]
   exact leastGo_base p q h W _ _
theorem least_base (L W : List ChD) : leastAt (readyP (L.map ChD.base)) (W.map ChD.base)=leastAt (readyP L) W:=leastGo_base _ _ (ready_base L) W 0 none
theorem eraseIdx_base {α β : Type} (f : α→β) : ∀ (l : List α) (i : Nat),(l.map f).eraseIdx i=(l.eraseIdx i).map f
 | [],_=>rfl
 | _::_,0=>rfl
 | a::l,i+1=>by simp only [List.map_cons,List.eraseIdx_cons_succ,eraseIdx_base f l i]
theorem settle_base : ∀ (n : Nat) (L W : List ChD),settle n (L.map ChD.base) (W.map ChD.base)=((settle n L W).1.map ChD.base,(settle n L W).2.map ChD.base)
 | 0,_,_=>rfl
 | n+1,L,W=>by
   unfold settle
   rw [least_base]
   cases leastAt (readyP L) W with
   | none=>rfl
   | some b =>
     obtain ⟨i,r⟩:=b
     simp only [List.getElem?_map]
     cases W[i]? with
     | none=>rfl
     | some x =>
       simp only [Option.map_some,fits_base]
       have h1:=settle_base n (L++[x]) (W.eraseIdx i)
       have h2:=settle_base n L (W.eraseIdx i)
       rw [List.map_append] at h1
       rw [eraseIdx_base]
       cases fitsP L x with
       | true=>simp only [if_true];exact h1
       | false=>simp only [Bool.false_eq_true,if_false];exact h2
theorem find_base (L : List ChD) (r : Rf) : findC (L.map ChD.base) r=(findC L r).map ChD.base:=by
 unfold findC
 induction L with
 | nil=>rfl
 | cons c L ih =>
   by_cases h : c.rf=r
   · simp [base_rf,h]
   · rw [List.map_cons,List.find?_cons,List.find?_cons,base_rf,decide_eq_false h]
     exact ih
theorem sameE_base (c d : ChD) : sameE c.base d.base=sameE c d:=by
 unfold sameE
 rw [base_enc,base_enc]
theorem take_base (L W : List ChD) (c : ChD) : takeP (L.map ChD.base) (W.map ChD.base) c.base=(((takeP L W c).1.1.map ChD.base,(takeP L W c).1.2.map ChD.base),(takeP L W c).2):=by
 unfold takeP
 rw [base_err,base_rf]
 by_cases he : c.err≠0
 · rw [if_pos he,if_pos he]
 rw [if_neg he,if_neg he,find_base,find_base]
 cases h1 : findC L c.rf with
 | some d=>simp only [Option.map_some,sameE_base]
 | none =>
   cases h2 : findC W c.rf with
   | some d=>simp only [Option.map_some,Option.map_none,sameE_base]
   | none =>
     simp only [Option.map_none,List.length_map]
     by_cases h3 : 120≤L.length+W.length
     · rw [if_pos h3,if_pos h3]
     rw [if_neg h3,if_neg h3,ready_base,fits_base]
     cases readyP L c with
     | false=>simp
     | true =>
       cases fitsP L c with
       | false=>simp
       | true =>
         simp only [Bool.true_eq_false,if_false]
         have:=settle_base W.length (L++[c]) W
         rw [List.map_append] at this
         rw [show L.map ChD.base++[c.base]=L.map ChD.base++[c].map ChD.base from rfl,this]
theorem next_base (L out : List ChD) (c : ChD) : nextP (L.map ChD.base) (out.map ChD.base) c.base=nextP L out c:=by
 unfold nextP
 rw [refs_base]
 rfl
theorem allGo_base (L : List ChD) : ∀ (n : Nat) (out : List ChD),allGo (L.map ChD.base) n (out.map ChD.base)=(allGo L n out).map ChD.base
 | 0,_=>rfl
 | n+1,out=>by
   unfold allGo
   rw [show leastAt (nextP (L.map ChD.base) (out.map ChD.base)) (L.map ChD.base)=leastAt (nextP L out) L from leastGo_base _ _ (next_base L out) L 0 none]
   cases leastAt (nextP L out) L with
   | none=>rfl
   | some b =>
     obtain ⟨i,r⟩:=b
     simp only [List.getElem?_map]
     cases L[i]? with
     | none=>rfl
     | some x =>
       simp only [Option.map_some]
       have:=allGo_base L n (out++[x])
       rw [List.map_append] at this
       exact this
theorem allP_base (L : List ChD) : allP (L.map ChD.base)=(allP L).map ChD.base:=by
 unfold allP
 rw [List.length_map]
 exact allGo_base L L.length []
end Go.Proofs.YtmpkejflgpodkaaGreatDoor
namespace Go.Proofs.YtmpkejflgpodkaaGreatDoor
open Go.RowKit
structure Ag (L0 W0 : List ChD) (S : List Rf) (i : Nat) (L W : List ChD) : Prop where
 inv : Inv L W
 eq : settle W0.length L0 W0=settle W.length L W
 old : ∀ c∈W,c.rf∈S.take i→readyP L c=false
 all : ∀ c∈W,c.rf∈S
 new : ∀ r∈S.drop i,r∈refsOf W
 asc : AscW S
 nd : S.Nodup
section
variable {L0 W0 L W : List ChD} {S : List Rf} {i j : Nat} {r : Rf} {x : ChD}
theorem Ag.start (h : Inv L W) (he : settle W0.length L0 W0=settle W.length L W) (hp : S.Perm (refsOf W)) (ha : AscW S) : Ag L0 W0 S 0 L W :=
 ⟨h,he,(fun _ _ h=>by simp at h),(fun c hc=>hp.mem_iff.2 (mem_refs hc)),(fun r hr=>hp.mem_iff.1 (by simpa using hr)),ha,hp.nodup_iff.2 h.nd⟩
theorem refs_at (h : r∈refsOf W) : ∃ (j : Nat) (x : ChD),W[j]?=some x∧x.rf=r:=by
 obtain ⟨x,hx,e⟩:=List.mem_map.1 h
 obtain ⟨j,hj,hx⟩:=List.getElem_of_mem hx
 exact ⟨j,x,List.getElem?_eq_some_iff.2 ⟨hj,hx⟩,e⟩
theorem Ag.at (h : Ag L0 W0 S i L W) (hs : S[i]?=some r) : ∃ (j : Nat) (x : ChD),W[j]?=some x∧x.rf=r:=by
 refine refs_at (h.new r ?_)
 obtain ⟨hi,e⟩:=List.getElem?_eq_some_iff.1 hs
 rw [List.drop_eq_getElem_cons hi,e]
 exact List.mem_cons_self ..
theorem take_mem_succ (hs : S[i]?=some r) {q : Rf} (h : q∈S.take (i+1)) : q∈S.take i∨q=r:=by
 rw [List.take_add_one,hs,Option.toList_some] at h
 rcases List.mem_append.1 h with h | h
 · exact .inl h
 · exact .inr (List.mem_singleton.1 h)
theorem drop_mem_succ {q : Rf} (h : q∈S.drop (i+1)) : q∈S.drop i:=by
 rw [← List.drop_drop] at h
 exact List.mem_of_mem_drop h
theorem inv_one (h : Inv L W) {c d : ChD} (hc : c∈W) (hd : d∈W) (e : c.rf=d.rf) : c=d:=by
 have h1:=findC_is h.nd hc
 have h2:=findC_is h.nd hd
 rw [e,h2] at h1
 exact (Option.some.inj h1).symm
theorem Ag.skip (h : Ag L0 W0 S i L W) (hs : S[i]?=some r) (hx : W[j]?=some x) (hr : x.rf=r) (hn : readyP L x=false) : Ag L0 W0 S (i+1) L W :=
 ⟨h.inv,h.eq,(fun c hc hm=>by
  rcases take_mem_succ hs hm with hm | hm
  · exact h.old c hc hm
  · rw [inv_one h.inv hc (List.mem_of_getElem? hx) (by rw [hm,hr])];exact hn),h.all,(fun q hq=>h.new q (drop_mem_succ hq)),h.asc,h.nd⟩
theorem Ag.least (h : Ag L0 W0 S i L W) (hs : S[i]?=some r) (hx : W[j]?=some x) (hr : x.rf=r) (hn : readyP L x=true) : leastAt (readyP L) W=some (j,x.rf):=by
 refine leastAt_is h.inv.nd hx hn fun d hd hdr=>?_
 obtain ⟨k,hk,e⟩:=List.getElem_of_mem (h.all d hd)
 have hk' : S[k]?=some d.rf:=List.getElem?_eq_some_iff.2 ⟨hk,e⟩
 rw [hr]
 rcases Nat.lt_trichotomy k i with hlt | rfl | hgt
 · have:=h.old d hd (by
    rw [List.mem_take_iff_getElem]
    exact ⟨k,by omega,e⟩)
   rw [this] at hdr;cases hdr
 · rw [hk'] at hs
   cases hs
   unfold aheadR
   rw [decide_eq_false_iff_not];omega
 · have:=h.asc i k r d.rf hgt hs hk'
   unfold aheadR
   rw [decide_eq_false_iff_not];exact this
theorem drop_next (hn : S.Nodup) (hs : S[i]?=some r) : r∉S.drop (i+1):=by
 obtain ⟨hi,e⟩:=List.getElem?_eq_some_iff.1 hs
 have h1 : (S.drop i).Nodup:=hn.sublist (List.drop_sublist _ _)
 rw [List.drop_eq_getElem_cons hi,e] at h1
 exact (List.nodup_cons.1 h1).1
theorem refs_erase (hn : (refsOf W).Nodup) (hx : W[j]?=some x) {q : Rf} (hq : q∈refsOf W) (hne : q≠x.rf) : q∈refsOf (W.eraseIdx j):=by
 obtain ⟨c,hc,rfl⟩:=List.mem_map.1 hq
 refine mem_refs ?_
 have hp:=pick_perm W j x hx
 rcases List.mem_cons.1 (hp.mem_iff.1 hc) with h | h
 · exact absurd (congrArg ChD.rf h) hne
 · exact h
theorem refs_gone (hn : (refsOf W).Nodup) (hx : W[j]?=some x) {c : ChD} (hc : c∈W.eraseIdx j) : c.rf≠x.rf:=by
 have hp:=pick_perm W j x hx
 have h1 : (refsOf (x::W.eraseIdx j)).Nodup:=(hp.map ChD.rf).nodup_iff.1 hn
 intro he
 exact (List.nodup_cons.1 h1).1 (by show x.rf∈refsOf (W.eraseIdx j);rw [← he];exact mem_refs hc)
theorem Ag.lose (h : Ag L0 W0 S i L W) (hs : S[i]?=some r) (hx : W[j]?=some x) (hr : x.rf=r) (hn : readyP L x=true) (hf : fitsP L x=false) : Ag L0 W0 S (i+1) L (W.eraseIdx j):=by
 refine ⟨h.inv.drop j,?_,fun c hc hm=>?_,fun c hc=>h.all c (mem_eraseIdx_of hc),fun q hq=>?_,h.asc,h.nd⟩
 · rw [h.eq,settle_go (h.least hs hx hr hn) hx,hf];rfl
 · rcases take_mem_succ hs hm with hm | hm
   · exact h.old c (mem_eraseIdx_of hc) hm
   · exact absurd (hm.trans hr.symm) (refs_gone h.inv.nd hx hc)
 · refine refs_erase h.inv.nd hx (h.new q (drop_mem_succ hq)) ?_
   rw [hr]
   rintro rfl
   exact drop_next h.nd hs hq
theorem Ag.win (h : Ag L0 W0 S i L W) (hs : S[i]?=some r) (hx : W[j]?=some x) (hr : x.rf=r) (hn : readyP L x=true) (hf : fitsP L x=true) :
 settle W0.length L0 W0=settle (W.eraseIdx j).length (L++[x]) (W.eraseIdx j)∧Inv (L++[x]) (W.eraseIdx j)∧(W.eraseIdx j).length < W.length:=by
 refine ⟨by rw [h.eq,settle_go (h.least hs hx hr hn) hx,hf];rfl,h.inv.move hx hn hf,?_⟩
 have hj:=(List.getElem?_eq_some_iff.1 hx).1
 rw [List.length_eraseIdx_of_lt hj];omega
theorem Ag.done (h : Ag L0 W0 S i L W) (hi : S.length≤i) : settle W0.length L0 W0=(L,W):=by
 rw [h.eq]
 refine settle_stop ?_
 cases hl : leastAt (readyP L) W with
 | none=>rfl
 | some b =>
   obtain ⟨j,q⟩:=b
   obtain ⟨x,hx,rfl,hp,-⟩:=leastAt_some hl
   have:=h.old x (List.mem_of_getElem? hx) (by rw [List.take_of_length_le hi];exact h.all x (List.mem_of_getElem? hx))
   rw [this] at hp;cases hp
end
section
variable {L W : List ChD} {c d : ChD}
theorem takeP_err (he : c.err≠0) : takeP L W c=((L,W),c.err):=by unfold takeP;rw [if_pos he]
theorem takeP_found (he : c.err=0) (h : (findC L c.rf).or (findC W c.rf)=some d) : takeP L W c=((L,W),sameE d c):=by
 unfold takeP
 rw [if_neg (by simp [he])]
 cases h1 : findC L c.rf with
 | some x=>rw [h1] at h;simp at h;subst h;rfl
 | none=>rw [h1] at h;simp at h;rw [h]
theorem takeP_none (he : c.err=0) (h : (findC L c.rf).or (findC W c.rf)=none) : findC L c.rf=none∧findC W c.rf=none:=by
 cases h1 : findC L c.rf with
 | some x=>rw [h1] at h;simp at h
 | none=>rw [h1] at h;simp at h;exact ⟨rfl,h⟩
theorem takeP_full (he : c.err=0) (h1 : findC L c.rf=none) (h2 : findC W c.rf=none) (h3 : 120≤L.length+W.length) : takeP L W c=((L,W),4):=by
 unfold takeP
 rw [if_neg (by simp [he]),h1,h2]
 simp only [if_pos h3]
theorem takeP_wait (he : c.err=0) (h1 : findC L c.rf=none) (h2 : findC W c.rf=none) (h3 : ¬ 120≤L.length+W.length) (h4 : readyP L c=false) : takeP L W c=((L,W++[c]),0):=by
 unfold takeP
 rw [if_neg (by simp [he]),h1,h2]
 simp only [if_neg h3,if_pos h4]
theorem takeP_bad (he : c.err=0) (h1 : findC L c.rf=none) (h2 : findC W c.rf=none) (h3 : ¬ 120≤L.length+W.length) (h4 : readyP L c=true) (h5 : fitsP L c=false) : takeP L W c=((L,W),7):=by
 unfold takeP
 rw [if_neg (by simp [he]),h1,h2]
 simp only [if_neg h3,h4,Bool.true_eq_false,if_false,h5,if_true]
theorem takeP_go (he : c.err=0) (h1 : findC L c.rf=none) (h2 : findC W c.rf=none) (h3 : ¬ 120≤L.length+W.length) (h4 : readyP L c=true) (h5 : fitsP L c=true) : takeP L W c=(settle W.length (L++[c]) W,0):=by
 unfold takeP
 rw [if_neg (by simp [he]),h1,h2]
 simp only [if_neg h3,h4,Bool.true_eq_false,if_false,h5]
theorem found_in (h : (findC L c.rf).or (findC W c.rf)=some d) : (d∈L∨d∈W)∧d.rf=c.rf:=by
 cases h1 : findC L c.rf with
 | some x=>rw [h1] at h;simp at h;subst h;exact ⟨.inl (findC_some h1).1,(findC_some h1).2⟩
 | none=>rw [h1] at h;simp at h;exact ⟨.inr (findC_some h).1,(findC_some h).2⟩
end
end Go.Proofs.YtmpkejflgpodkaaGreatDoor
namespace Go.Proofs.YtmpkejflgpodkaaGreatDoor
open Go.RowKit
structure AllG (L : List ChD) (S : List Rf) (out : List ChD) : Prop where
 fin : allP L=allGo L S.length out
 len : S.length+out.length=L.length
 mem : ∀ r,r∈S↔r∈refsOf L∧r∉refsOf out
 asc : AscW S
 nd : S.Nodup
section
variable {L out : List ChD} {S : List Rf} {k : Nat} {r : Rf} {x : ChD}
theorem AllG.start (hn : (refsOf L).Nodup) (hp : S.Perm (refsOf L)) (ha : AscW S) : AllG L S []:=by
 have hl : S.length=L.length:=by rw [hp.length_eq];simp [refsOf]
 exact ⟨by rw [hl];rfl,by simp [hl],fun r=>by simp [refsOf,hp.mem_iff] ,ha,hp.nodup_iff.2 hn⟩
theorem AscW.erase (h : AscW S) (k : Nat) : AscW (S.eraseIdx k):=by
 intro i j x y hij hx hy
 rw [List.getElem?_eraseIdx] at hx hy
 by_cases h1 : i < k
 · rw [if_pos h1] at hx
   by_cases h2 : j < k
   · rw [if_pos h2] at hy;exact h i j x y hij hx hy
   · rw [if_neg h2] at hy;exact h i (j+1) x y (by omega) hx hy
 · rw [if_neg h1] at hx
   rw [if_neg (by omega)] at hy
   exact h (i+1) (j+1) x y (by omega) hx hy
def mayNext (L out : List ChD) (r : Rf) : Bool:=match findC L r with
 | some c=>c.deps.all fun d=>decide (d∈refsOf out)
 | none=>false
theorem AllG.step (h : AllG L S out) (hb : Bk L) (hk : S.findIdx? (mayNext L out)=some k) (hr : S[k]?=some r) : ∃ x,findC L r=some x∧x∈L∧x.rf=r∧AllG L (S.eraseIdx k) (out++[x]):=by
 obtain ⟨hkl,hpk,hlt⟩:=List.findIdx?_eq_some_iff_getElem.1 hk
 have er : S[k]=r:=by have:=List.getElem?_eq_some_iff.1 hr;exact this.2
 rw [er] at hpk
 have hrL:=(h.mem r).1 (List.mem_of_getElem? hr)
 cases hf : findC L r with
 | none=>exact absurd hrL.1 (findC_none.1 hf)
 | some x =>
   obtain ⟨hx,hxr⟩:=findC_some hf
   have hall : (x.deps.all fun d=>decide (d∈refsOf out))=true:=by unfold mayNext at hpk;rw [hf] at hpk;exact hpk
   have hnx : nextP L out x=true:=by
    unfold nextP
    rw [hall,hxr,decide_eq_false hrL.2];rfl
   obtain ⟨i,hi,ei⟩:=List.getElem_of_mem hx
   have hxi : L[i]?=some x:=List.getElem?_eq_some_iff.2 ⟨hi,ei⟩
   have hl : leastAt (nextP L out) L=some (i,x.rf):=by
    refine leastAt_is hb.nodup hxi hnx fun d hd hpd=>?_
    unfold nextP at hpd
    rw [Bool.and_eq_true] at hpd
    have hdo : d.rf∉refsOf out:=by simpa using hpd.1
    obtain ⟨j,hj,ej⟩:=List.getElem_of_mem ((h.mem d.rf).2 ⟨mem_refs hd,hdo⟩)
    have hdj : S[j]?=some d.rf:=List.getElem?_eq_some_iff.2 ⟨hj,ej⟩
    rw [hxr]
    rcases Nat.lt_trichotomy j k with hlt' | rfl | hgt
    · have:=hlt j hlt'
      rw [ej] at this
      unfold mayNext at this
      rw [findC_is hb.nodup hd] at this
      simp only [Bool.not_eq_true] at this
      rw [this] at hpd
      cases hpd.2
    · rw [hdj] at hr
      cases hr
      exact aheadR_irrefl _
    · have:=h.asc k j r d.rf hgt hr hdj
      unfold aheadR
      rw [decide_eq_false_iff_not];exact this
   have hln : S.length=(S.eraseIdx k).length+1:=by rw [List.length_eraseIdx_of_lt hkl];omega
   refine ⟨x,rfl,hx,hxr,⟨by rw [h.fin,hln];exact allGo_step hl hxi,by have:=h.len;simp only [List.length_append,List.length_cons,List.length_nil];omega,fun q=>?_,h.asc.erase k,h.nd.sublist (List.eraseIdx_sublist _ _)⟩⟩
   have hp:=pick_perm S k r hr
   have hnd : (r::S.eraseIdx k).Nodup:=hp.nodup_iff.1 h.nd
   have h1 : q∈S↔q=r∨q∈S.eraseIdx k:=by rw [hp.mem_iff,List.mem_cons]
   have h2 : q∈refsOf (out++[x])↔q∈refsOf out∨q=r:=by
    rw [refsOf_append,List.mem_append];simp [refsOf,hxr]
   rw [h2]
   constructor
   · intro hq
     have:=(h.mem q).1 (h1.2 (.inr hq))
     refine ⟨this.1,?_⟩
     rintro (h' | rfl)
     · exact this.2 h'
     · exact (List.nodup_cons.1 hnd).1 hq
   · rintro ⟨hq,hn⟩
     rcases h1.1 ((h.mem q).2 ⟨hq,fun h'=>hn (.inl h')⟩) with rfl | h'
     · exact absurd (.inr rfl) hn
     · exact h'
theorem AllG.more (h : AllG L S out) (hb : Bk L) (hs : 0 < S.length) : ∃ k,S.findIdx? (mayNext L out)=some k∧k < S.length:=by
 cases hk : S.findIdx? (mayNext L out) with
 | some k=>exact ⟨k,rfl,(List.findIdx?_eq_some_iff_getElem.1 hk).1⟩
 | none =>
   obtain ⟨c,hc,hp⟩:=next_ex hb (out:=out) (by have:=h.len;omega)
   unfold nextP at hp
   rw [Bool.and_eq_true] at hp
   have hm:=(h.mem c.rf).2 ⟨mem_refs hc,by simpa using hp.1⟩
   have:=List.findIdx?_eq_none_iff.1 hk c.rf hm
   unfold mayNext at this
   rw [findC_is hb.nodup hc] at this
   simp only at this
   rw [this] at hp
   cases hp.2
theorem AllG.done (h : AllG L S out) (hs : S.length=0) : allP L=out:=by
 rw [h.fin,hs];rfl
end
/-! ### lists of refs, ascending -/
theorem aheadR_asc {l : List Rf} (h : AscR l) : AscW l∧l.Nodup:=by
 unfold AscR at h
 constructor
 · intro i j x y hij hx hy hh
   obtain ⟨h1,e1⟩:=List.getElem?_eq_some_iff.1 hx
   obtain ⟨h2,e2⟩:=List.getElem?_eq_some_iff.1 hy
   have:=List.pairwise_iff_getElem.1 h i j h1 h2 hij
   rw [e1,e2] at this
   unfold aheadR at this
   simp only [decide_eq_true_eq] at this
   omega
 · exact h.imp fun {a b} hab e=>by subst e;rw [aheadR_irrefl] at hab;cases hab
theorem asc_eq : ∀ {a b : List Rf},AscW a→a.Nodup→AscW b→b.Nodup→(∀ r,r∈a↔r∈b)→a=b
 | [],[],_,_,_,_,_=>rfl
 | [],y::b,_,_,_,_,h=>absurd ((h y).2 (List.mem_cons_self ..)) (by simp)
 | x::a,[],_,_,_,_,h=>absurd ((h x).1 (List.mem_cons_self ..)) (by simp)
 | x::a,y::b,ha,na,hb,nb,h=>by
   have tail : ∀ {z : Rf} {l : List Rf},AscW (z::l)→AscW l:=fun hl i j x y hij hx hy=>hl (i+1) (j+1) x y (by omega) (by simpa using hx) (by simpa using hy)
   have least : ∀ {z : Rf} {l : List Rf},AscW (z::l)→∀ u∈l,¬ (u.1 < z.1∨u.1=z.1∧u.2 < z.2):=fun {z l} hl u hu=>by
    obtain ⟨j,hj,e⟩:=List.getElem_of_mem hu
    exact hl 0 (j+1) z u (by omega) rfl (by simpa using List.getElem?_eq_some_iff.2 ⟨hj,e⟩)
   have hxy : x=y:=by
    have h1:=(h x).1 (List.mem_cons_self ..)
    have h2:=(h y).2 (List.mem_cons_self ..)
    rcases List.mem_cons.1 h1 with e | h1
    · exact e
    rcases List.mem_cons.1 h2 with e | h2
    · exact e.symm
    have q1:=least hb x h1
    have q2:=least ha y h2
    exact Prod.ext (by omega) (by omega)
   subst hxy
   congr 1
   refine asc_eq (tail ha) (List.nodup_cons.1 na).2 (tail hb) (List.nodup_cons.1 nb).2 fun r=>?_
   have hr:=h r
   rw [List.mem_cons,List.mem_cons] at hr
   constructor
   · intro h'
     rcases hr.1 (.inr h') with rfl | h''
     · exact absurd h' (List.nodup_cons.1 na).1
     · exact h''
   · intro h'
     rcases hr.2 (.inr h') with rfl | h''
     · exact absurd h' (List.nodup_cons.1 nb).1
     · exact h''
end Go.Proofs.YtmpkejflgpodkaaGreatDoor
namespace Go.Proofs.YtmpkejflgpodkaaGreatDoor
open Go.RowKit
theorem AscW.filter {S : List Rf} (h : AscW S) (hn : S.Nodup) (p : Rf→Bool) : AscW (S.filter p):=by
 have hpw : S.Pairwise (fun x y=>¬ (y.1 < x.1∨y.1=x.1∧y.2 < x.2)):=by
  rw [List.pairwise_iff_getElem]
  intro i j hi hj hij
  exact h i j _ _ hij (List.getElem?_eq_some_iff.2 ⟨hi,rfl⟩) (List.getElem?_eq_some_iff.2 ⟨hj,rfl⟩)
 have:=hpw.sublist (List.filter_sublist (l:=S) (p:=p))
 intro i j x y hij hx hy
 obtain ⟨h1,e1⟩:=List.getElem?_eq_some_iff.1 hx
 obtain ⟨h2,e2⟩:=List.getElem?_eq_some_iff.1 hy
 have:=List.pairwise_iff_getElem.1 this i j h1 h2 hij
 rw [e1,e2] at this
 exact this
end Go.Proofs.YtmpkejflgpodkaaGreatDoor
namespace Go.Proofs.YtmpkejflgpodkaaGreatDoor
open Go.RowKit
theorem idsFrom_rise (a : Int) : ∀ (l : List OpD) (st : Int),(idsFrom a st l).Pairwise fun x y=>x.2.1 < y.2.1
 | [],_=>List.Pairwise.nil
 | o::l,st=>by
   rw [idsFrom,List.pairwise_cons]
   exact ⟨fun y hy=>by have:=(idsFrom_mem hy).2.1;show st < _;omega,idsFrom_rise a l _⟩
theorem fitOps_each : ∀ {l K : List OpI},fitOps l K=true→l.Pairwise (fun x y=>x.2.1 < y.2.1)→∀ x∈l,∃ K',mayP x K'=true∧(∀ y∈K',y∈K∨y∈l∧y.2.1 < x.2.1)
 | [],_,_,_,x,hx=>by cases hx
 | z::l,K,h,hp,x,hx=>by
   rw [fitOps,Bool.and_eq_true] at h
   obtain ⟨hp1,hp2⟩:=List.pairwise_cons.1 hp
   rcases List.mem_cons.1 hx with rfl | hx
   · exact ⟨K,h.1,fun y hy=>.inl hy⟩
   · obtain ⟨K',h1,h2⟩:=fitOps_each h.2 hp2 x hx
     refine ⟨K',h1,fun y hy=>?_⟩
     rcases h2 y hy with h3 | h3
     · rcases List.mem_append.1 h3 with h4 | h4
       · exact .inl h4
       · rw [List.mem_singleton.1 h4];exact .inr ⟨List.mem_cons_self ..,hp1 x hx⟩
     · exact .inr ⟨List.mem_cons_of_mem _ h3.1,h3.2⟩
theorem allOps_mem {L : List ChD} {x : OpI} : x∈allOps L↔∃ c∈L,x∈c.opsI:=by
 unfold allOps
 rw [List.mem_flatMap]
theorem allOps_append (A B : List ChD) : allOps (A++B)=allOps A++allOps B:=by unfold allOps;rw [List.flatMap_append]
theorem Bk.may {L : List ChD} (h : Bk L) : ∀ x∈allOps L,∃ K,mayP x K=true∧∀ y∈K,y∈allOps L∧y.2.1 < x.2.1:=by
 induction h with
 | nil=>intro x hx;cases hx
 | @snoc L c hb he hw hn hr hf ih =>
   intro x hx
   rw [allOps_append,List.mem_append] at hx
   rcases hx with hx | hx
   · obtain ⟨K,h1,h2⟩:=ih x hx
     exact ⟨K,h1,fun y hy=>⟨by rw [allOps_append];exact List.mem_append_left _ (h2 y hy).1,(h2 y hy).2⟩⟩
   · have hx2 : x∈c.opsI:=by simpa [allOps] using hx
     simp only [fitsP,fitsIn,Bool.and_eq_true] at hf
     obtain ⟨⟨⟨-,-⟩,h3⟩,h4⟩:=hf
     obtain ⟨K,h5,h6⟩:=fitOps_each h4 (idsFrom_rise _ _ _) x hx2
     refine ⟨K,h5,fun y hy=>?_⟩
     rw [allOps_append,List.mem_append]
     rcases h6 y hy with h7 | h7
     · obtain ⟨b,hb1,hb2⟩:=List.mem_flatMap.1 h7
       refine ⟨.inl (allOps_mem.2 ⟨b,(List.mem_filter.1 hb1).1,hb2⟩),?_⟩
       have h8:=List.all_eq_true.1 h3 y h7
       have h9:=(idsFrom_mem hx2).2.1
       simp only [decide_eq_true_eq] at h8
       omega
     · exact ⟨.inr (by simpa [allOps] using h7.1),h7.2⟩
theorem lookP_some {K : List OpI} {n : Rf} {y : OpI} (h : lookP K n=some y) : y∈K∧y.2=n:=⟨List.mem_of_find?_eq_some h,by simpa using List.find?_some h⟩
theorem lookP_is {K : List OpI} (hn : (K.map Prod.snd).Nodup) {y : OpI} (hy : y∈K) : lookP K y.2=some y:=by
 unfold lookP
 cases h : K.find? fun x=>decide (x.2=y.2) with
 | none=>have:=List.find?_eq_none.1 h y hy;simp at this
 | some z =>
   have h1 : z.2=y.2:=by simpa using List.find?_some h
   rw [id_one hn (List.mem_of_find?_eq_some h) hy h1]
theorem Bk.num {L : List ChD} (h : Bk L) : ∀ x∈allOps L,1≤x.2.1∧x.2.1≤1000100∧1≤x.2.2∧x.2.2≤99:=fun x hx=>by
 obtain ⟨c,hc,hxc⟩:=allOps_mem.1 hx
 obtain ⟨h1,h2,h3,-⟩:=idsFrom_mem hxc
 have h4:=(h.err c hc).1
 have h5:=err_ok h4
 have h6:=isRef_bd (err_rf h4).1
 unfold ChOk at h5
 have h7 : c.rf.1=c.a:=rfl
 omega
theorem Bk.tree {L : List ChD} (h : Bk L) : KTree (allOps L) 1000100 where
 nd:=h.ids
 pos:=fun x hx=>(h.num x hx).1
 top:=fun x hx=>(h.num x hx).2.1
 up:=fun x hx _=>by
  obtain ⟨K,h1,h2⟩:=h.may x hx
  unfold mayP at h1
  cases hk : kindP x K with
  | none=>rw [hk] at h1;cases h1
  | some kd =>
    rw [hk] at h1
    simp only [Bool.and_eq_true] at h1
    have h3:=h1.1.2
    unfold elemOkP at h3
    by_cases he : elP x=(0,0)
    · have:=(h.num x hx).1;rw [he];show (0 : Int) < _;omega
    · rw [if_neg he] at h3
      cases hl : lookP K (elP x) with
      | none=>rw [hl] at h3;cases h3
      | some y =>
        obtain ⟨h4,h5⟩:=lookP_some hl
        have:=(h2 y h4).2
        rw [← h5]
        exact this
def kindJ (K : List OpI) (obj : Rf) : Int:=if obj=(0,0) then 5 else match lookP K obj with | some y=>if y.1.k=2 then y.1.vk else 0 | none=>0
theorem Bk.nokey {L : List ChD} (h : Bk L) {obj : Rf} (hk : kindJ (allOps L) obj=6) : ∀ x∈allOps L,objP x=obj→x.1.key=⟨#[]⟩:=fun x hx ho=>by
 obtain ⟨K,h1,h2⟩:=h.may x hx
 have h0 : obj≠(0,0):=fun e=>by unfold kindJ at hk;rw [if_pos e] at hk;cases hk
 unfold mayP at h1
 cases hkp : kindP x K with
 | none=>rw [hkp] at h1;cases h1
 | some kd =>
   rw [hkp] at h1
   simp only [Bool.and_eq_true] at h1
   unfold kindP at hkp
   rw [ho,if_neg h0] at hkp
   cases hl : lookP K obj with
   | none=>rw [hl] at hkp;cases hkp
   | some y =>
     rw [hl] at hkp
     obtain ⟨h4,h5⟩:=lookP_some hl
     have h6:=lookP_is h.ids (h2 y h4).1
     rw [h5] at h6
     unfold kindJ at hk
     rw [if_neg h0] at hk
     unfold allOps at hk
     rw [h6] at hk
     by_cases hy : y.1.k=2
     · simp only [hy,if_true] at hk hkp
       have h7 : kd=6:=by have:=Option.some.inj hkp;omega
       have h8:=h1.1.1
       unfold keyOkP at h8
       rw [h7] at h8
       simpa using h8
     · simp only [hy,if_false] at hkp
       cases hkp
/-! ### All is another order of the same changes -/
theorem allGo_all {L : List ChD} (hb : Bk L) : ∀ (n : Nat) (out : List ChD),(refsOf out).Nodup→(∀ c∈out,c∈L)→out.length+n=L.length →
 (refsOf (allGo L n out)).Nodup∧(∀ c∈allGo L n out,c∈L)∧(allGo L n out).length=L.length
 | 0,out,h1,h2,h3=>⟨h1,h2,by simpa [allGo] using h3⟩
 | n+1,out,h1,h2,h3=>by
   obtain ⟨d,hd1,hd2⟩:=next_ex hb (out:=out) (by omega)
   cases hl : leastAt (nextP L out) L with
   | none=>have:=leastAt_none hl d hd1;rw [hd2] at this;cases this
   | some jr =>
     obtain ⟨j,r⟩:=jr
     obtain ⟨c,hc,hcr,hp,-⟩:=leastAt_some hl
     rw [allGo_step hl hc]
     have hnew : c.rf∉refsOf out:=fun hm=>by
      unfold nextP at hp
      rw [decide_eq_true hm] at hp
      cases hp
     refine allGo_all hb n (out++[c]) ?_ ?_ ?_
     · rw [refsOf_append,List.nodup_append]
       exact ⟨h1,by simp [refsOf],fun a ha b hb' e=>hnew (by simp [refsOf] at hb';rw [← hb',← e];exact ha)⟩
     · intro x hx
       rcases List.mem_append.1 hx with hx | hx
       · exact h2 x hx
       · rw [List.mem_singleton.1 hx];exact List.mem_of_getElem? hc
     · rw [List.length_append,List.length_singleton];omega
theorem nodup_of_refs {L : List ChD} (h : (refsOf L).Nodup) : L.Nodup:=by
 unfold refsOf at h
 rw [List.Nodup,List.pairwise_map] at h
 exact h.imp fun h e=>h (by rw [e])
theorem all_perm {L : List ChD} (hb : Bk L) : (allP L).Perm L:=by
 obtain ⟨h1,h2,h3⟩:=allGo_all hb L.length [] (by simp [refsOf]) (by simp) (by simp)
 have hn:=nodup_of_refs h1
 refine perm_of_nodup hn (nodup_of_refs hb.nodup) fun x=>⟨fun hx=>h2 x hx,fun hx=>?_⟩
 have hsub : ∀ r∈refsOf (allP L),r∈refsOf L:=fun r hr=>by
  obtain ⟨c,hc,rfl⟩:=List.mem_map.1 hr
  exact mem_refs (h2 c hc)
 have hr : x.rf∈refsOf (allP L):=Decidable.byContradiction fun hh=>by
  have h4:=nodup_len (x.rf::refsOf (allP L)) (refsOf L) (List.nodup_cons.2 ⟨hh,h1⟩) (fun r hr=>by
   rcases List.mem_cons.1 hr with rfl | hr
   · exact mem_refs hx
   · exact hsub r hr)
  have h5 : (refsOf (allP L)).length=L.length:=by unfold refsOf;rw [List.length_map];exact h3
  have h6 : (refsOf L).length=L.length:=by unfold refsOf;rw [List.length_map]
  simp only [List.length_cons] at h4
  omega
 obtain ⟨c,hc,hcr⟩:=List.mem_map.1 hr
 have h7:=findC_is hb.nodup (h2 c hc)
 have h8:=findC_is hb.nodup hx
 rw [hcr,h8] at h7
 rw [Option.some.inj h7]
 exact hc
theorem all_len {L : List ChD} (hb : Bk L) : (allP L).length=L.length:=(all_perm hb).length_eq
theorem allOps_base (L : List ChD) : allOps (L.map ChD.base)=(allOps L).map bI:=by
 unfold allOps
 rw [List.flatMap_map,List.map_flatMap]
 exact flatMap_congr_of fun c _=>base_opsI c
theorem ops_perm {X L Lr : List ChD} (hb : Bk X) (h1 : Lr.map ChD.base=(allP X).map ChD.base) (h2 : X.map ChD.base=L.map ChD.base) : ((allOps Lr).map bI).Perm ((allOps L).map bI):=by
 rw [← allOps_base,← allOps_base,h1,← h2,allOps_base,allOps_base]
 exact ((all_perm hb).flatMap_right ChD.opsI).map bI
theorem kidIds_base (K : List OpI) (obj el : Rf) : kidIds (K.map bI) obj el=kidIds K obj el:=by
 unfold kidIds
 rw [List.filter_map,List.map_map]
 rfl
theorem kidIds_perm {K K' : List OpI} (h : (K.map bI).Perm (K'.map bI)) (obj el : Rf) : (kidIds K obj el).Perm (kidIds K' obj el):=by
 rw [← kidIds_base K,← kidIds_base K']
 exact (h.filter _).map _
theorem kindJ_base (K : List OpI) (obj : Rf) : kindJ (K.map bI) obj=kindJ K obj:=by
 unfold kindJ
 rw [look_base]
 cases lookP K obj <;> rfl
theorem kindJ_perm {K K' : List OpI} (h : (K.map bI).Perm (K'.map bI)) (hn : (K.map Prod.snd).Nodup) (obj : Rf) : kindJ K obj=kindJ K' obj:=by
 rw [← kindJ_base K,← kindJ_base K']
 have : ((K.map bI).map Prod.snd).Nodup:=by rw [List.map_map];exact hn
 unfold kindJ
 rw [lookP_perm h this]
theorem sorted_falls {K : List OpI} {N : Int} (hK : KTree K N) {obj el : Rf} {T : List Rf} (hp : T.Perm (kidIds K obj el)) (ha : AscW T) : T.reverse=kidsP K obj el:=by
 obtain ⟨h1,h2,-⟩:=hK.kids (obj:=obj) el
 have h3 : AscR (kidsP K obj el).reverse:=by
  unfold AscR
  rw [List.pairwise_reverse]
  exact h1
 obtain ⟨h4,h5⟩:=aheadR_asc h3
 have h6:=asc_eq ha (hp.nodup_iff.2 (hK.nodup el)) h4 h5 fun r=>by rw [hp.mem_iff,List.mem_reverse,h2 r]
 rw [h6,List.reverse_reverse]
end Go.Proofs.YtmpkejflgpodkaaGreatDoor
namespace Go.Proofs.YtmpkejflgpodkaaGreatDoor
open Go.ChangeShapes Go.WideShapes Go.ChangeAt Go.RowKit
set_option maxHeartbeats 2000000 in
set_option maxRecDepth 20000 in
theorem compareIds_any (r q : Rf) (w : World) : Calls Tryz.prog 44 #[refV r,refV q] w fun e w'=>e=.returned (.int .i64 (cmpR r q))∧Gr w w':=by
 obtain ⟨ra,rs⟩:=r
 obtain ⟨qa,qs⟩:=q
 simp only [refV,cmpR]
 have hc1:=compare_any ra qa
 have hc2:=compare_any rs qs
 generalize Lib.compareInt ra qa=x at *
 generalize Lib.compareInt rs qs=y at *
 have OR:=orI_any x y
 generalize (if x=0 then y else x)=z at OR ⊢
 go_enter Tryz.func44,Tryz.ntmps44
 go_wp2_with fail
 have hB : Gr w ((w.alloc (.cells #[.int .i64 ra,.int .i64 rs] 24)).alloc (.cells #[.int .i64 qa,.int .i64 qs] 24)):=((Gr.refl w).alloc _).alloc _
 have y0 : Blk ((w.alloc (.cells #[.int .i64 ra,.int .i64 rs] 24)).alloc (.cells #[.int .i64 qa,.int .i64 qs] 24)) w.heap.size _ _:=(Blk.new w 24 #[.int .i64 ra,.int .i64 rs]).alloc _
 have y1 : Blk ((w.alloc (.cells #[.int .i64 ra,.int .i64 rs] 24)).alloc (.cells #[.int .i64 qa,.int .i64 qs] 24)) (w.heap.size+1) 24 #[.int .i64 qa,.int .i64 qs]:=by
  have:=Blk.new (w.alloc (.cells #[.int .i64 ra,.int .i64 rs] 24)) 24 #[.int .i64 qa,.int .i64 qs]
  simpa using this
 generalize (w.alloc (.cells #[.int .i64 ra,.int .i64 rs] 24)).alloc (.cells #[.int .i64 qa,.int .i64 qs] 24)=w1 at hB y0 y1 ⊢
 have HB:=Lib.hid hB
 have x1 : w1.cell? ⟨w.heap.size,0,none⟩=some (.int .i64 ra):=y0.cell 0
 have x2 : w1.cell? ⟨w.heap.size,1,none⟩=some (.int .i64 rs):=y0.cell 1
 have x3 : w1.cell? ⟨w.heap.size+1,0,none⟩=some (.int .i64 qa):=y1.cell 0
 have x4 : w1.cell? ⟨w.heap.size+1,1,none⟩=some (.int .i64 qs):=y1.cell 1
 clear hB y0 y1
 refine wp_region_still_tail 10 (by kernel_rfl) (by kernel_rfl) ?_
 simp only [List.take_succ_cons,List.take_zero,List.drop_succ_cons,List.drop_zero]
 repeat (refine wpStill_want rfl (fun K hK=>?_);go_simp;refine hK _ ?_;clear hK K)
 (refine wpStill_want rfl (fun K hK=>?_);go_simp;refine ⟨_,hc1 _,hK _ ?_⟩;clear hK K)
 repeat (refine wpStill_want rfl (fun K hK=>?_);go_simp;refine hK _ ?_;clear hK K)
 (refine wpStill_want rfl (fun K hK=>?_);go_simp;refine ⟨_,hc2 _,hK _ ?_⟩;clear hK K)
 repeat (refine wpStill_want rfl (fun K hK=>?_);go_simp;refine hK _ ?_;clear hK K)
 refine wpStill_nil ?_
 change wpList _ _ _ _ _ w1.drew
 have HB2 : Hid (Gr w w1.drew):=HB.out.drew
 generalize w1.drew=w2 at HB2 ⊢
 clear x1 x2 x3 x4
 go_wp2_with fail
 go_at_call 69
 refine (OR w2.heap.size _ (by rw [(Blk.new w2 _ _).cell 0];rfl) (by rw [(Blk.new w2 _ _).cell 1];rfl)).mono ?_
 rintro e w3 ⟨rfl,rfl⟩
 go_wp2_with fail
 go_ret
 exact ⟨rfl,HB2.out.alloc _⟩
end Go.Proofs.YtmpkejflgpodkaaGreatDoor
namespace Go.Proofs.YtmpkejflgpodkaaGreatDoor
open Go.ChangeShapes Go.WideShapes Go.ChangeAt Go.RowKit
theorem sortI_any (g cap : Nat) (l : List Rf) (w : World) (h : RefRow w g l) (hg : g < w.heap.size) (hl : l.length≤1000000) :
 Calls Tryz.prog 43 #[.slice (some ⟨g,0,none⟩) l.length cap,.func (.func 44) #[] #[]] w fun e w' =>
  e=.returned (.tuple #[])∧∃ l',l'.Perm l∧AscW l'∧RefRow w' g l'∧Chg (fun k=>k=g) w w':=by
 have eg : ∀ args w,(callFunc 44 args).run Tryz.prog w=.ok (.enter 44 args) w:=enters_of Tryz.func44 (by kernel_rfl) (Option.some_get (show Tryz.f44.body.isSome=true by kernel_rfl)).symm
 have hc : CmpLays Tryz.prog 44 #[] encR 2 cmpR g 0 l.toArray.size w:=fun _ _ _ _ x y=>compareIds_any x y _
 have:=AnyQ.slices_SortFunc Tryz.sortId 2 Tryz.isAgg24 Tryz.sizeOf24 encR (fun _=>rfl) encR_one cmpR swo_cmp 44 #[] g 0 cap l.toArray w eg hc h.holds hg (by simp;omega)
 rw [show l.toArray.size=l.length from by simp] at this
 refine this.mono ?_
 rintro e w' ⟨rfl,d',n,os,hp,hs,rfl⟩
 have hsz : d'.size=l.length:=by simpa using hp.1
 refine ⟨rfl,d'.toList,?_,?_,RefRow.of_holds (by simpa using holdsK_sortWorldK_c encR 2 w g 0 l.toArray d' n os h.holds hg (by simpa using hsz)),sortWorld_chg⟩
 · have h1 : d'.extract 0 l.length=d':=by rw [← hsz];exact Array.extract_size
   have h2 : l.toArray.extract 0 l.length=l.toArray:=by
    have : l.length=l.toArray.size:=by simp
    rw [this];exact Array.extract_size
   have h3:=hp.2.2
   rw [h1,h2] at h3
   exact h3
 · intro i j x y hij hx hy
   have hj : j < l.length:=by
    rw [← hsz]
    rcases Nat.lt_or_ge j d'.size with h | h
    · exact h
    · rw [List.getElem?_eq_none (by simpa using h)] at hy;cases hy
   have h1:=hs i j (Nat.zero_le _) hij hj
   have ex : d'[i]! = x:=by
    rw [Array.getElem?_toList] at hx
    rw [Array.getElem!_eq_getD,Array.getD_eq_getD_getElem?,hx];rfl
   have ey : d'[j]! = y:=by
    rw [Array.getElem?_toList] at hy
    rw [Array.getElem!_eq_getD,Array.getD_eq_getD_getElem?,hy];rfl
   rw [lt_cmp,ex,ey] at h1
   simpa using h1
end Go.Proofs.YtmpkejflgpodkaaGreatDoor
namespace Go.Proofs.YtmpkejflgpodkaaGreatDoor
open Go.ChangeShapes Go.WideShapes Go.ChangeAt Go.RowKit
theorem build_where (a b c d : Int) (w : World) : (Instr.build 126 #[(0,.agg #[.int .i64 a,.int .i64 b]),(2,.agg #[.int .i64 c,.int .i64 d])]).run Tryz.prog w=.ok (.agg #[.int .i64 a,.int .i64 b,.string ⟨#[]⟩,.int .i64 c,.int .i64 d]) w:=by kernel_rfl
theorem zero_ids (w : World) : (zeroValue 28).run Tryz.prog w=.ok (.slice none 0 0) w:=by kernel_rfl
abbrev KidsL:=List (Wh × Value × List Rf)
def kidsC (C : KidsL) (w : Wh) : List Rf:=match C.find? (fun x=>decide (x.1=w)) with | some x=>x.2.2 | none=>[]
structure KidsAt (w : World) (cb : Nat) (C : KidsL) : Prop where
 map : MapL w 126 cb (C.map fun x=>(whV x.1,x.2.1))
 row : ∀ x∈C,∃ A c,x.2.1=.slice A x.2.2.length c∧Reads (fun k=>k < w.heap.size) w 2 A x.2.2.length (refC x.2.2)
theorem KidsAt.below {w w' : World} {cb : Nat} {C : KidsL} (h : KidsAt w cb C) (hb : Below w.heap.size w w') : KidsAt w' cb C :=
 ⟨MapL.keep h.map (hb.block _ (MapL.lt h.map)),fun x hx=>by
  obtain ⟨A,c,e,hr⟩:=h.row x hx
  exact ⟨A,c,e,reads_below hr hb⟩⟩
theorem KidsAt.look {w : World} {cb : Nat} {C : KidsL} (h : KidsAt w cb C) {x : Wh} (h1 : I64R x.1) (h2 : I64R x.2.2) (h3 : x.2.1.size≤maxLen) :
 ∃ A c,(Instr.lookup 97 (.map (some cb)) (whV x) false).run Tryz.prog w=.ok (.slice A (kidsC C x).length c) w∧Reads (fun k=>k < w.heap.size) w 2 A (kidsC C x).length (refC (kidsC C x)):=by
 unfold kidsC
 cases hf : C.find? (fun y=>decide (y.1=x)) with
 | some y =>
   have hy:=List.mem_of_find?_eq_some hf
   have he : y.1=x:=by simpa using List.find?_some hf
   obtain ⟨A,c,e,hr⟩:=h.row y hy
   refine ⟨A,c,?_,hr⟩
   have:=MapL.hit h.map keyed_where Tryz.underlying97 (zero_ids w) (List.mem_map.2 ⟨y,hy,by rw [he,e]⟩) false
   exact this
 | none =>
   obtain ⟨kl,hkl⟩:=keyOf_where h1 h2 h3
   refine ⟨none,0,?_,Reads.none_⟩
   have:=MapL.miss h.map keyed_where Tryz.underlying97 (zero_ids w) hkl (fun p hp e=>by
    obtain ⟨y,hy,rfl⟩:=List.mem_map.1 hp
    have:=List.find?_eq_none.1 hf y hy
    rw [whV_inj e] at this
    simp at this) false
   exact this
theorem sortNoneI (p : Option Addr) (cap : Nat) (fv : Value) (w : World) : Calls Tryz.prog 43 #[.slice p 0 cap,fv] w fun e w'=>e=.returned (.tuple #[])∧w'=w:=by
 have:=AnyF.slices_SortFunc_none Tryz.sortId p cap fv w
 exact this
theorem sortOwnI (A : Option Addr) (cap : Nat) (l : List Rf) (base : Nat) (w : World) (ho : w.ownsRow base 24 2 (.slice A l.length cap) l.length (refC l)) (hl : l.length≤1000000) :
 Calls Tryz.prog 43 #[.slice A l.length cap,.func (.func 44) #[] #[]] w fun e w' =>
  e=.returned (.tuple #[])∧∃ l',l'.Perm l∧AscW l'∧Reads (fun k=>k < w'.heap.size) w' 2 A l.length (refC l')∧Chg (fun k=>A=some ⟨k,0,none⟩∧base≤k∧k < w.heap.size) w w':=by
 rcases Nat.eq_zero_or_pos l.length with h0 | h0
 · obtain rfl:=List.length_eq_zero_iff.1 h0
   refine (sortNoneI A cap _ w).mono ?_
   rintro e w' ⟨rfl,rfl⟩
   exact ⟨rfl,[],List.Perm.refl _,fun i j x y _ hx=>by simp at hx,⟨rfl,fun h=>by cases h⟩,Chg.refl _⟩
 · obtain ⟨g,cap',hA,hg1,hg2⟩:=ho.form h0
   simp only [Value.slice.injEq,true_and] at hA
   obtain ⟨rfl,rfl⟩:=hA
   have hrow : RefRow w g l:=fun j u hu=>by
    have hj : j < l.length*2:=by
     rcases Nat.lt_or_ge j (l.length*2) with h | h
     · exact h
     · rw [List.getElem?_eq_none (by rw [refC_length];exact h)] at hu;cases hu
    exact ⟨(World.ownsRow.cellAt ho j hj).trans hu,World.ownsRow.frozenAt ho j⟩
   refine (sortI_any g cap l w hrow hg2 hl).mono ?_
   rintro e w' ⟨rfl,l',hp,ha,hr,hc⟩
   refine ⟨rfl,l',hp,ha,?_,hc.mono fun k _ hk=>by rw [show k=g from hk];exact ⟨rfl,hg1,hg2⟩⟩
   have h1:=hr.reads.more (D':=fun k=>k < w'.heap.size) fun k hk=>by rw [hk];exact Nat.lt_of_lt_of_le hg2 hc.size
   rw [hp.length_eq] at h1
   exact h1
def boxed (v : Value) : Nat:=match v with | .pointer _=>0 | _=>1
set_option maxHeartbeats 8000000 in
set_option maxRecDepth 20000 in
theorem elems_any (K : List OpI) (N : Int) (o1 o2 : Int) (C : KidsL) (g cb : Nat) (v0 v1 v3 : Value) (w : World) (hK : KTree K N) (hids : ∀ x∈K,I64R x.2) (ho : I64R (o1,o2)) (hl : K.length≤100000)
 (hb : Blk w g 100 #[v0,v1,.map (some cb),v3]) (hC : KidsAt w cb C) (hk : ∀ n,(kidsC C ((o1,o2),⟨#[]⟩,n)).Perm (kidIds K (o1,o2) n)) :
 Calls Tryz.prog 34 #[.pointer (some ⟨g,0,none⟩),.agg #[.int .i64 o1,.int .i64 o2]] w fun e w'=>∃ v,e=.returned v ∧
  w'.ownsRow w.heap.size 24 2 v (subE K (o1,o2) N (0,0)).length (refC (subE K (o1,o2) N (0,0)))∧Below w.heap.size w w':=by
 have HK:=Lib.hid hK
 have HID:=Lib.hid hids
 have HOB:=Lib.hid ho
 have HKK:=Lib.hid hk
 have HLN:=Lib.hid hl
 have hb1 : Below w.heap.size w (w.alloc (.cells #[.int .i64 o1,.int .i64 o2] 24)):=(Below.refl _ w).alloc (Nat.le_refl _) _
 have HG:=Lib.hid hb
 have HC:=Lib.hid hC
 have HQ:=Lib.hid (Blk.new w 24 #[.int .i64 o1,.int .i64 o2])
 have HW:=Lib.hid hb1
 have HSZ : Hid (w.heap.size < (w.alloc (.cells #[.int .i64 o1,.int .i64 o2] 24)).heap.size):=HQ.out.lt
 obtain ⟨B,hB⟩ : ∃ B,w.heap.size=B:=⟨_,rfl⟩
 have HB:=Lib.hid hB
 clear hK hids ho hk hl hb hC hb1
 go_enter Tryz.func34,Tryz.ntmps34
 go_upto_region 1 with fail
 generalize w.alloc (.cells #[.int .i64 o1,.int .i64 o2] 24)=w1 at HQ HW HSZ ⊢
 rw [hB] at HQ HW HSZ
 clear hB
 go_upto_region 3 with fail
 have hb2 : Below w1.heap.size w1 (w1.alloc (.cells #[.int .i64 0,.int .i64 0] 24)):=(Below.refl _ w1).alloc (Nat.le_refl _) _
 have HQ2:=Lib.hid (HQ.out.keep (hb2.block _ HQ.out.lt))
 have HW2 : Hid (Below B w (w1.alloc (.cells #[.int .i64 0,.int .i64 0] 24))):=HW.out.trans (hb2.mono (Nat.le_of_lt HSZ.out))
 have HS2 : Hid ((w1.alloc (.cells #[.int .i64 0,.int .i64 0] 24)).ownsRow B 24 2 (.slice (some ⟨w1.heap.size,0,none⟩) 1 1) 1 (refC [(0,0)])):=World.ownsRow_lit w1 #[.int .i64 0,.int .i64 0] 1 (Nat.le_of_lt HSZ.out) (by simp [maxLen]) rfl
 have HSB : Hid (B < w1.heap.size):=HSZ.out
 clear hb2 HQ HW HSZ
 generalize w1.alloc (.cells #[.int .i64 0,.int .i64 0] 24)=w2 at HQ2 HW2 HS2 ⊢
 generalize w1.heap.size=gs0 at HS2 HSB ⊢
 have HWW : Hid (Below (B+1) w2 w2):=Below.refl _ _
 go_loopw [5,6,7,8] (fun s5 s6 s7 _ wr=>∃ (out stack : List Rf) (vo vs : Value),vo=s5∧vs=s6∧Hid (ElI K (o1,o2) N out stack)∧Hid (wr.ownsRow (B+1) 24 2 vo out.length (refC out))∧Hid (wr.ownsRow (B+1) 24 2 vs stack.length (refC stack)) ∧
  Hid (∀ k,vo.ownBlock=some k→vs.ownBlock≠some k)∧Hid (Below (B+1) w2 wr)∧Hid ((boxed s7=1∧stack=[(0,0)]∧out=[])∨(boxed s7=0∧((0,0) : Rf)∉stack))) (fun s5 _ s7 _ _=>2*((subE K (o1,o2) N (0,0)).length - slen s5)+boxed s7)
 case atStart=>exact ⟨[],[(0,0)],_,_,rfl,rfl,ElI.start,own_nil _ _ _ _,(by have:=HS2.out;exact own_base this fun k hk=>by cases hk;exact HSB.out),(by show ∀ k,_→_;intro k hk;cases hk),HWW,.inl ⟨rfl,rfl,rfl⟩⟩
 case round =>
  clear HS2 HWW
  obtain ⟨out,stack,vo,vs,rfl,rfl,HE,HO,HS,HNE,HWr,HF⟩:=hrel
  rcases List.eq_nil_or_concat stack with hst | ⟨S,n,hst⟩
  · subst hst
    have HD : Hid (out=subE K (o1,o2) N (0,0)):=HE.out.done
    have HOF : Hid (wr.ownsRow B 24 2 vo out.length (refC out)):=own_base HO.out fun k hk=>by have:=(own_lt HO.out hk).1;omega
    have HWF : Hid (Below B w wr):=HW2.out.trans (HWr.out.mono (Nat.le_succ _))
    obtain ⟨As,cs,hvs,-,-,-⟩:=Reads.of_own HS.out
    subst hvs
    clear HE HO HS HNE HWr HF
    go_wp2_with fail
    go_ret
    exact ⟨vo,rfl,by rw [← HD.out,HB.out];exact HOF.out,by rw [HB.out];exact HWF.out⟩
  · rw [List.concat_eq_append] at hst
    subst hst
    obtain ⟨As,caps,hvs,hcs,hcm,-⟩:=Reads.of_own HS.out
    obtain ⟨gs,caps',hvs2,hgs1,hgs2⟩:=HS.out.form (by simp)
    rw [hvs] at hvs2
    simp only [Value.slice.injEq,true_and] at hvs2
    obtain ⟨rfl,rfl⟩:=hvs2
    obtain ⟨m,hm⟩ : ∃ m,S.length=m:=⟨_,rfl⟩
    have hlen : (S++[n]).length=m+1:=by rw [List.length_append,hm];rfl
    have HS1 : Hid (wr.ownsRow (B+1) 24 2 (.slice (some ⟨gs,0,none⟩) (m+1) caps) (m+1) (refC S++[.int .i64 n.1,.int .i64 n.2])):=by
     have h:=HS.out
     rw [hvs,hlen,refC_append] at h
     exact h
    have HMS:=Lib.hid hm
    have hbd : out.length+m≤100000:=by have h1:=HE.out.len;have h2:=HLN.out;rw [hlen] at h1;omega
    have hcap : m+1≤caps:=by rw [← hlen];exact hcs
    have hcmx : caps≤9223372036854775807:=by simpa [maxLen] using hcm
    rw [hlen] at hvs
    have z1 : wr.cell? ⟨gs,m*2,none⟩=some (.int .i64 n.1):=(World.ownsRow.cellAt HS1.out (m*2) (by omega)).trans (by rw [List.getElem?_append_right (by rw [refC_length,hm];omega),refC_length,hm];simp)
    have z2 : wr.cell? ⟨gs,m*2+1,none⟩=some (.int .i64 n.2):=(World.ownsRow.cellAt HS1.out (m*2+1) (by omega)).trans (by rw [List.getElem?_append_right (by rw [refC_length,hm];omega),refC_length,hm];simp)
    have hw1 : IntKind.i64.wrap (((m+1 : Nat) : Int) - 1)=(m : Int):=by rw [show (((m+1 : Nat) : Int) - 1)=(m : Int) from by omega];exact IntWalk.i64_in _ (by omega)
    have hw2 : IntKind.i64.wrap ((m : Int)+1 - 1)=(m : Int):=by rw [show ((m : Int)+1 - 1)=(m : Int) from by omega];exact IntWalk.i64_in _ (by omega)
    subst hvs
    obtain ⟨Ao,co,hvo,-,-,-⟩:=Reads.of_own HO.out
    have HSL : Hid (slen vo=out.length):=by show _=_;rw [hvo];rfl
    have HNE2 : Hid (∀ k,vo.ownBlock=some k→k≠gs):=fun k hk e=>HNE.out k hk (by rw [e];rfl)
    clear hvo HS HNE hcs hcm hm hlen
    go_upto_region 5 with fail
    have hba : Below wr.heap.size wr (wr.alloc (.cells #[.int .i64 n.1,.int .i64 n.2] 24)):=(Below.refl _ wr).alloc (Nat.le_refl _) _
    have HBn:=Lib.hid (Blk.new wr 24 #[.int .i64 n.1,.int .i64 n.2])
    have HOa:=Lib.hid (own_below HO.out hba)
    have HSa : Hid ((wr.alloc (.cells #[.int .i64 n.1,.int .i64 n.2] 24)).ownsRow (B+1) 24 2 (.slice (some ⟨gs,0,none⟩) m caps) m (refC S)):=own_below (ownsRow_pop (by rw [refC_length,HMS.out]) HS1.out) hba
    have HWa : Hid (Below (B+1) w2 (wr.alloc (.cells #[.int .i64 n.1,.int .i64 n.2] 24))):=HWr.out.alloc (by have:=HWr.out.size;have:=HQ2.out.lt;omega) _
    have HBNE : Hid (gs < wr.heap.size∧B < wr.heap.size):=⟨hgs2,by have:=HWr.out.size;have:=HQ2.out.lt;omega⟩
    have HOL : Hid (∀ k,vo.ownBlock=some k→k < wr.heap.size):=fun k hk=>(own_lt HO.out hk).2
    clear hba HO HS1 HWr z1 z2
    generalize wr.alloc (.cells #[.int .i64 n.1,.int .i64 n.2] 24)=wa at HBn HOa HSa HWa ⊢
    generalize wr.heap.size=qn at HBn HBNE HOL ⊢
    obtain ⟨nb,hnb⟩ : ∃ b,decide ((n.1,n.2)=((0 : Int),(0 : Int)))=b:=⟨_,rfl⟩
    have HNB:=Lib.hid hnb
    have E:=fun w=>eq_idD n.1 n.2 0 0 w
    rw [hnb] at E
    have n1 : wa.cell? ⟨qn,0,none⟩=some (.int .i64 n.1):=HBn.out.cell 0
    have n2 : wa.cell? ⟨qn,1,none⟩=some (.int .i64 n.2):=HBn.out.cell 1
    clear hnb
    go_upto_if 27 with fail
    go_cut [5] (fun s5 wc=>∃ vo',vo'=s5∧Hid (wc.ownsRow (B+1) 24 2 vo' (if n=(0,0) then out else out++[n]).length (refC (if n=(0,0) then out else out++[n])))∧Hid (∀ k,vo'.ownBlock=some k→k≠gs) ∧
     Hid (wc.ownsRow (B+1) 24 2 (.slice (some ⟨gs,0,none⟩) m caps) m (refC S))∧Hid (Blk wc qn 24 #[.int .i64 n.1,.int .i64 n.2])∧Hid (Below (B+1) w2 wc))
    case first =>
     cases nb with
     | true =>
       have hn0 : n=(0,0):=of_decide_eq_true HNB.out
       have HOb : Hid (wa.ownsRow (B+1) 24 2 vo (if n=(0,0) then out else out++[n]).length (refC (if n=(0,0) then out else out++[n]))):=by show World.ownsRow _ _ _ _ _ _ _;rw [if_pos hn0];exact HOa.out
       clear hn0
       go_wp2_with fail
       go_meet
       case rel=>exact ⟨vo,rfl,HOb,HNE2,HSa,HBn,HWa⟩
     | false =>
       have hn0 : ¬ n=(0,0):=of_decide_eq_false HNB.out
       have HN0:=Lib.hid hn0
       obtain ⟨no,hno⟩ : ∃ k,out.length=k:=⟨_,rfl⟩
       have HNO:=Lib.hid hno
       rw [hno] at HOa hbd
       obtain ⟨i0,hi,hz0,hz1,hz2⟩:=info_parts infoId
       have hbs : B+1≤wa.heap.size:=by have:=HWa.out.size;have:=HQ2.out.lt;omega
       clear hn0 hno
       go_wp2_with (at_builtin;refine wpList_append_any _ rfl (.tmp 28) (.tmp 30) _ rfl (B+1) 24 i0 _ 2 16 Tryz.underlying28 hi hz0 hz1 hz2 rfl (by omega) (_) (no) (refC out) rfl (HOa.out.alloc _) _ (some ⟨wa.heap.size,0,none⟩) (1) (1) ([Value.int .i64 n.1,Value.int .i64 n.2]) rfl ((blk_reads (by exact Blk.new wa _ #[.int .i64 n.1,.int .i64 n.2]) (n:=2) rfl)) (refC_one [n]) ?c1 ?c2 ?c3 ?_)
       try case c1=>simp only [maxLen];omega
       try case c2=>omega
       try case c3=>simp;omega
       intro v4 w4 ho4 hg4 hat4
       have hgr : Below (B+1) w2 w4:=(HWa.out.alloc (by have:=HWa.out.size;have:=HQ2.out.lt;omega) _).grown hg4 (by simp;omega) (fun k hk=>(own_lt HOa.out hk).1)
       have HO4 : Hid (w4.ownsRow (B+1) 24 2 v4 (if n=(0,0) then out else out++[n]).length (refC (if n=(0,0) then out else out++[n]))):=by
        show World.ownsRow _ _ _ _ _ _ _
        rw [if_neg HN0.out,List.length_append,HNO.out,refC_append]
        simpa [refC] using ho4
       have HW4:=Lib.hid hgr
       have hkeep : ∀ k,k < wa.heap.size→vo.ownBlock≠some k→w4.heap[k]?=wa.heap[k]?:=fun k hk hne=>(hg4.block _ (by simp;omega) (fun e=>hne e.symm)).trans (Below.heap_alloc _ _ _ hk)
       have hgl : gs < wa.heap.size:=Nat.lt_trans HBNE.out.1 HBn.out.lt
       have HS4:=Lib.hid (own_keep HSa.out fun k hk=>by
        cases hk
        exact hkeep _ hgl (fun e=>HNE2.out _ e rfl))
       have HB4:=Lib.hid (HBn.out.keep (hkeep _ HBn.out.lt (fun e=>Nat.lt_irrefl _ (HOL.out _ e))))
       have HNE4 : Hid (∀ k,v4.ownBlock=some k→k≠gs):=fun k hk=>by
        rcases hat4 with h | h
        · rw [h] at hk;exact HNE2.out k hk
        · rw [h] at hk
          have hk:=Option.some.inj hk
          first | omega | (rw [World.size_alloc] at hk;omega)
       clear ho4 hg4 hat4 hgr hkeep hgl n1 n2 E
       go_wp2_with fail
       go_meet
       case rel=>exact ⟨v4,rfl,HO4,HNE4,HS4,HB4,HW4⟩
    case rest =>
     obtain ⟨vo',rfl,HO4,HNE4,HS4,HB4,HW4⟩:=hcut
     clear n1 n2 E HOa HSa HWa HBn HNB HNE2 hw1 hw2 HOL
     have hsz2 : B+1≤w2.heap.size:=by have:=HQ2.out.lt;omega
     have HWW : Hid (Below B w wc):=HW2.out.trans (HW4.out.mono (Nat.le_succ _))
     have hwB : w.heap.size=B:=HB.out
     have HCc : Hid (KidsAt wc cb C):=by have h:=HWW.out;rw [← hwB] at h;exact HC.out.below h
     have hgB : g < B:=by rw [← hwB];exact HG.out.lt
     have g2 : wc.cell? ⟨g,2,none⟩=some (.map (some cb)):=(HG.out.keep (HWW.out.block _ hgB)).cell 2
     have q1 : wc.cell? ⟨B,0,none⟩=some (.int .i64 o1):=(HQ2.out.keep (HW4.out.block _ (Nat.lt_succ_self _))).cell 0
     have q2 : wc.cell? ⟨B,1,none⟩=some (.int .i64 o2):=(HQ2.out.keep (HW4.out.block _ (Nat.lt_succ_self _))).cell 1
     have n1 : wc.cell? ⟨qn,0,none⟩=some (.int .i64 n.1):=HB4.out.cell 0
     have n2 : wc.cell? ⟨qn,1,none⟩=some (.int .i64 n.2):=HB4.out.cell 1
     have hnI : I64R n:=by
      by_cases hn0 : n=(0,0)
      · rw [hn0];exact ⟨by omega,by omega⟩
      · obtain ⟨x,hx,hxe,-⟩:=HE.out.par n (by simp) hn0
        rw [← hxe]
        exact HID.out x hx
     obtain ⟨Ak,ck,hlk,hrk⟩:=KidsAt.look (w:=wc.drew) (cb:=cb) (C:=C) (HCc.out.below (Below.refl _ wc).drew) (x:=((o1,o2),⟨#[]⟩,n)) HOB.out hnI (Nat.zero_le _)
     obtain ⟨ks,hks⟩ : ∃ ks,kidsC C ((o1,o2),⟨#[]⟩,n)=ks:=⟨_,rfl⟩
     rw [hks] at hlk hrk
     have HKS : Hid (ks.Perm (kidIds K (o1,o2) n)):=by have h:=HKK.out n;rw [hks] at h;exact h
     have hkl : ks.length≤100000:=by
      have h1:=HKS.out.length_eq
      have h2:=kidIds_len (K:=K) (obj:=(o1,o2)) n
      have h3:=HLN.out
      omega
     have C1:=cloneI_any ks (fun k=>k < wc.drew.heap.size) Ak ck wc.drew hrk (fun _ h=>h) (by omega)
     have hbw:=fun w=>build_where o1 o2 n.1 n.2 w
     unfold whV at hlk
     clear hks hnI hrk hgB
     go_upto_region 8 with fail
     refine wp_region_still_tail 8 (by kernel_rfl) (by kernel_rfl) ?_
     simp only [List.take_succ_cons,List.take_zero,List.drop_succ_cons,List.drop_zero]
     repeat (first | (refine wpStill_want rfl (fun K hK=>?_);go_simp;refine hK _ ?_;clear hK K) | (refine wpStill_skip rfl ?_;go_frame))
     refine wpStill_nil ?_
     change wpList _ _ _ _ _ wc.drew
     have HOd : Hid (wc.drew.ownsRow (B+1) 24 2 vo' (if n=(0,0) then out else out++[n]).length (refC (if n=(0,0) then out else out++[n]))):=HO4.out.drew
     have HSd : Hid (wc.drew.ownsRow (B+1) 24 2 (.slice (some ⟨gs,0,none⟩) m caps) m (refC S)):=HS4.out.drew
     have HWd : Hid (Below (B+1) w2 wc.drew):=HW4.out.drew
     clear g2 q1 q2 n1 n2 hlk hbw HO4 HS4 HW4 HB4 HCc HWW hwB
     generalize wc.drew=w5 at HOd HSd HWd C1 ⊢
     go_wp2_with fail
     go_at_call 60
     refine C1.mono ?_
     rintro e w6 ⟨A6,c6,rfl,ho6,hb6⟩
     have HO6:=Lib.hid (own_below HOd.out hb6)
     have HS6:=Lib.hid (own_below HSd.out hb6)
     have HW6 : Hid (Below (B+1) w2 w6):=HWd.out.trans (hb6.mono (by have:=HWd.out.size;omega))
     have C2:=sortOwnI A6 c6 ks w5.heap.size w6 ho6 (by omega)
     have HBL : Hid (B+1≤w5.heap.size∧gs < w5.heap.size∧∀ k,vo'.ownBlock=some k→k < w5.heap.size):=⟨by have:=HWd.out.size;omega,(own_lt HSd.out rfl).2,fun k hk=>(own_lt HOd.out hk).2⟩
     obtain ⟨nk,hnk⟩ : ∃ k,ks.length=k:=⟨_,rfl⟩
     have HNK:=Lib.hid hnk
     rw [hnk] at C2 hkl ⊢
     have H56 : Hid (w5.heap.size≤w6.heap.size):=hb6.size
     clear C1 ho6 hb6 HOd HSd HWd hnk
     go_wp2_with fail
     go_at_call 43
     refine C2.mono ?_
     rintro e w7 ⟨rfl,T,hTp,hTa,hTr,hch⟩
     have HTP : Hid (T.Perm (kidIds K (o1,o2) n)):=hTp.trans HKS.out
     have HTA:=Lib.hid hTa
     have HTR:=Lib.hid hTr
     have HTL : Hid (T.length=nk):=by show _=_;rw [hTp.length_eq,HNK.out]
     have hkp : ∀ k,k < w5.heap.size→k < w6.heap.size→w7.heap[k]?=w6.heap[k]?:=fun k hk hk6=>hch.block k hk6 (fun e=>by have:=e.2.1;omega)
     have h56:=H56.out
     have HO7:=Lib.hid (own_keep HO6.out fun k hk=>hkp k (HBL.out.2.2 k hk) (by have:=HBL.out.2.2 k hk;omega))
     have HS7:=Lib.hid (own_keep HS6.out fun k hk=>hkp k (by cases hk;exact HBL.out.2.1) (by cases hk;have:=HBL.out.2.1;show gs < _;omega))
     have HW7 : Hid (Below (B+1) w2 w7):=HW6.out.trans (hch.below (by have:=HBL.out.1;omega) fun k hk=>by have:=HBL.out.1;have:=hk.2.1;omega)
     have h67:=hch.size
     have HV7 : Hid (∀ k,vo'.ownBlock=some k→k < w7.heap.size):=fun k hk=>by have:=HBL.out.2.2 k hk;omega
     have hbs7 : B+1≤w7.heap.size:=by have:=HBL.out.1;omega
     have hmk : m≤100000:=by omega
     clear C2 hTp hTa hTr hch hkp h56 h67 HO6 HS6 HW6
     obtain ⟨i0,hi,hz0,hz1,hz2⟩:=info_parts infoId
     go_wp2_with (at_builtin;refine wpList_append_any _ rfl (.tmp 43) (.tmp 44) _ rfl (B+1) 24 i0 _ 2 16 Tryz.underlying28 hi hz0 hz1 hz2 rfl (by omega) (.slice (some ⟨gs,0,none⟩) m caps) (m) (refC S) rfl (HS7.out) _ (A6) (nk) (c6) (refC T) rfl (HTR.out) (refC_one _) ?c1 ?c2 ?c3 ?_)
     try case c1=>simp only [maxLen];omega
     try case c2=>omega
     try case c3=>exact hbs7
     intro v8 w8 ho8 hg8 hat8
     have HS8 : Hid (w8.ownsRow (B+1) 24 2 v8 (S++T).length (refC (S++T))):=by
      show World.ownsRow _ _ _ _ _ _ _
      rw [List.length_append,HMS.out,HTL.out,refC_append]
      exact ho8
     have HO8:=Lib.hid (own_keep HO7.out fun k hk=>hg8.block k (HV7.out k hk) (fun e=>HNE4.out k hk (by cases e;rfl)))
     have HW8 : Hid (Below (B+1) w2 w8):=HW7.out.grown hg8 hbs7 (fun k hk=>(own_lt HS7.out hk).1)
     have HNE8 : Hid (∀ k,vo'.ownBlock=some k→v8.ownBlock≠some k):=fun k hk e=>by
      rcases hat8 with h | h
      · rw [h] at e
        exact HNE4.out k hk (by cases e;rfl)
      · rw [h] at e
        have h1:=HV7.out k hk
        have h2:=Option.some.inj e
        omega
     have HE8 : Hid (ElI K (o1,o2) N (if n=(0,0) then out else out++[n]) (S++T)):=HE.out.step HK.out (sorted_falls HK.out HTP.out HTA.out)
     have HT0 : Hid (((0,0) : Rf)∉T):=fun hm=>by
      have h1:=((HK.out.kids (obj:=(o1,o2)) n).2.1 (0,0)).2 (HTP.out.mem_iff.1 hm)
      have h2:=(HK.out.kid h1).2.2.1
      simp at h2
     have HF8 : Hid (((0,0) : Rf)∉S++T):=fun hm=>by
      rcases List.mem_append.1 hm with hm | hm
      · rcases HF.out with ⟨-,h,-⟩ | ⟨-,h⟩
        · have:=congrArg List.length h
          simp only [List.length_append,List.length_singleton] at this
          have h3:=List.length_pos_of_mem hm
          omega
        · exact h (List.mem_append_left _ hm)
      · exact HT0.out hm
     have HME : Hid (2*((subE K (o1,o2) N (0,0)).length - (if n=(0,0) then out else out++[n]).length) < 2*((subE K (o1,o2) N (0,0)).length - out.length)+1 - (if n=(0,0) then 0 else 1)):=by
      show _ < _
      by_cases hn0 : n=(0,0)
      · rw [if_pos hn0,if_pos hn0];omega
      · have h1:=HE8.out.short
        rw [if_neg hn0] at h1
        rw [if_neg hn0,if_neg hn0]
        rw [List.length_append,List.length_singleton] at h1 ⊢
        omega
     clear ho8 hg8 hat8 HS7 HO7 HW7 HTR HTP HTA
     go_wp2_with fail
     go_roundw
     case rel=>exact ⟨(if n=(0,0) then out else out++[n]),S++T,vo',v8,rfl,rfl,HE8,HO8,HS8,HNE8,HW8,.inr ⟨rfl,HF8.out⟩⟩
     case measure =>
      obtain ⟨Av,cv,hv,-,-,-⟩:=Reads.of_own HO8.out
      have h1 : slen vo'=(if n=(0,0) then out else out++[n]).length:=by rw [hv];rfl
      have h2:=HSL.out
      have h3:=HME.out
      rcases HF.out with ⟨h4,h5,h6⟩ | ⟨h4,h5⟩
      · have hn0 : n=(0,0):=by
         have:=congrArg List.getLast? h5
         simpa using this
        rw [if_pos hn0,if_pos hn0] at h3
        rw [h1,h2,h4,if_pos hn0]
        simp only [boxed]
        omega
      · have hn0 : ¬ n=(0,0):=fun e=>h5 (by rw [e];simp)
        rw [if_neg hn0,if_neg hn0] at h3
        rw [h1,h2,h4,if_neg hn0]
        simp only [boxed]
        omega
end Go.Proofs.YtmpkejflgpodkaaGreatDoor
namespace Go.Proofs.YtmpkejflgpodkaaGreatDoor
open Go.RowKit
theorem same_rf {L : List ChD} (hn : (refsOf L).Nodup) {b c : ChD} (hb : b∈L) (hc : c∈L) (e : b.rf=c.rf) : b=c:=by
 have h1:=findC_is hn hb
 have h2:=findC_is hn hc
 rw [e,h2] at h1
 exact (Option.some.inj h1).symm
theorem behind_part {A L : List ChD} (hA : Bk A) (hL : Bk L) (hs : ∀ c∈A,c∈L) {w : List Rf} (hw : ∀ r∈w,r∈refsOf A) (r : Rf) : r∈behindP A w↔r∈behindP L w:=by
 have sub : ∀ {q},q∈refsOf A→q∈refsOf L:=fun hq=>by
  obtain ⟨c,hc,rfl⟩:=List.mem_map.1 hq
  exact mem_refs (hs c hc)
 constructor
 · intro h
   refine back_least (L:=A.reverse) (fun r=>r∈behindP L w) (fun q hq _=>behind_head hq (sub (hw q hq))) (fun c hc hb d hd _=>?_) r h
   exact back_closed hL.top (List.mem_reverse.2 (hs c (List.mem_reverse.1 hc))) hb hd
 · intro h
   refine back_least (L:=L.reverse) (fun r=>r∈behindP A w) (fun q hq _=>behind_head hq (hw q hq)) (fun c hc hb d hd _=>?_) r h
   obtain ⟨b,hb1,hb2⟩:=List.mem_map.1 (behind_sub hb)
   have hbc : b=c:=same_rf hL.nodup (hs b hb1) (List.mem_reverse.1 hc) hb2
   subst hbc
   exact back_closed hA.top (List.mem_reverse.2 hb1) hb hd
theorem Bk.split {L : List ChD} (h : Bk L) : ∀ c∈L,∃ A,Bk A∧(∀ b∈A,b∈L)∧readyP A c=true∧fitsP A c=true:=by
 induction h with
 | nil=>intro c hc;cases hc
 | @snoc L c hb he hw hn hr hf ih =>
   intro x hx
   rcases List.mem_append.1 hx with hx | hx
   · obtain ⟨A,h1,h2,h3,h4⟩:=ih x hx
     exact ⟨A,h1,fun b hb=>List.mem_append_left _ (h2 b hb),h3,h4⟩
   · rw [List.mem_singleton.1 hx]
     exact ⟨L,hb,fun b hb=>List.mem_append_left _ hb,hr,hf⟩
theorem behind_dup {L : List ChD} (hb : Bk L) (w : List Rf) : ∃ S : List Rf,S.Nodup∧∀ r,r∈S↔r∈behindP L w:=by
 refine ⟨(refsOf L).filter (fun r=>decide (r∈behindP L w)),hb.nodup.filter _,fun r=>?_⟩
 rw [List.mem_filter,decide_eq_true_eq]
 exact ⟨fun h=>h.2,fun h=>⟨behind_sub h,h⟩⟩
theorem opsAt_part {A L : List ChD} (hA : (refsOf A).Nodup) (hL : (refsOf L).Nodup) (hs : ∀ c∈A,c∈L) {r : Rf} (hr : r∈refsOf A) : opsAt A r=opsAt L r:=by
 obtain ⟨c,hc,rfl⟩:=List.mem_map.1 hr
 unfold opsAt
 have h1:=findC_is hA hc
 have h2:=findC_is hL (hs c hc)
 unfold ChD.rf at h1 h2 ⊢
 rw [h1,h2]
theorem fits_part {A B L : List ChD} (hA : Bk A) (hB : Bk B) (hL : Bk L) (hAL : ∀ c∈A,c∈L) (hBL : ∀ c∈B,c∈L) {c : ChD} (hrA : readyP A c=true) (hrB : readyP B c=true) (hf : fitsP A c=true) : fitsP B c=true:=by
 obtain ⟨S,hS,hSm⟩:=behind_dup hL c.deps
 have hSA : ∀ r,r∈S↔r∈behindP A c.deps:=fun r=>by rw [hSm r,behind_part hA hL hAL (ready_mem hrA) r]
 have hSB : ∀ r,r∈S↔r∈behindP B c.deps:=fun r=>by rw [hSm r,behind_part hB hL hBL (ready_mem hrB) r]
 have heq : S.flatMap (opsAt A)=S.flatMap (opsAt B):=flatMap_congr_of fun r hr=>by
  rw [opsAt_part hA.nodup hL.nodup hAL (behind_sub ((hSA r).1 hr)),opsAt_part hB.nodup hL.nodup hBL (behind_sub ((hSB r).1 hr))]
 have hsubA : ∀ r∈S,r∈refsOf A:=fun r hr=>behind_sub ((hSA r).1 hr)
 have hin : fitsIn A c S=true:=by rw [fitsIn_congr hSA];exact hf
 unfold fitsIn at hin
 simp only [Bool.and_eq_true] at hin
 obtain ⟨⟨⟨h1,-⟩,h3⟩,-⟩:=hin
 have hk:=knownP_perm hA.nodup hS hsubA
 have q1 : ∀ r∈S,¬ (r.1=c.a∧c.s≤r.2):=fun r hr=>by
  have:=List.all_eq_true.1 h1 r hr
  simp only [Bool.not_eq_true',Bool.and_eq_false_iff,decide_eq_false_iff_not] at this
  rintro ⟨a,b⟩
  rcases this with h | h
  · exact h a
  · exact h b
 have q2 : ∀ x∈S.flatMap (opsAt A),x.2.1 < c.st:=fun x hx=>by
  have:=List.all_eq_true.1 h3 x (hk.mem_iff.1 hx)
  simpa using this
 have e1:=fits_yes hA hS hSA (List.Perm.refl _) q1 q2
 have e2:=fits_yes hB hS hSB (List.Perm.refl _) q1 (by rw [← heq];exact q2)
 rw [e2,← heq,← e1]
 exact hf
theorem Bk.reorder {L L' : List ChD} (hb : Bk L) (hp : L'.Perm L) (hr : ∀ A c B,L'=A++c::B→∀ d∈c.deps,d∈refsOf A) : Bk L':=by
 have hn : (refsOf L').Nodup:=by
  unfold refsOf
  exact (hp.map ChD.rf).nodup_iff.2 hb.nodup
 have key : ∀ n,n≤L'.length→Bk (L'.take n):=by
  intro n
  induction n with
  | zero=>intro _;rw [List.take_zero];exact .nil
  | succ n ih =>
    intro hlt
    obtain ⟨c,hc⟩ : ∃ c,L'[n]?=some c:=⟨_,List.getElem?_eq_getElem (by omega)⟩
    have hA:=ih (by omega)
    have hcL : c∈L:=hp.mem_iff.1 (List.mem_of_getElem? hc)
    have hsplit : L'=L'.take n++c::L'.drop (n+1):=by
     obtain ⟨h1,h2⟩:=List.getElem?_eq_some_iff.1 hc
     rw [← h2,List.getElem_cons_drop,List.take_append_drop]
    have hd:=hr _ _ _ hsplit
    have hready : readyP (L'.take n) c=true:=List.all_eq_true.2 fun d hdd=>decide_eq_true (hd d hdd)
    have hsub : ∀ b∈L'.take n,b∈L:=fun b hb'=>hp.mem_iff.1 (List.mem_of_mem_take hb')
    have hnew : c.rf∉refsOf (L'.take n):=by
     rw [hsplit,refsOf_append,List.nodup_append] at hn
     exact fun hm=>hn.2.2 _ hm c.rf (by simp [refsOf]) rfl
    obtain ⟨A0,a1,a2,a3,a4⟩:=hb.split c hcL
    rw [List.take_add_one,hc,Option.toList_some]
    exact .snoc hA (hb.err c hcL).1 (hb.err c hcL).2 hnew hready (fits_part a1 hA hb a2 hsub a3 hready a4)
 have:=key L'.length (Nat.le_refl _)
 rwa [List.take_of_length_le (Nat.le_refl _)] at this
theorem allGo_ready (L : List ChD) : ∀ (n : Nat) (out : List ChD),(∀ A c B,out=A++c::B→∀ d∈c.deps,d∈refsOf A)→∀ A c B,allGo L n out=A++c::B→∀ d∈c.deps,d∈refsOf A
 | 0,out,h=>h
 | n+1,out,h=>by
   unfold allGo
   cases hl : leastAt (nextP L out) L with
   | none=>exact h
   | some jr =>
     obtain ⟨j,r⟩:=jr
     obtain ⟨c,hc,hcr,hp,-⟩:=leastAt_some hl
     simp only [hc]
     refine allGo_ready L n (out++[c]) fun A x B e d hd=>?_
     rcases List.eq_nil_or_concat B with rfl | ⟨B',y,rfl⟩
     · obtain ⟨e1,e2⟩:=List.append_inj' e rfl
       cases e2
       rw [← e1]
       unfold nextP at hp
       rw [Bool.and_eq_true] at hp
       exact of_decide_eq_true (List.all_eq_true.1 hp.2 d hd)
     · rw [List.concat_eq_append,← List.cons_append,← List.append_assoc] at e
       obtain ⟨e1,-⟩:=List.append_inj' e rfl
       exact h A x B' e1 d hd
theorem Bk.all {L : List ChD} (hb : Bk L) : Bk (allP L) :=
 hb.reorder (all_perm hb) (allGo_ready L L.length [] fun A c B e=>by
  have:=congrArg List.length e
  simp at this)
theorem Bk.ahead {L : List ChD} (h : Bk L) : ∀ P x Q,allOps L=P++x::Q→∃ K,mayP x K=true∧∀ y∈K,y∈P:=by
 induction h with
 | nil =>
   intro P x Q e
   have:=congrArg List.length e
   simp [allOps] at this
 | @snoc L c hb he hw hn hr hf ih =>
   intro P x Q e
   rw [allOps_append] at e
   have hc1 : allOps [c]=c.opsI:=by simp [allOps]
   rw [hc1] at e
   rcases Nat.lt_or_ge P.length (allOps L).length with hlt | hge
   · obtain ⟨Q',e1,e2⟩ : ∃ Q',allOps L=P++x::Q'∧Q=Q'++c.opsI:=by
      have h1:=List.append_eq_append_iff.1 e
      rcases h1 with ⟨us,h2,h3⟩ | ⟨bs,h2,h3⟩
      · have:=congrArg List.length h2
        rw [List.length_append] at this
        omega
      · cases bs with
        | nil=>rw [h2] at hlt;simp at hlt
        | cons b bs=>simp at h3;exact ⟨bs,by rw [h2,h3.1],h3.2⟩
     exact ih P x Q' e1
   · obtain ⟨pre,e1,e2⟩ : ∃ pre,P=allOps L++pre∧c.opsI=pre++x::Q:=by
      have h1:=List.append_eq_append_iff.1 e
      rcases h1 with ⟨us,h2,h3⟩ | ⟨bs,h2,h3⟩
      · exact ⟨us,h2,h3⟩
      · have:=congrArg List.length h2
        rw [List.length_append] at this
        have hb0 : bs=[]:=List.eq_nil_of_length_eq_zero (by omega)
        subst hb0
        exact ⟨[],by rw [h2];simp,by simpa using h3.symm⟩
     simp only [fitsP,fitsIn,Bool.and_eq_true] at hf
     obtain ⟨K,h5,h6⟩:=fitOps_each hf.2 (idsFrom_rise _ _ _) x (by rw [e2];simp)
     refine ⟨K,h5,fun y hy=>?_⟩
     rw [e1,List.mem_append]
     rcases h6 y hy with h7 | ⟨h7,h8⟩
     · obtain ⟨b,hb1,hb2⟩:=List.mem_flatMap.1 h7
       exact .inl (allOps_mem.2 ⟨b,(List.mem_filter.1 hb1).1,hb2⟩)
     · right
       have hp:=idsFrom_rise c.a c.ops c.st
       rw [e2] at h7
       rw [show idsFrom c.a c.st c.ops=pre++x::Q from e2] at hp
       rcases List.mem_append.1 h7 with h9 | h9
       · exact h9
       · obtain ⟨-,hp2,-⟩:=List.pairwise_append.1 hp
         obtain ⟨hp3,-⟩:=List.pairwise_cons.1 hp2
         rcases List.mem_cons.1 h9 with rfl | h10
         · omega
         · have:=hp3 y h10;omega
end Go.Proofs.YtmpkejflgpodkaaGreatDoor
namespace Go.Proofs.YtmpkejflgpodkaaGreatDoor
open Go.RowKit
def VD.add (v : VD) (d : Int) : VD:=⟨v.k,IntKind.i64.wrap (v.n+d),v.t,v.a,v.b⟩
def wh0 (x : OpI) : Wh:=(objP x,x.1.key,elP x)
def wh1 (x : OpI) : Wh:=(objP x,x.1.key,elemP x)
def valOf0 (x : OpI) : VD:=if x.1.k=2 then ⟨x.1.vk,x.1.vn,x.1.vt,x.2.1,x.2.2⟩ else ⟨x.1.vk,x.1.vn,x.1.vt,x.1.va,x.1.vb⟩
def predE (x : OpI) (E : List (Rf × VD)) (p : Rf) : List (Rf × VD) :=
 if x.1.k=4 then E.map fun e=>if e.1=p then (e.1,e.2.add x.1.vn) else e else E.filter fun e=>decide (e.1≠p)
def lastE (x : OpI) (E : List (Rf × VD)) : List (Rf × VD):=if x.1.k=1∨x.1.k=2 then E++[(x.2,valOf0 x)] else E
def doE (x : OpI) (E : List (Rf × VD)) : List (Rf × VD):=lastE x (x.1.l.foldl (predE x) E)
abbrev StV:=List (Wh × List (Rf × VD))
def getPl (S : StV) (w : Wh) : List (Rf × VD):=match S.find? (fun e=>decide (e.1=w)) with | some e=>e.2 | none=>[]
def touchV (S : StV) (w : Wh) : StV:=if ∃ e∈S,e.1=w then S else S++[(w,[])]
def setV (S : StV) (w : Wh) (E : List (Rf × VD)) : StV:=S.map fun e=>if e.1=w then (e.1,E) else e
def doV (S : StV) (x : OpI) : StV:=setV (touchV S (wh1 x)) (wh1 x) (doE x (getPl S (wh1 x)))
def newV (K : List OpI) : StV:=K.foldl doV []
theorem getPl_touch (S : StV) (w v : Wh) : getPl (touchV S w) v=getPl S v:=by
 unfold touchV
 split
 · rfl
 · rename_i h
   unfold getPl
   rw [List.find?_append]
   cases hf : S.find? (fun e=>decide (e.1=v)) with
   | some e=>rfl
   | none =>
     by_cases e : w=v <;> simp [e]
theorem VD.add_zero {v : VD} (h : IntKind.i64.wrap v.n=v.n) : v.add 0=v:=by
 unfold VD.add
 rw [Int.add_zero,h]
structure Rows1 (K : List OpI) : Prop where
 nd : (K.map Prod.snd).Nodup
 may : ∀ P x Q,K=P++x::Q→∃ K',mayP x K'=true∧∀ y∈K',y∈P
 wf : ∀ x∈K,IntKind.i64.wrap x.1.vn=x.1.vn
 kd : ∀ x∈K,1≤x.1.k∧x.1.k≤4
theorem Rows1.take {K P Q : List OpI} (h : Rows1 K) (e : K=P++Q) : Rows1 P :=
 ⟨(h.nd.sublist (by rw [e,List.map_append];exact List.sublist_append_left _ _)),fun A x B e2=>h.may A x (B++Q) (by rw [e,e2];simp),fun x hx=>h.wf x (by rw [e];exact List.mem_append_left _ hx),fun x hx=>h.kd x (by rw [e];exact List.mem_append_left _ hx)⟩
theorem Rows1.pred {K P Q : List OpI} {x : OpI} (h : Rows1 K) (e : K=P++x::Q) {p : Rf} (hp : p∈x.1.l) : ∃ y∈P,y.2=p∧wh1 y=wh1 x∧y.1.k≤2∧(x.1.k=4→y.1.k=1∧y.1.vk=4):=by
 obtain ⟨K',h1,h2⟩:=h.may P x Q e
 unfold mayP at h1
 cases hk : kindP x K' with
 | none=>rw [hk] at h1;cases h1
 | some kd =>
   rw [hk] at h1
   simp only [Bool.and_eq_true] at h1
   have h3:=List.all_eq_true.1 h1.2 p hp
   unfold predOkP at h3
   cases hl : lookP K' p with
   | none=>rw [hl] at h3;cases h3
   | some y =>
     rw [hl] at h3
     obtain ⟨h4,h5⟩:=lookP_some hl
     simp only [Bool.and_eq_true,Bool.not_eq_true',decide_eq_false_iff_not,placeP,decide_eq_true_eq,Bool.and_eq_false_iff,Bool.or_eq_false_iff,Decidable.not_not] at h3
     obtain ⟨⟨h6,⟨h7,h8⟩,h9⟩,h10⟩:=h3
     refine ⟨y,h2 y h4,h5,?_,by omega,fun hx4=>?_⟩
     · unfold wh1;rw [h7,h8,h9]
     · rcases h10 with h | h
       · exact (h hx4).elim
       · exact h
end Go.Proofs.YtmpkejflgpodkaaGreatDoor
namespace Go.Proofs.YtmpkejflgpodkaaGreatDoor
open Go.RowKit
abbrev StC:=List (Wh × List Rf)
def getKi (S : StC) (w : Wh) : List Rf:=match S.find? (fun e=>decide (e.1=w)) with | some e=>e.2 | none=>[]
def putKi (S : StC) (w : Wh) (r : Rf) : StC:=if ∃ e∈S,e.1=w then S.map (fun e=>if e.1=w then (e.1,e.2++[r]) else e) else S++[(w,[r])]
def doC (S : StC) (x : OpI) : StC:=if x.1.ins=true then putKi S (wh0 x) x.2 else S
def newC (K : List OpI) : StC:=K.foldl doC []
theorem getKi_map (S : StC) (w w' : Wh) (r : Rf) (h : ∃ e∈S,e.1=w) : getKi (S.map fun e=>if e.1=w then (e.1,e.2++[r]) else e) w'=if w'=w then getKi S w++[r] else getKi S w':=by
 induction S with
 | nil=>obtain ⟨e,he,-⟩:=h;cases he
 | cons a S ih =>
   by_cases ha : a.1=w
   · by_cases hw : w'=w
     · subst hw
       simp [getKi,ha]
     · have hne : ¬ a.1=w':=fun e=>hw (by rw [← e,ha])
       have hne' : ¬ w=w':=fun e=>hw e.symm
       rw [if_neg hw]
       by_cases hS : ∃ e∈S,e.1=w
       · have:=ih hS
         rw [if_neg hw] at this
         unfold getKi at this ⊢
         simpa [ha,hne'] using this
       · have he : (S.map fun e=>if e.1=w then (e.1,e.2++[r]) else e)=S:=by
          conv=>rhs;rw [← List.map_id S]
          exact List.map_congr_left fun e he=>by rw [if_neg fun h=>hS ⟨e,he,h⟩];rfl
         unfold getKi
         rw [List.map_cons,he]
         simp [ha,hne']
   · have hS : ∃ e∈S,e.1=w:=by
      obtain ⟨e,he,h1⟩:=h
      rcases List.mem_cons.1 he with h2 | h2
      · exact (ha (h2▸h1)).elim
      · exact ⟨e,h2,h1⟩
     have:=ih hS
     by_cases hw : a.1=w'
     · have hne : ¬ w'=w:=fun e=>ha (hw.trans e)
       rw [if_neg hne]
       simp [getKi,ha,hw,hne]
     · by_cases h1 : w'=w
       · subst h1
         unfold getKi at this ⊢
         simpa [ha] using this
       · rw [if_neg h1] at this ⊢
         unfold getKi at this ⊢
         simpa [ha,hw] using this
theorem getKi_put (S : StC) (w w' : Wh) (r : Rf) : getKi (putKi S w r) w'=if w'=w then getKi S w++[r] else getKi S w':=by
 unfold putKi
 split
 · rename_i h;exact getKi_map S w w' r h
 · rename_i h
   have hn : S.find? (fun e=>decide (e.1=w))=none:=List.find?_eq_none.2 fun e he=>by simpa using fun h1=>h ⟨e,he,h1⟩
   unfold getKi
   by_cases hw : w'=w
   · subst hw
     rw [List.find?_append,hn]
     simp
   · rw [List.find?_append,if_neg hw]
     have : [(w,[r])].find? (fun e=>decide (e.1=w'))=none:=by simp [Ne.symm hw]
     rw [this]
     simp
theorem newC_at (K : List OpI) (w : Wh) : getKi (newC K) w=(K.filter fun x=>decide (x.1.ins=true∧wh0 x=w)).map Prod.snd:=by
 suffices h : ∀ (l : List OpI) (S : StC),getKi (l.foldl doC S) w=getKi S w++(l.filter fun x=>decide (x.1.ins=true∧wh0 x=w)).map Prod.snd by
  have:=h K []
  simpa [newC,getKi] using this
 intro l
 induction l with
 | nil=>intro S;simp
 | cons x l ih =>
   intro S
   rw [List.foldl_cons,ih,List.filter_cons]
   unfold doC
   by_cases hi : x.1.ins=true
   · rw [if_pos hi,getKi_put]
     by_cases hw : wh0 x=w
     · rw [if_pos hw.symm,if_pos (by simp [hi,hw]),List.map_cons,List.append_assoc,hw];rfl
     · rw [if_neg (Ne.symm hw),if_neg (by simp [hw])]
   · rw [if_neg hi,if_neg (by simp [hi])]
theorem newC_kids {K : List OpI} {obj : Rf} (h : ∀ x∈K,objP x=obj→x.1.key=⟨#[]⟩) (n : Rf) : getKi (newC K) (obj,⟨#[]⟩,n)=kidIds K obj n:=by
 rw [newC_at,kidIds]
 congr 1
 refine List.filter_congr fun x hx=>?_
 unfold isKid wh0
 by_cases ho : objP x=obj
 · have hk:=h x hx ho
   by_cases hi : x.1.ins=true <;> by_cases he : elP x=n <;> simp [ho,hk,hi,he]
 · by_cases hi : x.1.ins=true <;> simp [ho,hi]
end Go.Proofs.YtmpkejflgpodkaaGreatDoor
namespace Go.Proofs.YtmpkejflgpodkaaGreatDoor
open Go.RowKit
abbrev StK:=List (Rf × Int)
def newK (K : List OpI) : StK:=((0,0),5)::(K.filter fun x=>decide (x.1.k=2)).map fun x=>(x.2,x.1.vk)
def getKd (S : StK) (o : Rf) : Int:=match S.find? (fun e=>decide (e.1=o)) with | some e=>e.2 | none=>0
theorem newK_snoc (K : List OpI) (x : OpI) : newK (K++[x])=if x.1.k=2 then newK K++[(x.2,x.1.vk)] else newK K:=by
 unfold newK
 rw [List.filter_append]
 by_cases h : x.1.k=2
 · rw [if_pos h,List.filter_cons_of_pos (by simpa using h)];simp
 · rw [if_neg h,List.filter_cons_of_neg (by simpa using h)];simp
theorem newK_keys {K : List OpI} {e : Rf × Int} (h : e∈newK K) : e.1=(0,0)∨e.1∈K.map Prod.snd:=by
 rcases List.mem_cons.1 h with rfl | h
 · exact .inl rfl
 · obtain ⟨x,hx,rfl⟩:=List.mem_map.1 h
   exact .inr (List.mem_map.2 ⟨x,(List.mem_filter.1 hx).1,rfl⟩)
theorem newK_at {K : List OpI} (hn : (K.map Prod.snd).Nodup) (o : Rf) : getKd (newK K) o=kindJ K o:=by
 by_cases h0 : o=(0,0)
 · subst h0
   simp [getKd,newK,kindJ]
 · unfold kindJ newK getKd
   rw [if_neg h0,List.find?_cons_of_neg (by simpa using fun e=>h0 e.symm)]
   clear h0
   induction K with
   | nil=>rfl
   | cons x K ih =>
     rw [List.map_cons,List.nodup_cons] at hn
     have ih:=ih hn.2
     by_cases ho : x.2=o
     · have hl : lookP (x::K) o=some x:=by unfold lookP;rw [List.find?_cons_of_pos (by simpa using ho)]
       rw [hl]
       by_cases hk : x.1.k=2
       · rw [List.filter_cons_of_pos (by simpa using hk),List.map_cons,List.find?_cons_of_pos (by simpa using ho)]
         simp [hk]
       · rw [List.filter_cons_of_neg (by simpa using hk)]
         have hno : ((K.filter fun x=>decide (x.1.k=2)).map fun x=>(x.2,x.1.vk)).find? (fun e=>decide (e.1=o))=none:=by
          refine List.find?_eq_none.2 fun e he=>?_
          obtain ⟨y,hy,rfl⟩:=List.mem_map.1 he
          have hy:=(List.mem_filter.1 hy).1
          simp only [decide_eq_true_eq]
          intro h
          exact hn.1 (List.mem_map.2 ⟨y,hy,h.trans ho.symm⟩)
         rw [hno]
         simp [hk]
     · have hl : lookP (x::K) o=lookP K o:=by unfold lookP;rw [List.find?_cons_of_neg (by simpa using ho)]
       rw [hl,← ih]
       by_cases hk : x.1.k=2
       · rw [List.filter_cons_of_pos (by simpa using hk),List.map_cons,List.find?_cons_of_neg (by simpa using ho)]
       · rw [List.filter_cons_of_neg (by simpa using hk)]
end Go.Proofs.YtmpkejflgpodkaaGreatDoor
namespace Go.Proofs.YtmpkejflgpodkaaGreatDoor
open Go.ChangeShapes Go.WideShapes Go.ChangeAt Go.RowKit
def vlV (v : VD) : Value:=.agg #[.int .i64 v.k,.int .i64 v.n,.string v.t,.int .i64 v.a,.int .i64 v.b]
abbrev ValsL:=List (Wh × Nat × List (Rf × VD))
def rowB (C : KidsL) : List Nat:=C.filterMap fun x=>x.2.1.ownBlock
def allB (g kb vb cb lb : Nat) (V : ValsL) (C : KidsL) : List Nat:=g::kb::vb::cb::lb::(V.map fun x=>x.2.1)++rowB C
structure SMem (B : Nat) (w : World) (g kb vb cb lb : Nat) (K : List OpI) (V : ValsL) (C : KidsL) : Prop where
 blk : Blk w g 100 #[.map (some kb),.map (some vb),.map (some cb),.map (some lb)]
 kinds : MapL w 24 kb ((newK K).map fun e=>(refV e.1,.int .i64 e.2))
 vals : MapL w 126 vb (V.map fun x=>(whV x.1,.map (some x.2.1)))
 each : ∀ x∈V,MapL w 24 x.2.1 (x.2.2.map fun e=>(refV e.1,vlV e.2))
 isV : V.map (fun x=>(x.1,x.2.2))=newV K
 kids : MapL w 126 cb (C.map fun x=>(whV x.1,x.2.1))
 row : ∀ x∈C,w.ownsRow B 24 2 x.2.1 x.2.2.length (refC x.2.2)
 isC : C.map (fun x=>(x.1,x.2.2))=newC K
 lists : MapL w 24 lb ((K.filter fun x=>x.1.ins).map fun x=>(refV x.2,refV (objP x)))
 low : ∀ k∈allB g kb vb cb lb V C,B≤k
 apart : (allB g kb vb cb lb V C).Nodup
theorem SMem.kidsAt {B : Nat} {w : World} {g kb vb cb lb : Nat} {K : List OpI} {V : ValsL} {C : KidsL} (h : SMem B w g kb vb cb lb K V C) : KidsAt w cb C :=
 ⟨h.kids,fun x hx=>by
  have h1:=h.row x hx
  obtain ⟨A,c,e,-,-,hr⟩:=Reads.of_own h1
  exact ⟨A,c,e,hr.more fun k hk=>(own_lt h1 hk).2⟩⟩
theorem SMem.kidsC {B : Nat} {w : World} {g kb vb cb lb : Nat} {K : List OpI} {V : ValsL} {C : KidsL} (h : SMem B w g kb vb cb lb K V C) (x : Wh) : Go.Proofs.YtmpkejflgpodkaaGreatDoor.kidsC C x=getKi (newC K) x:=by
 rw [← h.isC]
 unfold Go.Proofs.YtmpkejflgpodkaaGreatDoor.kidsC getKi
 rw [List.find?_map]
 cases hf : C.find? (fun y=>decide (y.1=x)) with
 | some y=>rw [show ((fun e : Wh × List Rf=>decide (e.1=x)) ∘ fun x : Wh × Value × List Rf=>(x.1,x.2.2))=fun y=>decide (y.1=x) from rfl,hf];rfl
 | none=>rw [show ((fun e : Wh × List Rf=>decide (e.1=x)) ∘ fun x : Wh × Value × List Rf=>(x.1,x.2.2))=fun y=>decide (y.1=x) from rfl,hf];rfl
theorem stElems_any {K : List OpI} (N : Int) (o1 o2 : Int) {B g kb vb cb lb : Nat} {V : ValsL} {C : KidsL} (w : World) (hm : SMem B w g kb vb cb lb K V C) (hK : KTree K N) (hids : ∀ x∈K,I64R x.2) (ho : I64R (o1,o2)) (hl : K.length≤100000) (hk : ∀ x∈K,objP x=(o1,o2)→x.1.key=⟨#[]⟩) :
 Calls Tryz.prog 34 #[.pointer (some ⟨g,0,none⟩),.agg #[.int .i64 o1,.int .i64 o2]] w fun e w'=>∃ v,e=.returned v ∧
  w'.ownsRow w.heap.size 24 2 v (subE K (o1,o2) N (0,0)).length (refC (subE K (o1,o2) N (0,0)))∧Below w.heap.size w w' :=
 elems_any K N o1 o2 C g cb _ _ _ w hK hids ho hl hm.blk hm.kidsAt fun n=>by
  have h1:=hm.kidsC ((o1,o2),⟨#[]⟩,n)
  rw [newC_kids hk n] at h1
  exact h1▸List.Perm.refl _
theorem refV_eq {a b : Rf} (h : refV a=refV b) : a=b:=by
 obtain ⟨a1,a2⟩:=a
 obtain ⟨b1,b2⟩:=b
 simpa [refV] using h
theorem zero_int (w : World) : (zeroValue 3).run Tryz.prog w=.ok (.int .i64 0) w:=by kernel_rfl
theorem SMem.kind {B : Nat} {w : World} {g kb vb cb lb : Nat} {K : List OpI} {V : ValsL} {C : KidsL} (h : SMem B w g kb vb cb lb K V C) (hn : (K.map Prod.snd).Nodup) {o : Rf} (ho : I64R o) :
 (Instr.lookup 95 (.map (some kb)) (refV o) false).run Tryz.prog w=.ok (.int .i64 (kindJ K o)) w:=by
 rw [← newK_at hn o]
 unfold getKd
 cases hf : (newK K).find? (fun e=>decide (e.1=o)) with
 | some e =>
   have he:=List.mem_of_find?_eq_some hf
   have h1 : e.1=o:=by simpa using List.find?_some hf
   exact MapL.hit h.kinds keyed_id Tryz.underlying95 (zero_int w) (List.mem_map.2 ⟨e,he,by rw [h1]⟩) false
 | none =>
   obtain ⟨kl,hkl⟩:=keyOf_id ho
   exact MapL.miss h.kinds keyed_id Tryz.underlying95 (zero_int w) hkl (fun p hp e=>by
    obtain ⟨y,hy,rfl⟩:=List.mem_map.1 hp
    have:=List.find?_eq_none.1 hf y hy
    rw [refV_eq e] at this
    simp at this) false
end Go.Proofs.YtmpkejflgpodkaaGreatDoor
namespace Go.Proofs.YtmpkejflgpodkaaGreatDoor
open Go.ChangeShapes Go.WideShapes Go.ChangeAt Go.RowKit
theorem RefRow.cell1 {w : World} {g : Nat} {l : List Rf} (h : RefRow w g l) {k : Nat} {r : Rf} (hr : l[k]?=some r) : w.cell? ⟨g,k*2,none⟩=some (.int .i64 r.1):=(h _ _ (refC_at hr).1).1
theorem RefRow.cell2 {w : World} {g : Nat} {l : List Rf} (h : RefRow w g l) {k : Nat} {r : Rf} (hr : l[k]?=some r) : w.cell? ⟨g,k*2+1,none⟩=some (.int .i64 r.2):=(h _ _ (refC_at hr).2).1
theorem refC_cons (r : Rf) (l : List Rf) : refC (r::l)=[.int .i64 r.1,.int .i64 r.2]++refC l:=by simp [refC]
theorem RefRow.set {w : World} {g : Nat} {l : List Rf} (h : RefRow w g l) (k : Nat) (r : Rf) (hk : k < l.length) : RefRow ((w.setCell ⟨g,k*2,none⟩ (.int .i64 r.1)).setCell ⟨g,k*2+1,none⟩ (.int .i64 r.2)) g (l.set k r):=by
 have ew : (w.setCell ⟨g,k*2,none⟩ (.int .i64 r.1)).setCell ⟨g,k*2+1,none⟩ (.int .i64 r.2)=w.setCells g (k*2) [.int .i64 r.1,.int .i64 r.2]:=rfl
 rw [ew]
 intro j u hu
 have e1 : l.set k r=l.take k++r::l.drop (k+1):=by rw [List.set_eq_take_append_cons_drop,if_pos hk]
 have e2 : l=l.take k++l[k]::l.drop (k+1):=by rw [← List.drop_eq_getElem_cons hk,List.take_append_drop]
 have hlt : (refC (l.take k)).length=k*2:=by rw [refC_length,List.length_take];omega
 have H : ∀ j u,(refC l)[j]?=some u→w.cell? ⟨g,j,none⟩=some u∧w.frozen? ⟨g,j,none⟩=false:=h
 rw [e2,refC_append,refC_cons] at H
 rw [e1,refC_append,refC_cons] at hu
 have hz : ∀ i,i < 2→(w.cell? ⟨g,k*2+i,none⟩).isSome=true∧w.frozen? ⟨g,k*2+i,none⟩=false:=by
  intro i hi
  have:=H (k*2+i) (if i=0 then .int .i64 l[k].1 else .int .i64 l[k].2) (by
   rw [List.getElem?_append_right (by omega),hlt,show k*2+i - k*2=i from by omega]
   match i,hi with
   | 0,_=>rfl
   | 1,_=>rfl)
  exact ⟨by rw [this.1];rfl,this.2⟩
 rcases Nat.lt_or_ge j (k*2) with hj | hj
 · rw [List.getElem?_append_left (by omega)] at hu
   have:=H j u (by rw [List.getElem?_append_left (by omega)];exact hu)
   rw [World.frozen?_setCells,World.cell?_setCells_out g _ _ _ _ (fun _ _=>.inl hj)]
   exact this
 · rw [List.getElem?_append_right (by omega),hlt] at hu
   rcases Nat.lt_or_ge j (k*2+2) with hj2 | hj2
   · obtain ⟨i,hi,rfl⟩ : ∃ i,i < 2∧j=k*2+i:=⟨j - k*2,by omega,by omega⟩
     rw [show k*2+i - k*2=i from by omega,List.getElem?_append_left (by simpa using hi)] at hu
     rw [World.frozen?_setCells,World.cell?_setCells_in g [.int .i64 r.1,.int .i64 r.2] (k*2) w (fun j hj=>(hz j (by simpa using hj)).1) i (by simpa using hi)]
     refine ⟨?_,(hz i hi).2⟩
     rw [List.getElem?_eq_getElem (by simpa using hi)] at hu
     exact hu
   · rw [List.getElem?_append_right (by simp;omega)] at hu
     have:=H j u (by rw [List.getElem?_append_right (by omega),hlt,List.getElem?_append_right (by simp;omega)];exact hu)
     rw [World.frozen?_setCells,World.cell?_setCells_out g _ _ _ _ (fun _ _=>.inr (by simpa using hj2))]
     exact this
theorem RefRow.cleared {w : World} {g : Nat} {l : List Rf} (h : RefRow w g l) (m : Nat) (vs : List Value) : RefRow (w.setCells g (m*2) vs) g (l.take m):=by
 intro j u hu
 have hl : (refC (l.take m)).length≤m*2:=by rw [refC_length,List.length_take];omega
 have hj : j < (refC (l.take m)).length:=(List.getElem?_eq_some_iff.1 hu).1
 have e : refC l=refC (l.take m)++refC (l.drop m):=by rw [← refC_append,List.take_append_drop]
 have:=h j u (by rw [e,List.getElem?_append_left hj];exact hu)
 rw [World.frozen?_setCells,World.cell?_setCells_out g _ _ _ _ (fun _ _=>.inl (show j < m*2 by omega))]
 exact this
theorem chg_setCells {w : World} {g : Nat} : ∀ (vs : List Value) (o : Nat) {w' : World},Chg (fun k=>k=g) w w'→Chg (fun k=>k=g) w (w'.setCells g o vs)
 | [],_,_,h=>h
 | v::vs,o,_,h=>chg_setCells vs (o+1) (h.setCell (p:=⟨g,o,none⟩) (.inl rfl) v)
theorem clear_refs (w : World) (g o n c : Nat) (hn : 0 < n) (hc : ∀ i,i < n*2→(w.cell? ⟨g,o+i,none⟩).isSome=true) (hf : ∀ i,i < n*2→w.frozen? ⟨g,o+i,none⟩=false) :
 (Builtin.clear_ #[79] 0 #[.slice (some ⟨g,o,none⟩) n c]).run Tryz.prog w=.ok (.tuple #[]) (w.setCells g o (List.replicate (n*2) (.int .i64 0))):=by
 have hz : (zeroValue 77).run Tryz.prog w=.ok (.agg #[.int .i64 0,.int .i64 0]) w:=Tryz.zeroValue77 w
 have hzc : (Builtin.zeroCells (Value.agg #[.int .i64 0,.int .i64 0]).cells n).toList=List.replicate (n*2) (.int .i64 0):=by
  apply List.ext_getElem
  · simp [Builtin.zeroCells,Value.cells]
  · intro i h1 h2
    simp only [Builtin.zeroCells,Value.cells]
    rcases Nat.mod_two_eq_zero_or_one i with h | h <;> simp [h]
 have hst:=run_storeCells_cells (P:=Tryz.prog) g o (List.replicate (n*2) (.int .i64 0)) 0 w (by simpa using hc) (by simpa using hf) (by intro v hv;rw [List.eq_of_mem_replicate hv];rfl)
 simp only [Nat.add_zero] at hst
 obtain ⟨m,rfl⟩ : ∃ m,n=m+1:=⟨n - 1,by omega⟩
 simp [Builtin.clear_,run_underlying Tryz.underlying79,hz,hzc,hst]
theorem RefRow.shifted {w : World} {g : Nat} {l : List Rf} (h : RefRow w g l) {i : Nat} (hi : i < l.length) : RefRow (w.setCells g (i*2) (refC (l.drop (i+1)))) g (l.eraseIdx i):=by
 intro j u hu
 have e1 : l.eraseIdx i=l.take i++l.drop (i+1):=List.eraseIdx_eq_take_drop_succ l i
 have hlt : (refC (l.take i)).length=i*2:=by rw [refC_length,List.length_take];omega
 have hld : (refC (l.drop (i+1))).length=(l.length - (i+1))*2:=by rw [refC_length,List.length_drop]
 have H : ∀ j u,(refC l)[j]?=some u→w.cell? ⟨g,j,none⟩=some u∧w.frozen? ⟨g,j,none⟩=false:=h
 have hh : ∀ j,j < l.length*2→(w.cell? ⟨g,j,none⟩).isSome=true∧w.frozen? ⟨g,j,none⟩=false:=fun j hj=>by
  obtain ⟨u,hu⟩ : ∃ u,(refC l)[j]?=some u:=⟨_,List.getElem?_eq_getElem (by rw [refC_length];exact hj)⟩
  exact ⟨by rw [(H j u hu).1];rfl,(H j u hu).2⟩
 rw [e1,refC_append] at hu
 rcases Nat.lt_or_ge j (i*2) with hj | hj
 · rw [List.getElem?_append_left (by omega)] at hu
   have e2 : l=l.take i++l.drop i:=(List.take_append_drop i l).symm
   have:=H j u (by rw [e2,refC_append,List.getElem?_append_left (by omega)];exact hu)
   rw [World.frozen?_setCells,World.cell?_setCells_out g _ _ _ _ (fun _ _=>.inl hj)]
   exact this
 · rw [List.getElem?_append_right (by omega),hlt] at hu
   have hj2 : j - i*2 < (refC (l.drop (i+1))).length:=(List.getElem?_eq_some_iff.1 hu).1
   obtain ⟨k,rfl⟩ : ∃ k,j=i*2+k:=⟨j - i*2,by omega⟩
   rw [show i*2+k - i*2=k from by omega] at hu hj2
   rw [World.frozen?_setCells,World.cell?_setCells_in g (refC (l.drop (i+1))) (i*2) w (fun t ht=>(hh (i*2+t) (by rw [hld] at ht;omega)).1) k hj2]
   rw [List.getElem?_eq_getElem hj2] at hu
   exact ⟨hu,(hh (i*2+k) (by rw [hld] at hj2;omega)).2⟩
theorem append_down (w : World) (g i m cap cap2 : Nat) (ty : TypeId) (l : List Rf) (h : RefRow w g l) (hi : i+1+m=l.length) (hc : l.length≤cap) (hcm : cap≤9223372036854775807) :
 (Builtin.append_ #[79,79] ty #[.slice (some ⟨g,0,none⟩) i cap,.slice (some ⟨g,(i+1)*2,none⟩) m cap2]).run Tryz.prog w=.ok (.slice (some ⟨g,0,none⟩) (i+m) cap) (w.setCells g (i*2) (refC (l.drop (i+1)))):=by
 obtain ⟨i0,hi0,hz0,hz1,hz2⟩:=info_parts infoRef
 have hld : (refC (l.drop (i+1))).length=m*2:=by rw [refC_length,List.length_drop,show l.length - (i+1)=m from by omega]
 have hh : ∀ j u,(refC (l.drop (i+1)))[j]?=some u→w.cell? ⟨g,(i+1)*2+j,none⟩=some u:=fun j u hu=>by
  have e2 : l=l.take (i+1)++l.drop (i+1):=(List.take_append_drop (i+1) l).symm
  have hlt : (refC (l.take (i+1))).length=(i+1)*2:=by rw [refC_length,List.length_take,Nat.min_eq_left (by omega)]
  refine (h ((i+1)*2+j) u ?_).1
  rw [e2,refC_append,List.getElem?_append_right (by omega),hlt,show (i+1)*2+j - (i+1)*2=j from by omega]
  exact hu
 have hcell : ∀ j,j < l.length*2→(w.cell? ⟨g,j,none⟩).isSome=true∧w.frozen? ⟨g,j,none⟩=false:=fun j hj=>by
  obtain ⟨u,hu⟩ : ∃ u,(refC l)[j]?=some u:=⟨_,List.getElem?_eq_getElem (by rw [refC_length];exact hj)⟩
  have:=h j u hu
  exact ⟨by rw [this.1];rfl,this.2⟩
 have hfo:=run_firstCells_some (P:=Tryz.prog) w 2 m ⟨g,(i+1)*2,none⟩ m cap2 (refC (l.drop (i+1))) hld (fun j u hu=>by
  have:=hh j u hu
  unfold Addr.add
  split
  · rename_i e;rw [e] at this;exact this
  · simpa using this)
 have hst:=run_storeCells_cells (P:=Tryz.prog) g (i*2) (refC (l.drop (i+1))) 0 w (fun j hj=>(hcell (i*2+j) (by rw [hld] at hj;omega)).1) (fun j hj=>(hcell (i*2+j) (by rw [hld] at hj;omega)).2) (refC_one _)
 simp only [Nat.add_zero] at hst
 have hroom : i+m≤cap:=by omega
 simp [Builtin.append_,run_underlying Tryz.underlying79,sizeOf,typeInfo,hi0,hz1,Builtin.lenOf,hroom,hfo,Addr.add_lit,hst]
theorem append_down0 (w : World) (g i cap cap2 : Nat) (B : Option Addr) (ty : TypeId) (hi : i≤cap) :
 (Builtin.append_ #[79,79] ty #[.slice (some ⟨g,0,none⟩) i cap,.slice B 0 cap2]).run Tryz.prog w=.ok (.slice (some ⟨g,0,none⟩) i cap) w:=by
 obtain ⟨i0,hi0,hz0,hz1,hz2⟩:=info_parts infoRef
 have hf : (Builtin.firstCells 2 0 (.slice B 0 cap2)).run Tryz.prog w=.ok #[] w:=by
  cases B with
  | none=>exact run_firstCells_none (P:=Tryz.prog) w 2 0 0 cap2
  | some A=>exact run_firstCells_some (P:=Tryz.prog) w 2 0 A 0 cap2 [] rfl (fun j u hu=>by simp at hu)
 have hst:=run_storeCells_cells (P:=Tryz.prog) g (i*2) [] 0 w (fun j hj=>by simp at hj) (fun j hj=>by simp at hj) (fun u hu=>by simp at hu)
 simp only [Nat.add_zero] at hst
 simp [Builtin.append_,run_underlying Tryz.underlying79,sizeOf,typeInfo,hi0,hz1,Builtin.lenOf,hi,hf,Addr.add_lit,hst]
 rfl
set_option maxHeartbeats 4000000 in
set_option maxRecDepth 20000 in
theorem delete1_any (g cap i n m : Nat) (l : List Rf) (w : World) (h : RefRow w g l) (hn : l.length=n) (hi : i+1+m=n) (hl : n≤1000000) (hc : n≤cap) (hm : cap≤9223372036854775807) (hcj : ¬ cap=i+1) :
 Calls Tryz.prog 93 #[.slice (some ⟨g,0,none⟩) n cap,.int .i64 i,.int .i64 ((i : Int)+1)] w fun e w' =>
  e=.returned (.slice (some ⟨g,0,none⟩) (i+m) cap)∧RefRow w' g (l.eraseIdx i)∧Chg (fun k=>k=g) w w':=by
 have HN:=Lib.hid hn
 have hap:=fun c2 ty=>append_down w.drew g i m cap c2 ty l (h.keep (w':=w.drew) rfl) (by omega) (by omega) hm
 have HR1 : Hid (RefRow (w.drew.setCells g (i*2) (refC (l.drop (i+1)))) g (l.eraseIdx i)):=(h.keep (w':=w.drew) rfl).shifted (by omega)
 have HC1 : Hid (Chg (fun k=>k=g) w (w.drew.setCells g (i*2) (refC (l.drop (i+1))))):=chg_setCells _ _ (Chg.refl w).drew
 have hld : (refC (l.drop (i+1))).length=m*2:=by rw [refC_length,List.length_drop,show l.length - (i+1)=m from by omega]
 have hzz : ∀ j,j < 1*2→((w.drew.setCells g (i*2) (refC (l.drop (i+1)))).cell? ⟨g,(i+m)*2+j,none⟩).isSome=true∧(w.drew.setCells g (i*2) (refC (l.drop (i+1)))).frozen? ⟨g,(i+m)*2+j,none⟩=false:=by
  intro j hj
  obtain ⟨u,hu⟩ : ∃ u,(refC l)[(i+m)*2+j]?=some u:=⟨_,List.getElem?_eq_getElem (by rw [refC_length];omega)⟩
  have:=h _ u hu
  rw [World.frozen?_setCells,World.cell?_setCells_out g _ _ _ _ (fun _ _=>.inr (by show i*2+_≤(i+m)*2+j;rw [hld];omega))]
  exact ⟨by rw [show w.drew.cell? ⟨g,(i+m)*2+j,none⟩=w.cell? ⟨g,(i+m)*2+j,none⟩ from rfl,this.1];rfl,this.2⟩
 have hclr:=clear_refs (w.drew.setCells g (i*2) (refC (l.drop (i+1)))) g ((i+m)*2) 1 (cap - (i+m)) (by omega) (fun j hj=>(hzz j hj).1) (fun j hj=>(hzz j hj).2)
 have HRL : Hid ((l.eraseIdx i).length=i+m):=by show _=_;rw [List.length_eraseIdx_of_lt (by omega)];omega
 clear hzz hld
 have hki : n - (i+1)=m:=by omega
 have hkm : n - (i+m)=1:=by omega
 have hcm : ¬ cap=i+m:=by omega
 have him : i+m≤n:=by omega
 have hic : i≤cap:=by omega
 have hin : i+1≤n:=by omega
 have hi0 : 0≤(i : Int)+1:=by omega
 have hi1 : (i : Int)+1≤(n : Int):=by omega
 clear h hn
 go_enter Tryz.func93,Tryz.ntmps93
 · go_wp2_with fail
   refine wp_region_still_tail 6 (by kernel_rfl) (by kernel_rfl) ?_
   simp only [List.take_succ_cons,List.take_zero,List.drop_succ_cons,List.drop_zero]
   repeat (first | (refine wpStill_want rfl (fun K hK=>?_);go_simp;refine hK _ ?_;clear hK K) | (refine wpStill_skip rfl ?_;go_frame))
   refine wpStill_nil ?_
   change wpList _ _ _ _ _ w.drew
   go_wp2_with (refine wpList_app rfl (.tmp 22) (.tmp 25) 79 79 rfl _ _ rfl rfl (fun v' w'=>v'=.slice (some ⟨g,0,none⟩) (i+m) cap∧w'=w.drew.setCells g (i*2) (refC (l.drop (i+1)))) ⟨_,_,hap _ _,rfl,rfl⟩ ?_;rintro v' w' ⟨rfl,rfl⟩)
   go_wp2_with fail
   go_ret
   exact ⟨rfl,by have:=HR1.out.cleared (i+m) (List.replicate (1*2) (.int .i64 0));rw [List.take_of_length_le (by rw [HRL.out];omega)] at this;exact this,chg_setCells _ _ HC1.out⟩
set_option maxHeartbeats 4000000 in
set_option maxRecDepth 20000 in
theorem delete0_any (g i : Nat) (l : List Rf) (w : World) (h : RefRow w g l) (hn : l.length=i+1) (hl : i≤1000000) :
 Calls Tryz.prog 93 #[.slice (some ⟨g,0,none⟩) (i+1) (i+1),.int .i64 i,.int .i64 ((i : Int)+1)] w fun e w' =>
  e=.returned (.slice (some ⟨g,0,none⟩) i (i+1))∧RefRow w' g (l.eraseIdx i)∧Chg (fun k=>k=g) w w':=by
 have hap:=fun c2 B ty=>append_down0 w.drew g i (i+1) c2 B ty (by omega)
 have HR1 : Hid (RefRow w.drew g l):=h.keep (w':=w.drew) rfl
 have hzz : ∀ j,j < 1*2→(w.drew.cell? ⟨g,i*2+j,none⟩).isSome=true∧w.drew.frozen? ⟨g,i*2+j,none⟩=false:=by
  intro j hj
  obtain ⟨u,hu⟩ : ∃ u,(refC l)[i*2+j]?=some u:=⟨_,List.getElem?_eq_getElem (by rw [refC_length];omega)⟩
  have:=HR1.out _ u hu
  exact ⟨by rw [this.1];rfl,this.2⟩
 have hclr:=clear_refs w.drew g (i*2) 1 1 (by omega) (fun j hj=>(hzz j hj).1) (fun j hj=>(hzz j hj).2)
 have HRL : Hid (l.eraseIdx i=l.take i):=by show _=_;rw [List.eraseIdx_eq_take_drop_succ,List.drop_of_length_le (by omega),List.append_nil]
 clear hzz
 have hkm : i+1 - i=1:=by omega
 have hic : i≤i+1:=by omega
 have hi0 : 0≤(i : Int)+1:=by omega
 have hcm : ¬ i+1=i:=by omega
 have hi2 : (i : Int)≤(i : Int)+1:=by omega
 clear h hn
 go_enter Tryz.func93,Tryz.ntmps93
 go_wp2_with fail
 refine wp_region_still_tail 6 (by kernel_rfl) (by kernel_rfl) ?_
 simp only [List.take_succ_cons,List.take_zero,List.drop_succ_cons,List.drop_zero]
 repeat (first | (refine wpStill_want rfl (fun K hK=>?_);go_simp;refine hK _ ?_;clear hK K) | (refine wpStill_skip rfl ?_;go_frame))
 refine wpStill_nil ?_
 change wpList _ _ _ _ _ w.drew
 go_wp2_with (refine wpList_app rfl (.tmp 22) (.tmp 25) 79 79 rfl _ _ rfl rfl (fun v' w'=>v'=.slice (some ⟨g,0,none⟩) i (i+1)∧w'=w.drew) ⟨_,_,hap _ _ _,rfl,rfl⟩ ?_;rintro v' w' ⟨rfl,rfl⟩)
 go_wp2_with fail
 go_ret
 exact ⟨rfl,by rw [HRL.out];exact HR1.out.cleared i (List.replicate (1*2) (.int .i64 0)),chg_setCells _ _ (Chg.refl w).drew⟩
theorem delete_any (g cap i n m : Nat) (l : List Rf) (w : World) (h : RefRow w g l) (hn : l.length=n) (hi : i+1+m=n) (hl : n≤1000000) (hc : n≤cap) (hm : cap≤9223372036854775807) :
 Calls Tryz.prog 93 #[.slice (some ⟨g,0,none⟩) n cap,.int .i64 i,.int .i64 ((i : Int)+1)] w fun e w' =>
  e=.returned (.slice (some ⟨g,0,none⟩) (i+m) cap)∧RefRow w' g (l.eraseIdx i)∧Chg (fun k=>k=g) w w':=by
 by_cases hcj : cap=i+1
 · obtain rfl : m=0:=by omega
   obtain rfl : n=i+1:=by omega
   subst hcj
   exact delete0_any g i l w h hn (by omega)
 · exact delete1_any g cap i n m l w h hn hi hl hc hm hcj
end Go.Proofs.YtmpkejflgpodkaaGreatDoor
namespace Go.Proofs.YtmpkejflgpodkaaGreatDoor
open Go.ChangeShapes Go.WideShapes Go.ChangeAt Go.RowKit
structure SetV (w : World) (q m : Nat) (S : List Rf) : Prop where
 cell : w.cell? ⟨q,0,none⟩=some (.map (some m))
 lt : q < w.heap.size
 set : SetM w m S
theorem SetV.below {w w' : World} {q m : Nat} {S : List Rf} (h : SetV w q m S) (hb : Below w.heap.size w w') : SetV w' q m S :=
 ⟨(World.cell?_of_block (hb.block _ h.lt)).trans h.cell,Nat.lt_of_lt_of_le h.lt hb.size,h.set.keep (hb.block _ (MapL.lt h.set))⟩
set_option maxHeartbeats 2000000 in
theorem all11_any (S : List Rf) (r : Rf) (hr : I64R r) (q m : Nat) (w : World) (hS : SetV w q m S) :
 Calls Tryz.prog 91 (#[.agg #[.int .i64 r.1,.int .i64 r.2]]++#[.pointer (some ⟨q,0,none⟩)]) w fun e w'=>e=.returned (.bool (!decide (r∈S)))∧Below w.heap.size w w':=by
 have hW : Below w.heap.size w (w.alloc (.cells #[.int .i64 r.1,.int .i64 r.2] 77)):=(Below.refl _ w).alloc (Nat.le_refl _) _
 have hQ:=Blk.new w 77 #[.int .i64 r.1,.int .i64 r.2]
 have hS2:=hS.below hW
 have HW:=Lib.hid hW
 obtain ⟨ok,hok⟩ : ∃ ok,decide (r∈S)=ok:=⟨_,rfl⟩
 rw [hok]
 clear hS hW
 show Calls _ _ #[.agg #[.int .i64 r.1,.int .i64 r.2],.pointer (some ⟨q,0,none⟩)] _ _
 go_enter Tryz.func91,Tryz.ntmps91
 go_upto_region 1 with fail
 generalize w.alloc (.cells #[.int .i64 r.1,.int .i64 r.2] 77)=V at *
 have r1 : V.cell? ⟨w.heap.size,0,none⟩=some (.int .i64 r.1):=hQ.cell 0
 have r2 : V.cell? ⟨w.heap.size,1,none⟩=some (.int .i64 r.2):=hQ.cell 1
 have m1:=hS2.cell
 have hlk:=hS2.set.look hr
 rw [hok] at hlk
 unfold refV at hlk
 clear hS2 hQ hok
 go_wp2_with fail
 go_ret
 exact ⟨rfl,HW.out⟩
set_option maxHeartbeats 4000000 in
set_option maxRecDepth 20000 in
theorem field_deps (a s st : Int) (A : Option Addr) (n c : Nat) (A' : Option Addr) (n' c' : Nat) (w : World) :
 (Instr.field 82 (.agg #[.int .i64 a,.int .i64 s,.int .i64 st,.slice A n c,.slice A' n' c']) 3).run Tryz.prog w=.ok (.slice A n c) w:=by kernel_rfl
set_option maxHeartbeats 4000000 in
set_option maxRecDepth 20000 in
theorem all1_any (L : List ChD) (x : ChD) (hf : findC L x.rf=some x) (hr : I64R x.rf) (hd : ∀ d∈x.deps,I64R d) (S : List Rf) (g bh q q2 m : Nat) (V2 V3 : Value) (w : World) (hB : HB w g bh V2 V3 L) (hx : ChIn (fun k=>k < w.heap.size) w x)
 (hq : w.cell? ⟨q,0,none⟩=some (.pointer (some ⟨g,0,none⟩))) (hql : q < w.heap.size) (hS : SetV w q2 m S) :
 Calls Tryz.prog 89 (#[.agg #[.int .i64 x.a,.int .i64 x.s]]++#[.pointer (some ⟨q,0,none⟩),.pointer (some ⟨q2,0,none⟩)]) w fun e w'=>e=.returned (.bool (x.deps.all fun d=>decide (d∈S)))∧Below w.heap.size w w':=by
 have hW : Below w.heap.size w (w.alloc (.cells #[.int .i64 x.a,.int .i64 x.s] 77)):=(Below.refl _ w).alloc (Nat.le_refl _) _
 have hQ:=Blk.new w 77 #[.int .i64 x.a,.int .i64 x.s]
 have hS2:=hS.below hW
 have hB2:=hB.below hW
 have hq2 : (w.alloc (.cells #[.int .i64 x.a,.int .i64 x.s] 77)).cell? ⟨q,0,none⟩=some (.pointer (some ⟨g,0,none⟩)):=by rw [World.cell?_alloc_lt _ _ _ hql];exact hq
 have hxd:=reads_below hx.hd hW
 have hxl:=hx.hdl
 have HW:=Lib.hid hW
 have EG : ∀ args w,(callFunc 91 args).run Tryz.prog w=.ok (.enter 91 args) w:=enters_of Tryz.func91 (by kernel_rfl) (Option.some_get (show Tryz.f91.body.isSome=true by kernel_rfl)).symm
 have hall : (x.deps.all fun d=>decide (d∈S))=!(x.deps.any fun d=>!decide (d∈S)):=by rw [List.not_any_eq_all_not];simp
 obtain ⟨ok,hok⟩ : ∃ ok,(x.deps.any fun d=>!decide (d∈S))=ok:=⟨_,rfl⟩
 rw [hall,hok]
 clear hS hW hB hq hall hx
 show Calls _ _ #[.agg #[.int .i64 x.a,.int .i64 x.s],.pointer (some ⟨q,0,none⟩),.pointer (some ⟨q2,0,none⟩)] _ _
 go_enter Tryz.func89,Tryz.ntmps89
 go_upto_region 1 with fail
 generalize w.alloc (.cells #[.int .i64 x.a,.int .i64 x.s] 77)=V at *
 have r1 : V.cell? ⟨w.heap.size,0,none⟩=some (.int .i64 x.a):=hQ.cell 0
 have r2 : V.cell? ⟨w.heap.size,1,none⟩=some (.int .i64 x.s):=hQ.cell 1
 have g0 : V.cell? ⟨g,0,none⟩=some (.map (some bh)):=hB2.blk.cell 0
 have hlk:=(hB2.below (Below.refl _ V).drew).mh.look hr false
 have hlv : lookV L x.rf=x.v:=by unfold lookV;rw [hf]
 rw [hlv] at hlk
 unfold ChD.v ChD.rf at hlk
 simp only [Bool.false_eq_true,if_false] at hlk
 have C1:=containsF_any x.deps x.DA x.DC V.drew (hxd.keep fun k hk=>rfl) hxl 91 #[.pointer (some ⟨q2,0,none⟩)] (fun d=>!decide (d∈S)) EG
  (fun W r hr' hb=>all11_any S r (hd r hr') q2 m W ((hS2.below (Below.refl _ V).drew).below hb))
 rw [hok] at C1
 have hfl:=fun w=>field_deps x.a x.s x.st x.DA x.deps.length x.DC x.OA x.ops.length x.OC w
 clear hS2 hQ hB2 hlv
 refine wp_region_still_tail 8 (by kernel_rfl) (by kernel_rfl) ?_
 simp only [List.take_succ_cons,List.take_zero,List.drop_succ_cons,List.drop_zero]
 repeat (first | (refine wpStill_want rfl (fun K hK=>?_);go_simp;refine hK _ ?_;clear hK K) | (refine wpStill_skip rfl ?_;go_frame))
 refine wpStill_nil ?_
 change wpList _ _ _ _ _ V.drew
 go_wp2_with fail
 go_at_call 90
 refine C1.mono ?_
 rintro e w2 ⟨rfl,hb⟩
 replace HW : Hid (Below w.heap.size w w2):=HW.out.drew.trans (hb.mono HW.out.size)
 go_wp2_with fail
 go_ret
 exact ⟨rfl,HW.out⟩
end Go.Proofs.YtmpkejflgpodkaaGreatDoor
namespace Go.Proofs.YtmpkejflgpodkaaGreatDoor
open Go.ChangeShapes Go.WideShapes Go.ChangeAt Go.RowKit
end Go.Proofs.YtmpkejflgpodkaaGreatDoor
namespace Go.Proofs.YtmpkejflgpodkaaGreatDoor
open Go.ChangeShapes Go.WideShapes Go.ChangeAt Go.RowKit
def placeV (x : OpI) : Value:=.agg #[.int .i64 x.1.on,.int .i64 x.1.oa,.string x.1.key,.int .i64 (elemP x).1,.int .i64 (elemP x).2]
set_option maxHeartbeats 2000000 in
set_option maxRecDepth 20000 in
theorem place_any (x : OpI) (w : World) : Calls Tryz.prog 189 #[opIV x] w fun e w'=>e=.returned (placeV x)∧Below w.heap.size w w':=by
 have hres : Tryz.f189.results=#[.cell 2 270]:=by kernel_rfl
 unfold opIV placeV elemP
 cases hi : x.1.ins with
 | true =>
   simp only [if_true]
   go_enter Tryz.func189,Tryz.ntmps189
   go_wp2_with fail
   refine bodyPost_ret (v:=.agg #[.int .i64 x.1.on,.int .i64 x.1.oa,.string x.1.key,.int .i64 x.2.1,.int .i64 x.2.2]) ?_ rfl ⟨rfl,?_⟩
   · simp only [results,hres]
     go_simp
   · repeat first
      | exact Below.refl _ _
      | refine Below.setCell ?_ (by simp;try omega) _
      | refine Below.alloc ?_ (by simp;try omega) _
 | false =>
   simp only [Bool.false_eq_true,if_false]
   go_enter Tryz.func189,Tryz.ntmps189
   go_wp2_with fail
   refine bodyPost_ret (v:=.agg #[.int .i64 x.1.on,.int .i64 x.1.oa,.string x.1.key,.int .i64 x.1.en,.int .i64 x.1.ea]) ?_ rfl ⟨rfl,?_⟩
   · simp only [results,hres]
     go_simp
   · repeat first
      | exact Below.refl _ _
      | refine Below.setCell ?_ (by simp;try omega) _
      | refine Below.alloc ?_ (by simp;try omega) _
def OpsM (w : World) (b : Nat) (K : List OpI) : Prop:=MapL w 24 b (K.map fun x=>(refV x.2,opIV x))
theorem zero_op (w : World) : (zeroValue 250).run Tryz.prog w=.ok zeroO w:=by kernel_rfl
def lookOV (K : List OpI) (r : Rf) : Value:=match lookP K r with | some y=>opIV y | none=>zeroO
theorem lookP_in {K : List OpI} {r : Rf} {y : OpI} (h : lookP K r=some y) : y∈K∧y.2=r:=by
 unfold lookP at h
 exact ⟨List.mem_of_find?_eq_some h,by simpa using List.find?_some h⟩
theorem lookP_out {K : List OpI} {r : Rf} (h : lookP K r=none) : ∀ y∈K,y.2≠r:=by
 unfold lookP at h
 intro y hy
 simpa using List.find?_eq_none.1 h y hy
theorem OpsM.look {w : World} {b : Nat} {K : List OpI} (h : OpsM w b K) {r : Rf} (hr : I64R r) :
 (Instr.lookup 248 (.map (some b)) (.agg #[.int .i64 r.1,.int .i64 r.2]) true).run Tryz.prog w=.ok (.tuple #[lookOV K r,.bool (lookP K r).isSome]) w:=by
 unfold lookOV
 cases hf : lookP K r with
 | some y =>
   obtain ⟨h1,h2⟩:=lookP_in hf
   subst h2
   exact MapL.hit h keyed_id Tryz.underlying248 (zero_op w) (List.mem_map.2 ⟨y,h1,rfl⟩) true
 | none =>
   obtain ⟨kl,hk⟩:=keyOf_id hr
   refine MapL.miss h keyed_id Tryz.underlying248 (zero_op w) hk (fun p hp e=>?_) true
   obtain ⟨q,hq,rfl⟩:=List.mem_map.1 hp
   exact lookP_out hf q hq (refV_inj e)
set_option maxRecDepth 100000 in
theorem eq_place (a b : Int) (t : ByteArray) (c d a' b' : Int) (t' : ByteArray) (c' d' : Int) (w : World) :
 (Op.equalIn 10000 270 (.agg #[.int .i64 a,.int .i64 b,.string t,.int .i64 c,.int .i64 d]) (.agg #[.int .i64 a',.int .i64 b',.string t',.int .i64 c',.int .i64 d'])).run Tryz.prog w=.ok ((a == a' && b == b') && (t.toList == t'.toList && (c == c' && d == d'))) w:=by
 have hS : Tryz.prog.underlying 270=some (.struct (Tryz.prog.fieldsOf 270)):=by kernel_rfl
 have hp : Tryz.prog.stoodInHeld 270=false:=by kernel_rfl
 have hT : ∀ (x y : ByteArray) (w : World),(Op.equalIn 9999 9 (.string x) (.string y)).run Tryz.prog w=.ok (x.toList == y.toList) w:=fun x y w=>run_equalIn_string w 9998 9 x y Tryz.underlying9
 have hD:=eq_id9
 rw [show (10000 : Nat)=9999+1 from rfl,run_equalIn_agg w 9999 270 _ _ hS hp]
 simp only [Program.fieldsOf,Tryz.underlying270,Op.eqFields]
 generalize Op.equalIn 9999=EQ at hT hD ⊢
 go_simp
 by_cases h1 : a=a' <;> by_cases h2 : b=b' <;> by_cases h3 : t.toList=t'.toList <;> by_cases h4 : c=c' <;> by_cases h5 : d=d' <;> simp [h1,h2,h3,h4,h5]
theorem eq_places (y x : OpI) (w : World) : (Op.equalIn 10000 270 (placeV y) (placeV x)).run Tryz.prog w=.ok (placeP y x) w:=by
 unfold placeV placeP
 rw [eq_place]
 congr 1
 have e : decide (y.1.key=x.1.key)=(y.1.key.toList == x.1.key.toList):=by
  rw [dec_key]
  by_cases h : y.1.key.toList=x.1.key.toList <;> simp [h]
 rw [e]
 by_cases h1 : y.1.on=x.1.on <;> by_cases h2 : y.1.oa=x.1.oa <;> by_cases h4 : (elemP y).1=(elemP x).1 <;> by_cases h5 : (elemP y).2=(elemP x).2 <;> simp [objP,h1,h2,h4,h5,Prod.ext_iff]
end Go.Proofs.YtmpkejflgpodkaaGreatDoor
