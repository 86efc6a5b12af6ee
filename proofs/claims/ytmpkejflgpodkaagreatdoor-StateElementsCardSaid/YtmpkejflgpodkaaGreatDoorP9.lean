/- Contracts: change.Check and the document's Change: what is wrong with a change. -/
import Derived.Test.YtmpkejflgpodkaaGreatDoorP8
import Derived.Test.YtmpkejflgpodkaaGreatDoorP1
set_option linter.unusedVariables false
set_option linter.unusedSimpArgs false
namespace Go.Proofs.YtmpkejflgpodkaaGreatDoor
open Go.ChangeShapes Go.WideShapes Go.ChangeAt Go.RowKit
structure OpD where
 k : Int
 on : Int
 oa : Int
 key : ByteArray
 en : Int
 ea : Int
 ins : Bool
 vk : Int
 vn : Int
 vt : ByteArray
 va : Int
 vb : Int
 A : Option Addr
 c : Nat
 l : List Rf
def opC (o : OpD) : List Value:=[.int .i64 o.k,.int .i64 o.on,.int .i64 o.oa,.string o.key,.int .i64 o.en,.int .i64 o.ea,.bool o.ins,.int .i64 o.vk,.int .i64 o.vn,.string o.vt,.int .i64 o.va,.int .i64 o.vb,.slice o.A o.l.length o.c]
def opsC (l : List OpD) : List Value:=l.flatMap opC
theorem opsC_at : ∀ {l : List OpD} {k : Nat} {o : OpD},l[k]?=some o→∀ i,i < 13→(opsC l)[k*13+i]?=(opC o)[i]?
 | [],k,r,h=>by simp at h
 | x::l,0,o,h=>fun i hi=>by
   simp at h;subst h
   simp only [opsC,List.flatMap_cons,Nat.zero_mul,Nat.zero_add]
   exact List.getElem?_append_left (by simp only [opC,List.length_cons,List.length_nil];omega)
 | x::l,k+1,o,h=>fun i hi=>by
   have ih:=opsC_at (l:=l) (k:=k) (by simpa using h) i hi
   have e : opsC (x::l)=opC x++opsC l:=by simp [opsC]
   have hx : (opC x).length=13:=by simp [opC]
   rw [e,List.getElem?_append_right (by rw [hx];omega),hx,show (k+1)*13+i - 13=k*13+i from by omega]
   exact ih
def opE' (o : OpD) : Nat:=opE o.k o.on o.oa o.key o.en o.ea o.ins o.vk o.vn o.vt o.va o.vb o.l
def opsE : List OpD→Nat
 | []=>0
 | o::l=>if opE' o=0 then opsE l else opE' o
def chgE (a s st : Int) (deps : List Rf) (ops : List OpD) : Nat :=
 if isRef (a,s)=false∨st < 1∨1000000 < st then 1
 else if 12 < deps.length then 4
 else if refsE 0 deps≠0 then refsE 0 deps
 else if 40 < ops.length then 4
 else if 1000000 < st+ops.length - 1 then 1
 else opsE ops
structure ChM (w : World) (deps : List Rf) (DA : Option Addr) (ops : List OpD) (OA : Option Addr) : Prop where
 hd : Reads (fun k=>k < w.heap.size) w 2 DA deps.length (refC deps)
 hdl : deps.length≤9223372036854775807
 ho : Reads (fun k=>k < w.heap.size) w 13 OA ops.length (opsC ops)
 hol : ops.length≤9223372036854775807
 hp : ∀ o∈ops,Reads (fun k=>k < w.heap.size) w 2 o.A o.l.length (refC o.l)∧o.l.length≤9223372036854775807
theorem reads_below {w w' : World} {size n : Nat} {A : Option Addr} {xs : List Value} (h : Reads (fun k=>k < w.heap.size) w size A n xs) (hb : Below w.heap.size w w') : Reads (fun k=>k < w'.heap.size) w' size A n xs :=
 (h.keep fun k hk=>hb.block k hk).more fun _ hk=>Nat.lt_of_lt_of_le hk hb.size
theorem ChM.keep {w w' : World} {deps : List Rf} {DA : Option Addr} {ops : List OpD} {OA : Option Addr} (h : ChM w deps DA ops OA) (hb : Below w.heap.size w w') : ChM w' deps DA ops OA :=
 ⟨reads_below h.hd hb,h.hdl,reads_below h.ho hb,h.hol,fun o ho=>⟨reads_below (h.hp o ho).1 hb,(h.hp o ho).2⟩⟩
theorem op_cells {w : World} {D : Nat→Prop} {OA : Option Addr} {ops : List OpD} {n : Nat} (h : Reads D w 13 OA n (opsC ops)) (hn : 0 < n) {j : Nat} {o : OpD} (hj : ops[j]?=some o) :
 ∃ b off,OA=some ⟨b,off,none⟩∧D b∧∀ w' : World,w'.heap[b]?=w.heap[b]? →
  w'.cell? ⟨b,off+j*13,none⟩=some (.int .i64 o.k)∧w'.cell? ⟨b,off+j*13+1,none⟩=some (.int .i64 o.on)∧w'.cell? ⟨b,off+j*13+2,none⟩=some (.int .i64 o.oa) ∧
  w'.cell? ⟨b,off+j*13+3,none⟩=some (.string o.key)∧w'.cell? ⟨b,off+j*13+4,none⟩=some (.int .i64 o.en)∧w'.cell? ⟨b,off+j*13+5,none⟩=some (.int .i64 o.ea) ∧
  w'.cell? ⟨b,off+j*13+6,none⟩=some (.bool o.ins)∧w'.cell? ⟨b,off+j*13+7,none⟩=some (.int .i64 o.vk)∧w'.cell? ⟨b,off+j*13+8,none⟩=some (.int .i64 o.vn) ∧
  w'.cell? ⟨b,off+j*13+9,none⟩=some (.string o.vt)∧w'.cell? ⟨b,off+j*13+10,none⟩=some (.int .i64 o.va)∧w'.cell? ⟨b,off+j*13+11,none⟩=some (.int .i64 o.vb) ∧
  w'.cell? ⟨b,off+j*13+12,none⟩=some (.slice o.A o.l.length o.c):=by
 obtain ⟨b,off,hA,hb,hc⟩:=h.at_ hn (by omega)
 have key : ∀ w' : World,w'.heap[b]?=w.heap[b]?→∀ i u,i < 13→(opC o)[i]?=some u→w'.cell? ⟨b,off+j*13+i,none⟩=some u:=fun w' hw i u hi hu=>by
  have h1 : w'.cell? ⟨b,off+j*13+i,none⟩=w.cell? ⟨b,off+j*13+i,none⟩:=World.cell?_of_block (w:=w) hw
  rw [h1,Nat.add_assoc]
  exact hc _ _ (by rw [opsC_at hj i hi];exact hu)
 exact ⟨b,off,hA,hb,fun w' hw=>⟨key w' hw 0 _ (by omega) rfl,key w' hw 1 _ (by omega) rfl,key w' hw 2 _ (by omega) rfl,key w' hw 3 _ (by omega) rfl,key w' hw 4 _ (by omega) rfl,key w' hw 5 _ (by omega) rfl,
  key w' hw 6 _ (by omega) rfl,key w' hw 7 _ (by omega) rfl,key w' hw 8 _ (by omega) rfl,key w' hw 9 _ (by omega) rfl,key w' hw 10 _ (by omega) rfl,key w' hw 11 _ (by omega) rfl,key w' hw 12 _ (by omega) rfl⟩⟩
theorem drop_op {l : List OpD} {k : Nat} {r : OpD} (h : l[k]?=some r) : l.drop k=r::l.drop (k+1):=by
 obtain ⟨hl,e⟩:=List.getElem?_eq_some_iff.1 h
 rw [List.drop_eq_getElem_cons hl,e]
theorem opX_any (o : OpD) (w : World) (hr : Reads (fun k=>k < w.heap.size) w 2 o.A o.l.length (refC o.l)) (hl : o.l.length≤9223372036854775807) :
 Calls Tryz.prog 162 #[.agg (opC o).toArray] w fun e w'=>e=.returned (errN (opE' o))∧Below w.heap.size w w' :=
 op_any _ _ _ _ _ _ _ _ _ _ _ _ _ _ _ _ _ w rfl hl hr fun _ h=>h
theorem refOpX_any (o : OpD) (w : World) (hr : Reads (fun k=>k < w.heap.size) w 2 o.A o.l.length (refC o.l)) (hl : o.l.length≤9223372036854775807) :
 Calls Tryz.prog 79 #[.agg (opC o).toArray] w fun e w'=>e=.returned (.int .i64 (opE' o))∧Below w.heap.size w w' :=
 refOp_any _ _ _ _ _ _ _ _ _ _ _ _ _ _ _ _ _ w rfl hl hr fun _ h=>h
set_option maxHeartbeats 8000000 in
set_option maxRecDepth 20000 in
theorem check_any (a s st : Int) (deps : List Rf) (DA : Option Addr) (dn DC : Nat) (ops : List OpD) (OA : Option Addr) (m OC : Nat) (w : World)
 (hC : ChM w deps DA ops OA) (hdn : deps.length=dn) (hm : ops.length=m) :
 Calls Tryz.prog 125 #[.agg #[.int .i64 a,.int .i64 s,.int .i64 st,.slice DA dn DC,.slice OA m OC]] w fun e w'=>e=.returned (errN (chgE a s st deps ops))∧Below w.heap.size w w':=by
 have HC:=Lib.hid hC
 have HDN:=Lib.hid hdn
 have HM:=Lib.hid hm
 have hbd : dn≤9223372036854775807:=by rw [← hdn];exact hC.hdl
 have hbm : m≤9223372036854775807:=by rw [← hm];exact hC.hol
 have HW:=Lib.hid ((Below.refl _ w).alloc (Nat.le_refl _) (.cells #[.int .i64 a,.int .i64 s,.int .i64 st,.slice DA dn DC,.slice OA m OC] 82))
 have HBC:=Lib.hid (Blk.new w 82 #[.int .i64 a,.int .i64 s,.int .i64 st,.slice DA dn DC,.slice OA m OC])
 have R1:=cref_any (a,s)
 unfold refV at R1
 clear hC hdn hm
 go_enter Tryz.func125,Tryz.ntmps125
 go_wp2_with fail
 go_at_call 160
 refine (R1 _).mono ?_
 rintro e w1 ⟨rfl,hb⟩
 replace HBC:=Lib.hid (HBC.out.keep (hb.block _ HBC.out.lt))
 replace HW:=Lib.hid (HW.out.trans (hb.mono HW.out.size))
 clear hb
 try clear c0 c1 c2 c3 c4
 have c0 : w1.cell? ⟨w.heap.size,0,none⟩=some (.int .i64 a):=HBC.out.cell 0
 have c1 : w1.cell? ⟨w.heap.size,1,none⟩=some (.int .i64 s):=HBC.out.cell 1
 have c2 : w1.cell? ⟨w.heap.size,2,none⟩=some (.int .i64 st):=HBC.out.cell 2
 have c3 : w1.cell? ⟨w.heap.size,3,none⟩=some (.slice DA dn DC):=HBC.out.cell 3
 have c4 : w1.cell? ⟨w.heap.size,4,none⟩=some (.slice OA m OC):=HBC.out.cell 4
 clear R1
 cases hr : isRef (a,s)
 · have HV : Hid (chgE a s st deps ops=1):=by show _=_;rw [chgE,if_pos (Or.inl hr)]
   go_wp2_with fail
   go_ret
   exact ⟨by rw [HV.out];rfl,HW.out⟩
 by_cases h1 : st < 1
 · have HV : Hid (chgE a s st deps ops=1):=by show _=_;rw [chgE,if_pos (Or.inr (Or.inl h1))]
   have d1 : decide (st < 1)=true:=decide_eq_true h1
   clear h1
   go_wp2_with fail
   go_ret
   exact ⟨by rw [HV.out];rfl,HW.out⟩
 have d1 : decide (st < 1)=false:=decide_eq_false h1
 by_cases h2 : 1000000 < st
 · have HV : Hid (chgE a s st deps ops=1):=by show _=_;rw [chgE,if_pos (Or.inr (Or.inr h2))]
   have d2 : decide (1000000 < st)=true:=decide_eq_true h2
   clear h1 h2
   go_wp2_with fail
   go_ret
   exact ⟨by rw [HV.out];rfl,HW.out⟩
 have d2 : decide (1000000 < st)=false:=decide_eq_false h2
 have HS : Hid (1≤st∧st≤1000000):=by show _∧_;omega
 have HV0 : Hid (chgE a s st deps ops=if 12 < deps.length then 4 else if refsE 0 deps≠0 then refsE 0 deps else if 40 < ops.length then 4 else if 1000000 < st+ops.length - 1 then 1 else opsE ops):=by
  show _=_
  rw [chgE,if_neg]
  rintro (h | h | h)
  · rw [hr] at h;cases h
  · exact h1 h
  · exact h2 h
 clear h1 h2
 by_cases h3 : 12 < dn
 · have HV : Hid (chgE a s st deps ops=4):=by show _=_;rw [HV0.out,if_pos (by rw [HDN.out];exact h3)]
   have d3 : decide (12 < (dn : Int))=true:=decide_eq_true (by omega)
   clear h3
   go_wp2_with fail
   go_ret
   exact ⟨by rw [HV.out];rfl,HW.out⟩
 have d3 : decide (12 < (dn : Int))=false:=decide_eq_false (by omega)
 have H3:=Lib.hid h3
 clear h3 hr
 go_wp2_with fail
 clear d1 d2 d3
 have HCk:=fun w' (hb : Below w.heap.size w w')=>HC.out.keep hb
 have RF:=refs_any deps _ DA DC w1 (HC.out.keep HW.out).hd (fun k h=>h) HC.out.hdl
 rw [HDN.out] at RF
 go_at_call 161
 by_cases h4 : refsE 0 deps=0
 case neg =>
  have HV : Hid (chgE a s st deps ops=refsE 0 deps):=by show _=_;rw [HV0.out,if_neg (by rw [HDN.out];exact H3.out),if_pos h4]
  rw [show errN (refsE 0 deps)=.iface 101 (.int .i64 (refsE 0 deps)) from if_neg h4] at RF
  have HE : Hid (errN (refsE 0 deps)=.iface 101 (.int .i64 (refsE 0 deps))):=by show _=_;exact if_neg h4
  generalize refsE 0 deps=ie at *
  clear h4 HV0
  refine RF.mono ?_
  rintro e w2 ⟨rfl,hb⟩
  replace HBC:=Lib.hid (HBC.out.keep (hb.block _ HBC.out.lt))
  replace HW:=Lib.hid (HW.out.trans (hb.mono HW.out.size))
  clear hb
  try clear c0 c1 c2 c3 c4
  have c0 : w2.cell? ⟨w.heap.size,0,none⟩=some (.int .i64 a):=HBC.out.cell 0
  have c1 : w2.cell? ⟨w.heap.size,1,none⟩=some (.int .i64 s):=HBC.out.cell 1
  have c2 : w2.cell? ⟨w.heap.size,2,none⟩=some (.int .i64 st):=HBC.out.cell 2
  have c3 : w2.cell? ⟨w.heap.size,3,none⟩=some (.slice DA dn DC):=HBC.out.cell 3
  have c4 : w2.cell? ⟨w.heap.size,4,none⟩=some (.slice OA m OC):=HBC.out.cell 4
  go_wp2_with fail
  go_ret
  exact ⟨by rw [HV.out,HE.out];rfl,HW.out⟩
 have HV1 : Hid (chgE a s st deps ops=if 40 < ops.length then 4 else if 1000000 < st+ops.length - 1 then 1 else opsE ops):=by
  show _=_;rw [HV0.out,if_neg (by rw [HDN.out];exact H3.out),if_neg (by rw [h4];simp)]
 rw [h4,show errN 0=.nilIface from rfl] at RF
 clear h4 HV0
 refine RF.mono ?_
 rintro e w2 ⟨rfl,hb⟩
 replace HBC:=Lib.hid (HBC.out.keep (hb.block _ HBC.out.lt))
 replace HW:=Lib.hid (HW.out.trans (hb.mono HW.out.size))
 clear hb
 try clear c0 c1 c2 c3 c4
 have c0 : w2.cell? ⟨w.heap.size,0,none⟩=some (.int .i64 a):=HBC.out.cell 0
 have c1 : w2.cell? ⟨w.heap.size,1,none⟩=some (.int .i64 s):=HBC.out.cell 1
 have c2 : w2.cell? ⟨w.heap.size,2,none⟩=some (.int .i64 st):=HBC.out.cell 2
 have c3 : w2.cell? ⟨w.heap.size,3,none⟩=some (.slice DA dn DC):=HBC.out.cell 3
 have c4 : w2.cell? ⟨w.heap.size,4,none⟩=some (.slice OA m OC):=HBC.out.cell 4
 clear RF
 by_cases h5 : 40 < m
 · have HV : Hid (chgE a s st deps ops=4):=by show _=_;rw [HV1.out,if_pos (by rw [HM.out];exact h5)]
   have d1 : decide (40 < (m : Int))=true:=decide_eq_true (by omega)
   clear h5
   go_wp2_with fail
   go_ret
   exact ⟨by rw [HV.out];rfl,HW.out⟩
 have d1 : decide (40 < (m : Int))=false:=decide_eq_false (by omega)
 have x1 : IntKind.i64.wrap (st+(m : Int))=st+(m : Int):=IntWalk.i64_in _ (by have:=HS.out;omega)
 have x2 : IntKind.i64.wrap (st+(m : Int) - 1)=st+(m : Int) - 1:=IntWalk.i64_in _ (by have:=HS.out;omega)
 by_cases h6 : 1000000 < st+(m : Int) - 1
 · have HV : Hid (chgE a s st deps ops=1):=by show _=_;rw [HV1.out,if_neg (by rw [HM.out];exact h5),if_pos (by rw [HM.out];exact h6)]
   have d2 : decide (1000000 < st+(m : Int) - 1)=true:=decide_eq_true h6
   clear h5 h6
   go_wp2_with fail
   go_ret
   exact ⟨by rw [HV.out];rfl,HW.out⟩
 have d2 : decide (1000000 < st+(m : Int) - 1)=false:=decide_eq_false h6
 have HV2 : Hid (chgE a s st deps ops=opsE ops):=by show _=_;rw [HV1.out,if_neg (by rw [HM.out];exact h5),if_neg (by rw [HM.out];exact h6)]
 clear h5 h6 HV1
 go_wp2_with fail
 clear d1 d2 x1 x2 c0 c1 c2 c3 c4
 go_loopw [55] (fun s wr=>∃ j : Nat,j≤m∧s=.int .i64 j∧Hid (Below w.heap.size w wr)∧Hid (opsE ops=opsE (ops.drop j))) (fun s _=>m - (intOf s).toNat)
 case atStart=>exact ⟨0,by omega,rfl,HW,by show _=_;rw [List.drop_zero]⟩
 case round =>
  clear HW HBC
  obtain ⟨j,hj,rfl,HW,HO⟩:=hrel
  by_cases hlt : j < m
  · obtain ⟨o,ho⟩ : ∃ o,ops[j]?=some o:=get_lt (by rw [HM.out];exact hlt)
    obtain ⟨b,off,hA,hb,hcs⟩:=op_cells (HC.out.ho) (by rw [HM.out];omega) ho
    have hcw:=hcs wr (HW.out.block b hb)
    have hmem:=List.mem_of_getElem? ho
    have hd:=drop_op ho
    have HP:=HC.out.keep (HW.out.alloc HW.out.size (.cells (opC o).toArray 88))
    have OX:=opX_any o _ (HP.hp o hmem).1 (HP.hp o hmem).2
    clear hcs HP hmem
    have HX : Hid (opsE ops=if opE' o=0 then opsE (ops.drop (j+1)) else opE' o):=by show _=_;rw [HO.out,hd];rfl
    generalize opE' o=oe at OX HX
    have HWA : Hid (Below w.heap.size w (wr.alloc (.cells (opC o).toArray 88))):=HW.out.alloc HW.out.size _
    obtain ⟨y0,y1,y2,y3,y4,y5,y6,y7,y8,y9,y10,y11,y12⟩:=hcw
    subst hA
    simp only [opC] at OX HWA
    generalize o.l.length=ol at *
    clear hd ho HO
    go_wp2_with fail
    go_at_call 162
    by_cases hoe : oe=0
    · subst hoe
      have HN : Hid (opsE ops=opsE (ops.drop (j+1))):=by show _=_;rw [HX.out,if_pos rfl]
      rw [show errN 0=.nilIface from rfl] at OX
      refine OX.mono ?_
      rintro e w3 ⟨rfl,hb3⟩
      have HW3:=Lib.hid (HWA.out.trans (hb3.mono HWA.out.size))
      clear OX hb3 HX HWA y0 y1 y2 y3 y4 y5 y6 y7 y8 y9 y10 y11 y12
      go_wp2_with fail
      first
       | exact ⟨⟨j+1,by omega,by go_num,HW3,HN⟩,by simp [intOf];omega⟩
       | (go_roundw
          case rel=>exact ⟨j+1,by omega,by go_num,HW3,HN⟩
          case measure=>simp [intOf];omega)
    · have HF : Hid (chgE a s st deps ops=oe):=by show _=_;rw [HV2.out,HX.out,if_neg hoe]
      have HE : Hid (errN oe=.iface 101 (.int .i64 oe)):=by show _=_;exact if_neg hoe
      rw [HE.out] at OX
      refine OX.mono ?_
      rintro e w3 ⟨rfl,hb3⟩
      have HW3:=Lib.hid (HWA.out.trans (hb3.mono HWA.out.size))
      clear OX hb3 HX HWA hoe y0 y1 y2 y3 y4 y5 y6 y7 y8 y9 y10 y11 y12
      go_wp2_with fail
      go_ret
      exact ⟨by rw [HF.out,HE.out];rfl,HW3.out⟩
  · have HF : Hid (chgE a s st deps ops=0):=by
     show _=_
     rw [HV2.out,HO.out,List.drop_of_length_le (by rw [HM.out];omega)];rfl
    go_wp2_with fail
    go_ret
    exact ⟨by rw [HF.out];rfl,HW.out⟩
end Go.Proofs.YtmpkejflgpodkaaGreatDoor
namespace Go.Proofs.YtmpkejflgpodkaaGreatDoor
open Go.ChangeShapes Go.WideShapes Go.ChangeAt Go.RowKit
set_option maxHeartbeats 8000000 in
set_option maxRecDepth 20000 in
theorem refChange_any (a s st : Int) (deps : List Rf) (DA : Option Addr) (dn DC : Nat) (ops : List OpD) (OA : Option Addr) (m OC : Nat) (w : World)
 (hC : ChM w deps DA ops OA) (hdn : deps.length=dn) (hm : ops.length=m) :
 Calls Tryz.prog 51 #[.agg #[.int .i64 a,.int .i64 s,.int .i64 st,.slice DA dn DC,.slice OA m OC]] w fun e w'=>e=.returned (.int .i64 (chgE a s st deps ops))∧Below w.heap.size w w':=by
 have HC:=Lib.hid hC
 have HDN:=Lib.hid hdn
 have HM:=Lib.hid hm
 have hbd : dn≤9223372036854775807:=by rw [← hdn];exact hC.hdl
 have hbm : m≤9223372036854775807:=by rw [← hm];exact hC.hol
 have HW:=Lib.hid ((Below.refl _ w).alloc (Nat.le_refl _) (.cells #[.int .i64 a,.int .i64 s,.int .i64 st,.slice DA dn DC,.slice OA m OC] 82))
 have HBC:=Lib.hid (Blk.new w 82 #[.int .i64 a,.int .i64 s,.int .i64 st,.slice DA dn DC,.slice OA m OC])
 have R1:=refRef_any (a,s)
 unfold refV at R1
 clear hC hdn hm
 go_enter Tryz.func51,Tryz.ntmps51
 go_wp2_with fail
 go_at_call 77
 refine (R1 _).mono ?_
 rintro e w1 ⟨rfl,hb⟩
 replace HBC:=Lib.hid (HBC.out.keep (hb.block _ HBC.out.lt))
 replace HW:=Lib.hid (HW.out.trans (hb.mono HW.out.size))
 clear hb
 try clear c0 c1 c2 c3 c4
 have c0 : w1.cell? ⟨w.heap.size,0,none⟩=some (.int .i64 a):=HBC.out.cell 0
 have c1 : w1.cell? ⟨w.heap.size,1,none⟩=some (.int .i64 s):=HBC.out.cell 1
 have c2 : w1.cell? ⟨w.heap.size,2,none⟩=some (.int .i64 st):=HBC.out.cell 2
 have c3 : w1.cell? ⟨w.heap.size,3,none⟩=some (.slice DA dn DC):=HBC.out.cell 3
 have c4 : w1.cell? ⟨w.heap.size,4,none⟩=some (.slice OA m OC):=HBC.out.cell 4
 clear R1
 cases hr : isRef (a,s)
 · have HV : Hid (chgE a s st deps ops=1):=by show _=_;rw [chgE,if_pos (Or.inl hr)]
   go_wp2_with fail
   go_ret
   exact ⟨by rw [HV.out];rfl,HW.out⟩
 by_cases h1 : st < 1
 · have HV : Hid (chgE a s st deps ops=1):=by show _=_;rw [chgE,if_pos (Or.inr (Or.inl h1))]
   have d1 : decide (st < 1)=true:=decide_eq_true h1
   clear h1
   go_wp2_with fail
   go_ret
   exact ⟨by rw [HV.out];rfl,HW.out⟩
 have d1 : decide (st < 1)=false:=decide_eq_false h1
 by_cases h2 : 1000000 < st
 · have HV : Hid (chgE a s st deps ops=1):=by show _=_;rw [chgE,if_pos (Or.inr (Or.inr h2))]
   have d2 : decide (1000000 < st)=true:=decide_eq_true h2
   clear h1 h2
   go_wp2_with fail
   go_ret
   exact ⟨by rw [HV.out];rfl,HW.out⟩
 have d2 : decide (1000000 < st)=false:=decide_eq_false h2
 have HS : Hid (1≤st∧st≤1000000):=by show _∧_;omega
 have HV0 : Hid (chgE a s st deps ops=if 12 < deps.length then 4 else if refsE 0 deps≠0 then refsE 0 deps else if 40 < ops.length then 4 else if 1000000 < st+ops.length - 1 then 1 else opsE ops):=by
  show _=_
  rw [chgE,if_neg]
  rintro (h | h | h)
  · rw [hr] at h;cases h
  · exact h1 h
  · exact h2 h
 clear h1 h2
 by_cases h3 : 12 < dn
 · have HV : Hid (chgE a s st deps ops=4):=by show _=_;rw [HV0.out,if_pos (by rw [HDN.out];exact h3)]
   have d3 : decide (12 < (dn : Int))=true:=decide_eq_true (by omega)
   clear h3
   go_wp2_with fail
   go_ret
   exact ⟨by rw [HV.out];rfl,HW.out⟩
 have d3 : decide (12 < (dn : Int))=false:=decide_eq_false (by omega)
 have H3:=Lib.hid h3
 clear h3 hr
 go_wp2_with fail
 clear d1 d2 d3
 have HCk:=fun w' (hb : Below w.heap.size w w')=>HC.out.keep hb
 have RF:=refClock_any deps _ DA DC w1 (HC.out.keep HW.out).hd (fun k h=>h) HC.out.hdl
 rw [HDN.out] at RF
 go_at_call 78
 by_cases h4 : refsE 0 deps=0
 case neg =>
  have HV : Hid (chgE a s st deps ops=refsE 0 deps):=by show _=_;rw [HV0.out,if_neg (by rw [HDN.out];exact H3.out),if_pos h4]
  generalize refsE 0 deps=ie at *
  have d4 : ((ie : Int) == 0)=false:=by simp;omega
  clear h4 HV0
  refine RF.mono ?_
  rintro e w2 ⟨rfl,hb⟩
  replace HBC:=Lib.hid (HBC.out.keep (hb.block _ HBC.out.lt))
  replace HW:=Lib.hid (HW.out.trans (hb.mono HW.out.size))
  clear hb
  try clear c0 c1 c2 c3 c4
  have c0 : w2.cell? ⟨w.heap.size,0,none⟩=some (.int .i64 a):=HBC.out.cell 0
  have c1 : w2.cell? ⟨w.heap.size,1,none⟩=some (.int .i64 s):=HBC.out.cell 1
  have c2 : w2.cell? ⟨w.heap.size,2,none⟩=some (.int .i64 st):=HBC.out.cell 2
  have c3 : w2.cell? ⟨w.heap.size,3,none⟩=some (.slice DA dn DC):=HBC.out.cell 3
  have c4 : w2.cell? ⟨w.heap.size,4,none⟩=some (.slice OA m OC):=HBC.out.cell 4
  go_wp2_with fail
  go_ret
  exact ⟨by rw [HV.out];rfl,HW.out⟩
 have HV1 : Hid (chgE a s st deps ops=if 40 < ops.length then 4 else if 1000000 < st+ops.length - 1 then 1 else opsE ops):=by
  show _=_;rw [HV0.out,if_neg (by rw [HDN.out];exact H3.out),if_neg (by rw [h4];simp)]
 rw [h4] at RF
 clear h4 HV0
 refine RF.mono ?_
 rintro e w2 ⟨rfl,hb⟩
 replace HBC:=Lib.hid (HBC.out.keep (hb.block _ HBC.out.lt))
 replace HW:=Lib.hid (HW.out.trans (hb.mono HW.out.size))
 clear hb
 try clear c0 c1 c2 c3 c4
 have c0 : w2.cell? ⟨w.heap.size,0,none⟩=some (.int .i64 a):=HBC.out.cell 0
 have c1 : w2.cell? ⟨w.heap.size,1,none⟩=some (.int .i64 s):=HBC.out.cell 1
 have c2 : w2.cell? ⟨w.heap.size,2,none⟩=some (.int .i64 st):=HBC.out.cell 2
 have c3 : w2.cell? ⟨w.heap.size,3,none⟩=some (.slice DA dn DC):=HBC.out.cell 3
 have c4 : w2.cell? ⟨w.heap.size,4,none⟩=some (.slice OA m OC):=HBC.out.cell 4
 clear RF
 by_cases h5 : 40 < m
 · have HV : Hid (chgE a s st deps ops=4):=by show _=_;rw [HV1.out,if_pos (by rw [HM.out];exact h5)]
   have d1 : decide (40 < (m : Int))=true:=decide_eq_true (by omega)
   clear h5
   go_wp2_with fail
   go_ret
   exact ⟨by rw [HV.out];rfl,HW.out⟩
 have d1 : decide (40 < (m : Int))=false:=decide_eq_false (by omega)
 have x1 : IntKind.i64.wrap (st+(m : Int))=st+(m : Int):=IntWalk.i64_in _ (by have:=HS.out;omega)
 have x2 : IntKind.i64.wrap (st+(m : Int) - 1)=st+(m : Int) - 1:=IntWalk.i64_in _ (by have:=HS.out;omega)
 by_cases h6 : 1000000 < st+(m : Int) - 1
 · have HV : Hid (chgE a s st deps ops=1):=by show _=_;rw [HV1.out,if_neg (by rw [HM.out];exact h5),if_pos (by rw [HM.out];exact h6)]
   have d2 : decide (1000000 < st+(m : Int) - 1)=true:=decide_eq_true h6
   clear h5 h6
   go_wp2_with fail
   go_ret
   exact ⟨by rw [HV.out];rfl,HW.out⟩
 have d2 : decide (1000000 < st+(m : Int) - 1)=false:=decide_eq_false h6
 have HV2 : Hid (chgE a s st deps ops=opsE ops):=by show _=_;rw [HV1.out,if_neg (by rw [HM.out];exact h5),if_neg (by rw [HM.out];exact h6)]
 clear h5 h6 HV1
 go_wp2_with fail
 clear d1 d2 x1 x2 c0 c1 c2 c3 c4
 go_loopw [5] (fun z wr=>∃ j : Nat,j≤m∧z=.int .i64 j∧Hid (Below w.heap.size w wr)∧Hid (Blk wr w.heap.size 82 #[.int .i64 a,.int .i64 s,.int .i64 st,.slice DA dn DC,.slice OA m OC])∧Hid (opsE ops=opsE (ops.drop j))) (fun z _=>m - (intOf z).toNat)
 case atStart=>exact ⟨0,by omega,rfl,HW,HBC,by show _=_;rw [List.drop_zero]⟩
 case round =>
  clear HW HBC
  obtain ⟨j,hj,rfl,HW,HBC,HO⟩:=hrel
  have c0 : wr.cell? ⟨w.heap.size,0,none⟩=some (.int .i64 a):=HBC.out.cell 0
  have c1 : wr.cell? ⟨w.heap.size,1,none⟩=some (.int .i64 s):=HBC.out.cell 1
  have c2 : wr.cell? ⟨w.heap.size,2,none⟩=some (.int .i64 st):=HBC.out.cell 2
  have c3 : wr.cell? ⟨w.heap.size,3,none⟩=some (.slice DA dn DC):=HBC.out.cell 3
  have c4 : wr.cell? ⟨w.heap.size,4,none⟩=some (.slice OA m OC):=HBC.out.cell 4
  by_cases hlt : j < m
  · obtain ⟨o,ho⟩ : ∃ o,ops[j]?=some o:=get_lt (by rw [HM.out];exact hlt)
    obtain ⟨b,off,hA,hb,hcs⟩:=op_cells (HC.out.ho) (by rw [HM.out];omega) ho
    have hcw:=hcs wr (HW.out.block b hb)
    have hmem:=List.mem_of_getElem? ho
    have hd:=drop_op ho
    have HP:=HC.out.keep HW.out
    have OX:=refOpX_any o _ (HP.hp o hmem).1 (HP.hp o hmem).2
    clear hcs HP hmem
    have HX : Hid (opsE ops=if opE' o=0 then opsE (ops.drop (j+1)) else opE' o):=by show _=_;rw [HO.out,hd];rfl
    generalize opE' o=oe at OX HX
    obtain ⟨y0,y1,y2,y3,y4,y5,y6,y7,y8,y9,y10,y11,y12⟩:=hcw
    subst hA
    simp only [opC] at OX
    generalize o.l.length=ol at *
    clear hd ho HO
    go_wp2_with fail
    go_at_call 79
    refine OX.mono ?_
    rintro e w3 ⟨rfl,hb3⟩
    have HW3:=Lib.hid (HW.out.trans (hb3.mono HW.out.size))
    have HB3 : Hid (Blk w3 w.heap.size 82 #[.int .i64 a,.int .i64 s,.int .i64 st,.slice DA dn DC,.slice (some ⟨b,off,none⟩) m OC]):=Lib.hid (HBC.out.keep (hb3.block _ HBC.out.lt))
    clear OX hb3 y0 y1 y2 y3 y4 y5 y6 y7 y8 y9 y10 y11 y12 c0 c1 c2 c3 c4
    by_cases hoe : oe=0
    · subst hoe
      have HN : Hid (opsE ops=opsE (ops.drop (j+1))):=by show _=_;rw [HX.out,if_pos rfl]
      clear HX
      go_wp2_with fail
      first
       | exact ⟨⟨j+1,by omega,by go_num,HW3,HB3,HN⟩,by simp [intOf];omega⟩
       | (go_roundw
          case rel=>exact ⟨j+1,by omega,by go_num,HW3,HB3,HN⟩
          case measure=>simp [intOf];omega)
    · have HF : Hid (chgE a s st deps ops=oe):=by show _=_;rw [HV2.out,HX.out,if_neg hoe]
      have d4 : ((oe : Int) == 0)=false:=by simp;omega
      clear HX hoe
      go_wp2_with fail
      go_ret
      exact ⟨by rw [HF.out];rfl,HW3.out⟩
  · have HF : Hid (chgE a s st deps ops=0):=by
     show _=_
     rw [HV2.out,HO.out,List.drop_of_length_le (by rw [HM.out];omega)];rfl
    go_wp2_with fail
    go_ret
    exact ⟨by rw [HF.out];rfl,HW.out⟩
end Go.Proofs.YtmpkejflgpodkaaGreatDoor
namespace Go.Proofs.YtmpkejflgpodkaaGreatDoor
open Go.ChangeShapes Go.WideShapes Go.ChangeAt Go.RowKit
def pairB (r : Rf) : List UInt8:=numsL [r.1,r.2]
def inI (b : Bool) : Int:=if b then 1 else 0
def opB (o : OpD) : List UInt8 :=
 numsL [o.k,o.on,o.oa,(o.key.size : Int)]++o.key.data.toList++numsL [o.en,o.ea,inI o.ins,o.vk]++putS o.vn++numsL [(o.vt.size : Int)]++o.vt.data.toList++numsL [(o.l.length : Int)]++o.l.flatMap pairB
def encL (a s st : Int) (deps : List Rf) (ops : List OpD) : List UInt8 :=
 numsL [a,s,st,(deps.length : Int)]++deps.flatMap pairB++numsL [(ops.length : Int)]++ops.flatMap opB
def NatI (x : Int) : Prop:=0≤x∧x≤9223372036854775807
structure OpG (o : OpD) : Prop where
 k : NatI o.k
 on : NatI o.on
 oa : NatI o.oa
 key : o.key.size≤20
 en : NatI o.en
 ea : NatI o.ea
 vk : NatI o.vk
 vn : (Lit.int .i64 o.vn).wf=true
 vt : o.vt.size≤60
 ll : o.l.length≤12
 l : ∀ r∈o.l,NatI r.1∧NatI r.2
structure EncG (a s st : Int) (deps : List Rf) (ops : List OpD) : Prop where
 a : NatI a
 s : NatI s
 st : NatI st
 dl : deps.length≤12
 d : ∀ r∈deps,NatI r.1∧NatI r.2
 ol : ops.length≤40
 o : ∀ o∈ops,OpG o
theorem numsL_le {l : List Int} {n : Nat} (h : l.length=n) : (numsL l).length≤10*n:=by rw [← h];exact numsL_len l
theorem pairs_len : ∀ (l : List Rf),(l.flatMap pairB).length≤20*l.length
 | []=>by simp
 | r::l=>by
   have:=pairs_len l
   have h:=numsL_le (l:=[r.1,r.2]) (n:=2) rfl
   simp only [List.flatMap_cons,List.length_append,List.length_cons,pairB] at this ⊢
   omega
theorem opB_len {o : OpD} (h : OpG o) : (opB o).length≤500:=by
 have h1:=numsL_le (l:=[o.k,o.on,o.oa,(o.key.size : Int)]) (n:=4) rfl
 have h2:=numsL_le (l:=[o.en,o.ea,inI o.ins,o.vk]) (n:=4) rfl
 have h3:=numsL_le (l:=[(o.vt.size : Int)]) (n:=1) rfl
 have h4:=numsL_le (l:=[(o.l.length : Int)]) (n:=1) rfl
 have h5:=pairs_len o.l
 have h6:=h.ll
 have h7 : o.key.data.toList.length≤20:=by have:=h.key;rw [ByteArray.size] at this;simpa using this
 have h8 : o.vt.data.toList.length≤60:=by have:=h.vt;rw [ByteArray.size] at this;simpa using this
 have h9 : (putS o.vn).length≤10:=(putN_length (zz o.vn)).2
 simp only [opB,List.length_append]
 omega
theorem ops_len : ∀ (l : List OpD),(∀ o∈l,OpG o)→(l.flatMap opB).length≤500*l.length
 | [],_=>by simp
 | o::l,h=>by
   have:=ops_len l fun o ho=>h o (by simp [ho])
   have h1:=opB_len (h o (by simp))
   simp only [List.flatMap_cons,List.length_append,List.length_cons] at this ⊢
   omega
def Acc (W0 w : World) (v : Value) (acc : List UInt8) : Prop:=w.ownsRow W0.heap.size 5 1 v acc.length (bytesC acc)∧Below W0.heap.size W0 w
def Kept (w w' : World) : Prop:=∀ g t cs,Blk w g t cs→5≠t→Blk w' g t cs
theorem Kept.trans {a b c : World} (h : Kept a b) (k : Kept b c) : Kept a c:=fun g t cs hb hn=>k g t cs (h g t cs hb hn) hn
theorem Kept.of_evo {w w' : World} {base n : Nat} {v : Value} {xs : List Value} {o' : Option Nat} (h : w.ownsRow base 5 1 v n xs) (he : Evo w v.ownBlock w' o') : Kept w w' :=
 fun g _ _ hb hn=>hb.keep (he.block g hb.lt (own_blk_ne h hb hn))
theorem Acc.nil (W0 : World) {w : World} (h : Below W0.heap.size W0 w) : Acc W0 w (.slice none 0 0) []:=⟨own_nil _ _ _ _,h⟩
theorem Acc.alloc {W0 w : World} {v : Value} {acc : List UInt8} (h : Acc W0 w v acc) (o : Obj) : Acc W0 (w.alloc o) v acc:=⟨h.1.alloc o,h.2.alloc h.2.size o⟩
theorem Acc.drew {W0 w : World} {v : Value} {acc : List UInt8} (h : Acc W0 w v acc) : Acc W0 w.drew v acc:=⟨h.1,h.2.drew⟩
theorem Acc.below {W0 w w' : World} {v : Value} {acc : List UInt8} (h : Acc W0 w v acc) (hb : Below w.heap.size w w') : Acc W0 w' v acc:=⟨own_below h.1 hb,h.2.trans (hb.mono h.2.size)⟩
theorem Acc.evo {W0 w w' : World} {v v' : Value} {acc acc' : List UInt8} (h : Acc W0 w v acc) (ho : w'.ownsRow W0.heap.size 5 1 v' acc'.length (bytesC acc')) (he : Evo w v.ownBlock w' v'.ownBlock) : Acc W0 w' v' acc'∧Kept w w' :=
 ⟨⟨ho,h.2.trans (he.below h.2.size fun _ hg=>(own_lt h.1 hg).1)⟩,Kept.of_evo h.1 he⟩
theorem nums_step {W0 wr : World} {v : Value} {acc : List UInt8} (h : Acc W0 wr v acc) (xs : List Int) (n : Nat) (lits : Array Value) (hl : lits.toList=intsC xs) (hn : xs.length=n) (hn1 : n≤100) (hp : acc.length≤100000) (hx : ∀ x∈xs,NatI x) (H : Nat) (hH : wr.heap.size=H) :
 Calls Tryz.prog 122 #[v,.slice (some ⟨H,0,none⟩) n n] (wr.alloc (.cells lits 3)) fun e w'=>∃ v',e=.returned v'∧Acc W0 w' v' (acc++numsL xs)∧Kept wr w':=by
 subst hH
 have h':=h.alloc (.cells lits 3)
 refine (refNums_any xs acc v W0.heap.size (fun k=>k=wr.heap.size) (some ⟨wr.heap.size,0,none⟩) n n (wr.alloc (.cells lits 3)) h'.1 h'.2.size
  (reads_newC wr _ (intsC xs) n (by rw [intsC_length];exact hn) lits hl _ rfl) (by rintro k rfl;exact ⟨by simp,fun e=>by have:=(own_lt h.1 e).2;omega⟩) hn hn1 (by omega) hx).mono ?_
 rintro e w' ⟨v',rfl,ho,he⟩
 obtain ⟨h1,h2⟩:=h'.evo ho he
 exact ⟨v',rfl,h1,fun g t cs hb hne=>h2 g t cs (hb.alloc _) hne⟩
theorem text_step {W0 w : World} {b : Option Addr} {n c : Nat} {acc : List UInt8} (ty : TypeId) (h : Acc W0 w (.slice b n c) acc) (hn : acc.length=n) (S : ByteArray) (hp : acc.length≤100000) (hS : S.size≤1000) :
 ∃ v' w',(Builtin.append_ #[141,9] ty #[.slice b n c,.string S]).run Tryz.prog w=.ok v' w'∧Acc W0 w' v' (acc++S.data.toList)∧Kept w w':=by
 obtain ⟨i0,hi,hz0,hz1,hz2⟩:=info_parts infoByte
 subst hn
 obtain ⟨v',w',h1,h2,h3,h4⟩:=run_append_str (P:=Tryz.prog) w W0.heap.size 141 9 ty 5 i0 (.int .u8 0) 1 Tryz.underlying141 Tryz.underlying9 hi hz0 hz1 hz2 rfl (.slice b acc.length c) acc.length (bytesC acc) h.1 S (by simp only [maxLen];omega) (by omega) h.2.size
 have ho : w'.ownsRow W0.heap.size 5 1 v' (acc++S.data.toList).length (bytesC (acc++S.data.toList)):=by
  rw [List.length_append,bytesC_append,show S.data.toList.length=S.size from by rw [ByteArray.size,Array.length_toList]]
  exact h2
 obtain ⟨k1,k2⟩:=h.evo ho (Evo.of_append h3 h4)
 exact ⟨v',w',h1,k1,k2⟩
theorem bytes_step {W0 w : World} {v : Value} {acc : List UInt8} (ty : TypeId) (h : Acc W0 w v acc) (D : Nat→Prop) (A : Option Addr) (m c2 : Nat) (news : List UInt8) (hr : Reads D w 1 A m (bytesC news)) (hm : news.length=m) (hp : acc.length≤100000) (hm1 : m≤1000) :
 ∃ v' w',(Builtin.append_ #[141,141] ty #[v,.slice A m c2]).run Tryz.prog w=.ok v' w'∧Acc W0 w' v' (acc++news)∧Kept w w':=by
 obtain ⟨i0,hi,hz0,hz1,hz2⟩:=info_parts infoByte
 subst hm
 obtain ⟨v',w',h1,h2,h3,h4⟩:=run_append_any (P:=Tryz.prog) w W0.heap.size 141 ty 5 i0 (.int .u8 0) 1 1 Tryz.underlying141 hi hz0 hz1 hz2 rfl (by omega) v acc.length (bytesC acc) h.1 D A news.length c2 (bytesC news) hr (bytesC_one _) (by simp only [maxLen];omega) (by omega) h.2.size
 have ho : w'.ownsRow W0.heap.size 5 1 v' (acc++news).length (bytesC (acc++news)):=by
  rw [List.length_append,bytesC_append]
  exact h2
 obtain ⟨k1,k2⟩:=h.evo ho (Evo.of_append h3 h4)
 exact ⟨v',w',h1,k1,k2⟩
theorem Acc.form {W0 w : World} {v : Value} {acc : List UInt8} (h : Acc W0 w v acc) : ∃ A c,v=.slice A acc.length c:=by
 obtain ⟨A,c,hv,_⟩:=Reads.of_own h.1
 exact ⟨A,c,hv⟩
theorem Kept.of_below {w w' : World} (hb : Below w.heap.size w w') : Kept w w':=fun g _ _ h _=>h.keep (hb.block g h.lt)
end Go.Proofs.YtmpkejflgpodkaaGreatDoor
namespace Go.Proofs.YtmpkejflgpodkaaGreatDoor
open Go.ChangeShapes Go.WideShapes Go.ChangeAt Go.RowKit Go.Deep
set_option maxRecDepth 100000
section
variable {H : Type} {enc : TypeId × Value→H} {w : World} {base : Nat} {spare : Nat→Bool} {held : Bool}
theorem trod_rows {P : Program} {α : Type} [Inhabited α] (cells : α→List Value) (size : Nat) (hsz : ∀ a,(cells a).length=size) (hs : 0 < size) (ok : α→Prop) {t e : TypeId} {fuel : Nat} {cs : List Value} {x : DataW H × List MemPlace}
 (ht : P.underlying t=some (.slice e)) (hc : P.cellsOf e=size)
 (hel : ∀ fuel cs x,DataW.trod enc P w base spare held fuel e cs=some x→∃ a,cs=cells a∧ok a)
 (hf : DataW.trod enc P w base spare held fuel t cs=some x) :
 ∃ A c,∃ l : List α,cs=[.slice A l.length c]∧l.length≤c∧c≤maxLen∧Reads (· < w.heap.size) w size A l.length (l.flatMap cells)∧∀ a∈l,ok a:=by
 rcases open_slice ht hf with ⟨h1,h2⟩ | ⟨a,len,cap,m,nn,Dd,Pl,h1,hb,hl,hm,hmm,hx,hi⟩
 · subst h1
   exact ⟨none,0,[],rfl,by simp,by simp,Reads.none_,by simp⟩
 · subst h1
   have hlm : len≤m:=by rw [hmm];split <;> omega
   obtain ⟨f,hfx⟩:=choose_lt (α:=α) (p:=fun i x=>w.cells? base (a.add (i*P.cellsOf e)) (P.cellsOf e)=some (cells x)∧ok x) (n:=len) (fun i hin=>by
    obtain ⟨cs',h1,h2⟩:=hi i (by omega)
    obtain ⟨x,rfl,hx⟩:=hel _ _ _ h2
    exact ⟨x,h1,hx⟩)
   have hget : ∀ i x,((List.range len).map f)[i]?=some x→i < len∧x=f i:=by
    intro i x h
    rw [List.getElem?_map] at h
    by_cases hin : i < len
    · rw [List.getElem?_range hin] at h;simp at h;exact ⟨hin,h.symm⟩
    · rw [List.getElem?_eq_none (by simpa using hin)] at h;simp at h
   refine ⟨some a,cap,(List.range len).map f,by simp,by simpa using hl,hm,⟨?_,fun h0=>⟨a,rfl,?_,?_⟩⟩,?_⟩
   · rw [flat_len cells size hsz]
   · simp only [List.length_map,List.length_range] at h0
     have h1:=(hfx 0 h0).1
     obtain ⟨_,_,h3⟩:=World.cells?_some h1
     have h4:=h3 0 (by omega)
     have h5 : 0 < (cells (f 0)).length:=by rw [hsz];omega
     rw [List.getElem?_eq_getElem h5] at h4
     have:=cell_lt h4
     rw [block_of_add,block_of_add] at this
     exact this
   · intro j u hj
     have hjl : j < len*size:=by
      have:=(List.getElem?_eq_some_iff.1 hj).1
      rw [flat_len cells size hsz] at this
      simpa using this
     have hdm : j / size*size+j % size=j:=by rw [Nat.mul_comm];exact Nat.div_add_mod j size
     have hq : j / size < len:=Nat.div_lt_of_lt_mul (by rw [Nat.mul_comm];exact hjl)
     have hr : j % size < size:=Nat.mod_lt _ hs
     have h1:=flat_at cells size hsz ((List.range len).map f) (j / size) (j % size) (f (j / size)) (by rw [List.getElem?_map,List.getElem?_range hq];rfl) hr
     rw [hdm,hj] at h1
     obtain ⟨_,_,h3⟩:=World.cells?_some (hfx _ hq).1
     have h4:=h3 (j % size) (by omega)
     rw [← h1,hc,add_of_add,hdm] at h4
     exact h4
   · intro x hx
     obtain ⟨i,hi⟩:=List.getElem?_of_mem hx
     obtain ⟨hin,rfl⟩:=hget i x hi
     exact (hfx i hin).2
theorem cells_ref : Tryz.prog.cellsOf 77=2:=by kernel_rfl
theorem cells_op : Tryz.prog.cellsOf 88=13:=by kernel_rfl
theorem cells_change : Tryz.prog.cellsOf 82=5:=by kernel_rfl
theorem cells_ids : Tryz.prog.cellsOf 28=1:=by kernel_rfl
theorem cells_refs : Tryz.prog.cellsOf 79=1:=by kernel_rfl
theorem cells_ops : Tryz.prog.cellsOf 80=1:=by kernel_rfl
theorem trod_ref {fuel : Nat} {cs : List Value} {x : DataW H × List MemPlace} (h : DataW.trod enc Tryz.prog w base spare held fuel 77 cs=some x) :
 ∃ a b,cs=[.int .i64 a,.int .i64 b]:=by
 obtain ⟨xs,n,_,rfl,hl,hn,hf⟩:=DataW.trod_struct Tryz.underlying77 h
 rw [cells_ref] at hl
 match cs,hl with
 | [c0,c1],_ =>
   match xs,hn with
   | [y0,y1],_ =>
     have f0 : DataW.trod enc Tryz.prog w base spare held n 3 (List.take (Tryz.prog.cellsOf 3) (List.drop 0 [c0,c1]))=some y0:=hf 0 _ rfl
     have f1 : DataW.trod enc Tryz.prog w base spare held n 3 (List.take (Tryz.prog.cellsOf 3) (List.drop 1 [c0,c1]))=some y1:=hf 1 _ rfl
     rw [cells_int] at f0 f1
     obtain ⟨a,e0,rfl,wa⟩:=DataW.trod_int Tryz.underlying3 f0
     obtain ⟨b,e1,rfl,wb⟩:=DataW.trod_int Tryz.underlying3 f1
     simp at e0 e1
     subst e0 e1
     exact ⟨a,b,rfl⟩
theorem trod_pairs {t e : TypeId} {fuel : Nat} {cs : List Value} {x : DataW H × List MemPlace} (ht : Tryz.prog.underlying t=some (.slice e)) (hc : Tryz.prog.cellsOf e=2)
 (hel : ∀ fuel cs x,DataW.trod enc Tryz.prog w base spare held fuel e cs=some x→∃ a b,cs=[.int .i64 a,.int .i64 b]) (h : DataW.trod enc Tryz.prog w base spare held fuel t cs=some x) :
 ∃ A c,∃ l : List Rf,cs=[.slice A l.length c]∧l.length≤9223372036854775807∧Reads (· < w.heap.size) w 2 A l.length (refC l):=by
 obtain ⟨A,c,l,h1,h2,h3,h4,_⟩:=trod_rows (α:=Rf) (fun p=>[.int .i64 p.1,.int .i64 p.2]) 2 (fun _=>rfl) (by omega) (fun _=>True) ht hc (fun fuel cs x h=>by
  obtain ⟨a,b,rfl⟩:=hel _ _ _ h
  exact ⟨(a,b),rfl,trivial⟩) h
 have hmx : maxLen=9223372036854775807:=by simp only [maxLen,Nat.reducePow,Nat.reduceSub]
 exact ⟨A,c,l,h1,by omega,h4⟩
def OpOk (w : World) (o : OpD) : Prop:=(Lit.int .i64 o.vn).wf=true∧Reads (· < w.heap.size) w 2 o.A o.l.length (refC o.l)∧o.l.length≤9223372036854775807
instance : Inhabited OpD:=⟨⟨0,0,0,⟨#[]⟩,0,0,false,0,0,⟨#[]⟩,0,0,none,0,[]⟩⟩
theorem trod_op {fuel : Nat} {cs : List Value} {x : DataW H × List MemPlace} (h : DataW.trod enc Tryz.prog w base spare held fuel 88 cs=some x) : ∃ o,cs=opC o∧OpOk w o:=by
 obtain ⟨xs,n,_,rfl,hl,hn,hf⟩:=DataW.trod_struct Tryz.underlying88 h
 rw [cells_op] at hl
 match cs,hl with
 | [c0,c1,c2,c3,c4,c5,c6,c7,c8,c9,c10,c11,c12],_ =>
   match xs,hn with
   | [y0,y1,y2,y3,y4,y5,y6],_ =>
     have f0 : DataW.trod enc Tryz.prog w base spare held n 3 (List.take (Tryz.prog.cellsOf 3) (List.drop 0 [c0,c1,c2,c3,c4,c5,c6,c7,c8,c9,c10,c11,c12]))=some y0:=hf 0 _ rfl
     have f1 : DataW.trod enc Tryz.prog w base spare held n 24 (List.take (Tryz.prog.cellsOf 24) (List.drop 1 [c0,c1,c2,c3,c4,c5,c6,c7,c8,c9,c10,c11,c12]))=some y1:=hf 1 _ rfl
     have f2 : DataW.trod enc Tryz.prog w base spare held n 9 (List.take (Tryz.prog.cellsOf 9) (List.drop 3 [c0,c1,c2,c3,c4,c5,c6,c7,c8,c9,c10,c11,c12]))=some y2:=hf 2 _ rfl
     have f3 : DataW.trod enc Tryz.prog w base spare held n 24 (List.take (Tryz.prog.cellsOf 24) (List.drop 4 [c0,c1,c2,c3,c4,c5,c6,c7,c8,c9,c10,c11,c12]))=some y3:=hf 3 _ rfl
     have f4 : DataW.trod enc Tryz.prog w base spare held n 4 (List.take (Tryz.prog.cellsOf 4) (List.drop 6 [c0,c1,c2,c3,c4,c5,c6,c7,c8,c9,c10,c11,c12]))=some y4:=hf 4 _ rfl
     have f5 : DataW.trod enc Tryz.prog w base spare held n 50 (List.take (Tryz.prog.cellsOf 50) (List.drop 7 [c0,c1,c2,c3,c4,c5,c6,c7,c8,c9,c10,c11,c12]))=some y5:=hf 5 _ rfl
     have f6 : DataW.trod enc Tryz.prog w base spare held n 28 (List.take (Tryz.prog.cellsOf 28) (List.drop 12 [c0,c1,c2,c3,c4,c5,c6,c7,c8,c9,c10,c11,c12]))=some y6:=hf 6 _ rfl
     rw [cells_int] at f0
     rw [cells_id] at f1 f3
     rw [cells_string] at f2
     rw [cells_bool] at f4
     rw [cells_value] at f5
     rw [cells_ids] at f6
     obtain ⟨k,e0,rfl,wk⟩:=DataW.trod_int Tryz.underlying3 f0
     obtain ⟨on,oa,e1,_,_,rfl⟩:=trod_id f1
     obtain ⟨key,e2,rfl,wt⟩:=DataW.trod_string Tryz.underlying9 f2
     obtain ⟨en,ea,e3,_,_,rfl⟩:=trod_id f3
     obtain ⟨ins,e4,rfl⟩:=DataW.trod_bool Tryz.underlying4 f4
     obtain ⟨vk,vn,vt,va,vb,e5,_,wn,_,_,_,rfl⟩:=trod_value f5
     obtain ⟨PA,pc,l,e6,hl6,hr6⟩:=trod_pairs Tryz.underlying28 cells_id (fun fuel cs x h=>by obtain ⟨a,b,h1,_⟩:=trod_id h;exact ⟨a,b,h1⟩) f6
     simp at e0 e1 e2 e3 e4 e5 e6
     obtain ⟨rfl,rfl⟩:=e1
     obtain ⟨rfl,rfl⟩:=e3
     obtain ⟨rfl,rfl,rfl,rfl,rfl⟩:=e5
     subst e0 e2 e4 e6
     exact ⟨⟨k,on,oa,key,en,ea,ins,vk,vn,vt,va,vb,PA,pc,l⟩,rfl,wn,hr6,hl6⟩
theorem trod_change {fuel : Nat} {cs : List Value} {x : DataW H × List MemPlace} (h : DataW.trod enc Tryz.prog w base spare held fuel 82 cs=some x) :
 ∃ a s st DA DC OA OC,∃ deps : List Rf,∃ ops : List OpD,cs=[.int .i64 a,.int .i64 s,.int .i64 st,.slice DA deps.length DC,.slice OA ops.length OC]∧ChM w deps DA ops OA∧∀ o∈ops,(Lit.int .i64 o.vn).wf=true:=by
 obtain ⟨xs,n,_,rfl,hl,hn,hf⟩:=DataW.trod_struct Tryz.underlying82 h
 rw [cells_change] at hl
 match cs,hl with
 | [c0,c1,c2,c3,c4],_ =>
   match xs,hn with
   | [y0,y1,y2,y3,y4],_ =>
     have f0 : DataW.trod enc Tryz.prog w base spare held n 3 (List.take (Tryz.prog.cellsOf 3) (List.drop 0 [c0,c1,c2,c3,c4]))=some y0:=hf 0 _ rfl
     have f1 : DataW.trod enc Tryz.prog w base spare held n 3 (List.take (Tryz.prog.cellsOf 3) (List.drop 1 [c0,c1,c2,c3,c4]))=some y1:=hf 1 _ rfl
     have f2 : DataW.trod enc Tryz.prog w base spare held n 3 (List.take (Tryz.prog.cellsOf 3) (List.drop 2 [c0,c1,c2,c3,c4]))=some y2:=hf 2 _ rfl
     have f3 : DataW.trod enc Tryz.prog w base spare held n 79 (List.take (Tryz.prog.cellsOf 79) (List.drop 3 [c0,c1,c2,c3,c4]))=some y3:=hf 3 _ rfl
     have f4 : DataW.trod enc Tryz.prog w base spare held n 80 (List.take (Tryz.prog.cellsOf 80) (List.drop 4 [c0,c1,c2,c3,c4]))=some y4:=hf 4 _ rfl
     rw [cells_int] at f0 f1 f2
     rw [cells_refs] at f3
     rw [cells_ops] at f4
     obtain ⟨a,e0,rfl,_⟩:=DataW.trod_int Tryz.underlying3 f0
     obtain ⟨s,e1,rfl,_⟩:=DataW.trod_int Tryz.underlying3 f1
     obtain ⟨st,e2,rfl,_⟩:=DataW.trod_int Tryz.underlying3 f2
     obtain ⟨DA,DC,deps,e3,hld,hrd⟩:=trod_pairs Tryz.underlying79 cells_ref (fun _ _ _ h=>trod_ref h) f3
     obtain ⟨OA,OC,ops,e4,hl1,hl2,hro,hok⟩:=trod_rows (α:=OpD) opC 13 (fun _=>rfl) (by omega) (OpOk w) Tryz.underlying80 cells_op (fun _ _ _ h=>trod_op h) f4
     have hmx : maxLen=9223372036854775807:=by simp only [maxLen,Nat.reducePow,Nat.reduceSub]
     simp at e0 e1 e2 e3 e4
     subst e0 e1 e2 e3 e4
     exact ⟨a,s,st,DA,DC,OA,OC,deps,ops,rfl,⟨hrd,hld,hro,by omega,fun o ho=>⟨(hok o ho).2.1,(hok o ho).2.2⟩⟩,fun o ho=>(hok o ho).1⟩
end
end Go.Proofs.YtmpkejflgpodkaaGreatDoor
