/- Contracts: change.Check and the document's Change: what is wrong with a change. -/
import Derived.Test.YtmpkejflgpodkaaGreatDoorP8
import Derived.Test.YtmpkejflgpodkaaGreatDoorP1
set_option maxHeartbeats 8000000
set_option maxRecDepth 20000
set_option linter.unusedVariables false
set_option linter.unusedSimpArgs false
namespace Go.Proofs.YtmpkejflgpodkaaGreatDoor
open Go.ChangeShapes Go.WideShapes Go.ChangeAt Go.RowKit
section
structure OpD where
 k:Int
 on:Int
 oa:Int
 key:ByteArray
 en:Int
 ea:Int
 ins:Bool
 vk:Int
 vn:Int
 vt:ByteArray
 va:Int
 vb:Int
 A:Option Addr
 c:Nat
 l:List Rf
def opC(o:OpD):List Value:=[.int .i64 o.k,.int .i64 o.on,.int .i64 o.oa,.string o.key,.int .i64 o.en,.int .i64 o.ea,.bool o.ins,.int .i64 o.vk,.int .i64 o.vn,.string o.vt,.int .i64 o.va,.int .i64 o.vb,.slice o.A o.l.length o.c]
def gY(l:List OpD):List Value:=l.flatMap opC
theorem bR:∀ {l:List OpD} {k:Nat} {o:OpD},l[k]?=some o→∀i,i<13→(gY l)[k*13+i]?=(opC o)[i]?
 | [],k,r,h=>by simp at h
 |x::l,0,o,h=>fun i hi=>by
  simp at h;subst h;simp only[gY,tM,xW,vE];exact tU (by simp only[opC,sW,wA];omega)
 |x::l,k+1,o,h=>fun i hi=>by
  have ih:=bR (l:=l) (k:=k) (by simpa using h) i hi;have e:gY (x::l)=opC x++gY l:=by simp[gY]
  have hx:(opC x).length=13:=by simp[opC]
  rw[e,tR (by rw[hx];omega),hx,show(k+1)*13+i-13=k*13+i from by omega];exact ih
def fC(o:OpD):Nat:=opE o.k o.on o.oa o.key o.en o.ea o.ins o.vk o.vn o.vt o.va o.vb o.l
def fI:List OpD→Nat
 | []=>0
 |o::l=>if fC o=0 then fI l else fC o
def dK(a s st:Int)(deps:List Rf)(ops:List OpD):Nat :=
 if dZ (a,s)=false∨st<1∨1000000<st then 1
 else if 12<deps.length then 4
 else if cK 0 deps≠0 then cK 0 deps
 else if 40<ops.length then 4
 else if 1000000<st+ops.length-1 then 1
 else fI ops
structure ChM(w:World)(deps:List Rf)(DA:Option Addr)(ops:List OpD)(OA:Option Addr):Prop where
 hd:aC (fun k=>k<w.heap.size) w 2 DA deps.length (aE deps)
 hdl:deps.length≤9223372036854775807
 ho:aC (fun k=>k<w.heap.size) w 13 OA ops.length (gY ops)
 hol:ops.length≤9223372036854775807
 hp:∀o∈ops,aC (fun k=>k<w.heap.size) w 2 o.A o.l.length (aE o.l)∧o.l.length≤9223372036854775807
theorem aA{w w':World}{size n:Nat}{A:Option Addr}{xs:List Value}(h:aC (fun k=>k<w.heap.size) w size A n xs)(hb:Below w.heap.size w w'):aC (fun k=>k<w'.heap.size) w' size A n xs :=
 (h.keep fun k hk=>hb.block k hk).more fun _ hk=>sE hk hb.size
theorem ChM.keep{w w':World}{deps:List Rf}{DA:Option Addr}{ops:List OpD}{OA:Option Addr}(h:ChM w deps DA ops OA)(hb:Below w.heap.size w w'):ChM w' deps DA ops OA :=
 ⟨aA h.hd hb,h.hdl,aA h.ho hb,h.hol,fun o ho=>⟨aA (h.hp o ho).1 hb,(h.hp o ho).2⟩⟩
theorem op_cells{w:World}{D:Nat→Prop}{OA:Option Addr}{ops:List OpD}{n:Nat}(h:aC D w 13 OA n (gY ops))(hn:0<n){j:Nat}{o:OpD}(hj:ops[j]?=some o):
 ∃b off,OA=some ⟨b,off,none⟩∧D b∧∀w':World,w'.heap[b]?=w.heap[b]? →
  w'.cell? ⟨b,off+j*13,none⟩=some (.int .i64 o.k)∧w'.cell? ⟨b,off+j*13+1,none⟩=some (.int .i64 o.on)∧w'.cell? ⟨b,off+j*13+2,none⟩=some (.int .i64 o.oa) ∧
  w'.cell? ⟨b,off+j*13+3,none⟩=some (.string o.key)∧w'.cell? ⟨b,off+j*13+4,none⟩=some (.int .i64 o.en)∧w'.cell? ⟨b,off+j*13+5,none⟩=some (.int .i64 o.ea) ∧
  w'.cell? ⟨b,off+j*13+6,none⟩=some (.bool o.ins)∧w'.cell? ⟨b,off+j*13+7,none⟩=some (.int .i64 o.vk)∧w'.cell? ⟨b,off+j*13+8,none⟩=some (.int .i64 o.vn) ∧
  w'.cell? ⟨b,off+j*13+9,none⟩=some (.string o.vt)∧w'.cell? ⟨b,off+j*13+10,none⟩=some (.int .i64 o.va)∧w'.cell? ⟨b,off+j*13+11,none⟩=some (.int .i64 o.vb) ∧
  w'.cell? ⟨b,off+j*13+12,none⟩=some (.slice o.A o.l.length o.c):=by
 obtain⟨b,off,hA,hb,hc⟩:=h.at_ hn (by omega)
 have key:∀w':World,w'.heap[b]?=w.heap[b]?→∀i u,i<13→(opC o)[i]?=some u→w'.cell? ⟨b,off+j*13+i,none⟩=some u:=fun w' hw i u hi hu=>by
  have h1:w'.cell? ⟨b,off+j*13+i,none⟩=w.cell? ⟨b,off+j*13+i,none⟩:=sM (w:=w) hw;rw[h1,tL];exact hc _ _ (by rw[bR hj i hi];exact hu)
 exact⟨b,off,hA,hb,fun w' hw=>⟨key w' hw 0 _ (by omega) rfl,key w' hw 1 _ (by omega) rfl,key w' hw 2 _ (by omega) rfl,key w' hw 3 _ (by omega) rfl,key w' hw 4 _ (by omega) rfl,key w' hw 5 _ (by omega) rfl,
  key w' hw 6 _ (by omega) rfl,key w' hw 7 _ (by omega) rfl,key w' hw 8 _ (by omega) rfl,key w' hw 9 _ (by omega) rfl,key w' hw 10 _ (by omega) rfl,key w' hw 11 _ (by omega) rfl,key w' hw 12 _ (by omega) rfl⟩⟩
theorem drop_op{l:List OpD}{k:Nat}{r:OpD}(h:l[k]?=some r):l.drop k=r::l.drop (k+1):=by
 obtain⟨hl,e⟩:=sF.1 h
 rw[tJ hl,e]
theorem opX_any(o:OpD)(w:World)(hr:aC (fun k=>k<w.heap.size) w 2 o.A o.l.length (aE o.l))(hl:o.l.length≤9223372036854775807):
 Calls Tryz.prog 162 #[.agg (opC o).toArray] w fun e w'=>e=.returned (eA (fC o))∧Below w.heap.size w w' :=
 op_any _ _ _ _ _ _ _ _ _ _ _ _ _ _ _ _ _ w rfl hl hr fun _ h=>h
theorem refOpX_any(o:OpD)(w:World)(hr:aC (fun k=>k<w.heap.size) w 2 o.A o.l.length (aE o.l))(hl:o.l.length≤9223372036854775807):
 Calls Tryz.prog 79 #[.agg (opC o).toArray] w fun e w'=>e=.returned (.int .i64 (fC o))∧Below w.heap.size w w' :=
 refOp_any _ _ _ _ _ _ _ _ _ _ _ _ _ _ _ _ _ w rfl hl hr fun _ h=>h
theorem check_any(a s st:Int)(deps:List Rf)(DA:Option Addr)(dn DC:Nat)(ops:List OpD)(OA:Option Addr)(m OC:Nat)(w:World)
 (hC:ChM w deps DA ops OA) (hdn:deps.length=dn) (hm:ops.length=m) :
 Calls Tryz.prog 125 #[.agg #[.int .i64 a,.int .i64 s,.int .i64 st,.slice DA dn DC,.slice OA m OC]] w fun e w'=>e=.returned (eA (dK a s st deps ops))∧Below w.heap.size w w':=by
 have HC:=Hi hC;have HDN:=Hi hdn;have HM:=Hi hm;have hbd:dn≤9223372036854775807:=by rw[←hdn];exact hC.hdl
 have hbm:m≤9223372036854775807:=by rw[←hm];exact hC.hol
 have HW:=Hi ((sB _ w).alloc (sC _) (.cells #[.int .i64 a,.int .i64 s,.int .i64 st,.slice DA dn DC,.slice OA m OC] 82));have HBC:=Hi (Blk.new w 82 #[.int .i64 a,.int .i64 s,.int .i64 st,.slice DA dn DC,.slice OA m OC]);have R1:=cref_any (a,s);unfold bB at R1;clear hC hdn hm;go_enter Tryz.func125,Tryz.ntmps125;go_wp2_with fail
 go_at_call 160;refine(R1 _).mono ?_
 rintro e w1 ⟨rfl,hb⟩;replace HBC:=Hi (HBC.o.keep (hb.block _ HBC.o.lt));replace HW:=Hi (HW.o.trans (hb.mono HW.o.size));clear hb;try clear c0 c1 c2 c3 c4
 obtain⟨c0,c1,c2,c3,c4⟩:=ce5 HBC.o
 clear R1;cases hr:dZ (a,s)
 ·have HV:Hid (dK a s st deps ops=1):=by show _=_;rw[dK,if_pos (Or.inl hr)]
  go_wp2_with fail
  go_ret;exact⟨by rw[HV.o];rfl,HW.o⟩
 by_cases h1:st<1
 ·have HV:Hid (dK a s st deps ops=1):=by show _=_;rw[dK,if_pos (Or.inr (Or.inl h1))]
  have d1:decide (st<1)=true:=decide_eq_true h1;clear h1;go_wp2_with fail
  go_ret;exact⟨by rw[HV.o];rfl,HW.o⟩
 have d1:decide (st<1)=false:=decide_eq_false h1;by_cases h2:1000000<st
 ·have HV:Hid (dK a s st deps ops=1):=by show _=_;rw[dK,if_pos (Or.inr (Or.inr h2))]
  have d2:decide (1000000<st)=true:=decide_eq_true h2;clear h1 h2;go_wp2_with fail
  go_ret;exact⟨by rw[HV.o];rfl,HW.o⟩
 have d2:decide (1000000<st)=false:=decide_eq_false h2;have HS:Hid (1≤st∧st≤1000000):=by show _∧_;omega
 have HV0:Hid (dK a s st deps ops=if 12<deps.length then 4 else if cK 0 deps≠0 then cK 0 deps else if 40<ops.length then 4 else if 1000000<st+ops.length-1 then 1 else fI ops):=by
  show _=_;rw[dK,if_neg];rintro(h|h|h)
  ·rw[hr]at h;cases h
  ·exact h1 h
  ·exact h2 h
 clear h1 h2;by_cases h3:12<dn
 ·have HV:Hid (dK a s st deps ops=4):=by show _=_;rw[HV0.o,if_pos (by rw[HDN.o];exact h3)]
  have d3:decide (12<(dn:Int))=true:=decide_eq_true (by omega);clear h3;go_wp2_with fail
  go_ret;exact⟨by rw[HV.o];rfl,HW.o⟩
 have d3:decide (12<(dn:Int))=false:=decide_eq_false (by omega);have H3:=Hi h3;clear h3 hr;go_wp2_with fail
 clear d1 d2 d3;have HCk:=fun w' (hb:Below w.heap.size w w')=>HC.o.keep hb
 have RF:=refs_any deps _ DA DC w1 (HC.o.keep HW.o).hd (fun k h=>h) HC.o.hdl;rw[HDN.o]at RF;go_at_call 161;by_cases h4:cK 0 deps=0
 case neg =>
  have HV:Hid (dK a s st deps ops=cK 0 deps):=by show _=_;rw[HV0.o,if_neg (by rw[HDN.o];exact H3.o),if_pos h4]
  rw[show eA (cK 0 deps)=.iface 101 (.int .i64 (cK 0 deps)) from if_neg h4]at RF;have HE:Hid (eA (cK 0 deps)=.iface 101 (.int .i64 (cK 0 deps))):=by show _=_;exact if_neg h4
  generalize cK 0 deps=ie at *;clear h4 HV0;refine RF.mono ?_;rintro e w2 ⟨rfl,hb⟩;replace HBC:=Hi (HBC.o.keep (hb.block _ HBC.o.lt));replace HW:=Hi (HW.o.trans (hb.mono HW.o.size));clear hb;try clear c0 c1 c2 c3 c4
  obtain⟨c0,c1,c2,c3,c4⟩:=ce5 HBC.o
  go_wp2_with fail
  go_ret;exact⟨by rw[HV.o,HE.o];rfl,HW.o⟩
 have HV1:Hid (dK a s st deps ops=if 40<ops.length then 4 else if 1000000<st+ops.length-1 then 1 else fI ops):=by
  show _=_;rw[HV0.o,if_neg (by rw[HDN.o];exact H3.o),if_neg (by rw[h4];simp)]
 rw[h4,show eA 0=.nilIface from rfl]at RF;clear h4 HV0;refine RF.mono ?_;rintro e w2 ⟨rfl,hb⟩;replace HBC:=Hi (HBC.o.keep (hb.block _ HBC.o.lt));replace HW:=Hi (HW.o.trans (hb.mono HW.o.size));clear hb;try clear c0 c1 c2 c3 c4
 obtain⟨c0,c1,c2,c3,c4⟩:=ce5 HBC.o
 clear RF;by_cases h5:40<m
 ·have HV:Hid (dK a s st deps ops=4):=by show _=_;rw[HV1.o,if_pos (by rw[HM.o];exact h5)]
  have d1:decide (40<(m:Int))=true:=decide_eq_true (by omega);clear h5;go_wp2_with fail
  go_ret;exact⟨by rw[HV.o];rfl,HW.o⟩
 have d1:decide (40<(m:Int))=false:=decide_eq_false (by omega);have x1:IntKind.i64.wrap (st+(m:Int))=st+(m:Int):=uG _ (by have:=HS.o;omega);have x2:IntKind.i64.wrap (st+(m:Int)-1)=st+(m:Int)-1:=uG _ (by have:=HS.o;omega);by_cases h6:1000000<st+(m:Int)-1
 ·have HV:Hid (dK a s st deps ops=1):=by show _=_;rw[HV1.o,if_neg (by rw[HM.o];exact h5),if_pos (by rw[HM.o];exact h6)]
  have d2:decide (1000000<st+(m:Int)-1)=true:=decide_eq_true h6;clear h5 h6;go_wp2_with fail
  go_ret;exact⟨by rw[HV.o];rfl,HW.o⟩
 have d2:decide (1000000<st+(m:Int)-1)=false:=decide_eq_false h6;have HV2:Hid (dK a s st deps ops=fI ops):=by show _=_;rw[HV1.o,if_neg (by rw[HM.o];exact h5),if_neg (by rw[HM.o];exact h6)]
 clear h5 h6 HV1;go_wp2_with fail
 clear d1 d2 x1 x2 c0 c1 c2 c3 c4;go_loopw [55] (fun s wr=>∃j:Nat,j≤m∧s=.int .i64 j∧Hid (Below w.heap.size w wr)∧Hid (fI ops=fI (ops.drop j))) (fun s _=>m-(intOf s).toNat)
 case atStart=>exact⟨0,by omega,rfl,HW,by show _=_;rw[tH]⟩
 case round =>
  clear HW HBC;obtain⟨j,hj,rfl,HW,HO⟩:=hrel
  by_cases hlt:j<m
  ·obtain⟨o,ho⟩:∃o,ops[j]?=some o:=lG (by rw[HM.o];exact hlt)
   obtain⟨b,off,hA,hb,hcs⟩:=op_cells (HC.o.ho) (by rw[HM.o];omega) ho
   have hcw:=hcs wr (HW.o.block b hb);have hmem:=sJ ho;have hd:=drop_op ho;have HP:=HC.o.keep (HW.o.alloc HW.o.size (.cells (opC o).toArray 88));have OX:=opX_any o _ (HP.hp o hmem).1 (HP.hp o hmem).2;clear hcs HP hmem;have HX:Hid (fI ops=if fC o=0 then fI (ops.drop (j+1)) else fC o):=by show _=_;rw[HO.o,hd];rfl
   generalize fC o=oe at OX HX;have HWA:Hid (Below w.heap.size w (wr.alloc (.cells (opC o).toArray 88))):=HW.o.alloc HW.o.size _;obtain⟨y0,y1,y2,y3,y4,y5,y6,y7,y8,y9,y10,y11,y12⟩:=hcw
   subst hA;simp only[opC]at OX HWA;generalize o.l.length=ol at *;clear hd ho HO;go_wp2_with fail
   go_at_call 162;by_cases hoe:oe=0
   ·subst hoe;have HN:Hid (fI ops=fI (ops.drop (j+1))):=by show _=_;rw[HX.o,if_pos rfl]
    rw[show eA 0=.nilIface from rfl]at OX;refine OX.mono ?_;rintro e w3 ⟨rfl,hb3⟩;have HW3:=Hi (HWA.o.trans (hb3.mono HWA.o.size));clear OX hb3 HX HWA y0 y1 y2 y3 y4 y5 y6 y7 y8 y9 y10 y11 y12;go_wp2_with fail
    first
     |exact⟨⟨j+1,by omega,by go_num,HW3,HN⟩,by simp[intOf];omega⟩
     |(go_roundw
       case rel=>exact⟨j+1,by omega,by go_num,HW3,HN⟩
       case measure=>simp[intOf];omega)
   ·have HF:Hid (dK a s st deps ops=oe):=by show _=_;rw[HV2.o,HX.o,if_neg hoe]
    have HE:Hid (eA oe=.iface 101 (.int .i64 oe)):=by show _=_;exact if_neg hoe
    rw[HE.o]at OX;refine OX.mono ?_;rintro e w3 ⟨rfl,hb3⟩;have HW3:=Hi (HWA.o.trans (hb3.mono HWA.o.size));clear OX hb3 HX HWA hoe y0 y1 y2 y3 y4 y5 y6 y7 y8 y9 y10 y11 y12;go_wp2_with fail
    go_ret;exact⟨by rw[HF.o,HE.o];rfl,HW3.o⟩
  ·have HF:Hid (dK a s st deps ops=0):=by
    show _=_;rw[HV2.o,HO.o,uW (by rw[HM.o];omega)];rfl
   go_wp2_with fail
   go_ret;exact⟨by rw[HF.o];rfl,HW.o⟩
end
section
theorem refChange_any(a s st:Int)(deps:List Rf)(DA:Option Addr)(dn DC:Nat)(ops:List OpD)(OA:Option Addr)(m OC:Nat)(w:World)
 (hC:ChM w deps DA ops OA) (hdn:deps.length=dn) (hm:ops.length=m) :
 Calls Tryz.prog 51 #[.agg #[.int .i64 a,.int .i64 s,.int .i64 st,.slice DA dn DC,.slice OA m OC]] w fun e w'=>e=.returned (.int .i64 (dK a s st deps ops))∧Below w.heap.size w w':=by
 have HC:=Hi hC;have HDN:=Hi hdn;have HM:=Hi hm;have hbd:dn≤9223372036854775807:=by rw[←hdn];exact hC.hdl
 have hbm:m≤9223372036854775807:=by rw[←hm];exact hC.hol
 have HW:=Hi ((sB _ w).alloc (sC _) (.cells #[.int .i64 a,.int .i64 s,.int .i64 st,.slice DA dn DC,.slice OA m OC] 82));have HBC:=Hi (Blk.new w 82 #[.int .i64 a,.int .i64 s,.int .i64 st,.slice DA dn DC,.slice OA m OC]);have R1:=refRef_any (a,s);unfold bB at R1;clear hC hdn hm;go_enter Tryz.func51,Tryz.ntmps51;go_wp2_with fail
 go_at_call 77;refine(R1 _).mono ?_
 rintro e w1 ⟨rfl,hb⟩;replace HBC:=Hi (HBC.o.keep (hb.block _ HBC.o.lt));replace HW:=Hi (HW.o.trans (hb.mono HW.o.size));clear hb;try clear c0 c1 c2 c3 c4
 obtain⟨c0,c1,c2,c3,c4⟩:=ce5 HBC.o
 clear R1;cases hr:dZ (a,s)
 ·have HV:Hid (dK a s st deps ops=1):=by show _=_;rw[dK,if_pos (Or.inl hr)]
  go_wp2_with fail
  go_ret;exact⟨by rw[HV.o];rfl,HW.o⟩
 by_cases h1:st<1
 ·have HV:Hid (dK a s st deps ops=1):=by show _=_;rw[dK,if_pos (Or.inr (Or.inl h1))]
  have d1:decide (st<1)=true:=decide_eq_true h1;clear h1;go_wp2_with fail
  go_ret;exact⟨by rw[HV.o];rfl,HW.o⟩
 have d1:decide (st<1)=false:=decide_eq_false h1;by_cases h2:1000000<st
 ·have HV:Hid (dK a s st deps ops=1):=by show _=_;rw[dK,if_pos (Or.inr (Or.inr h2))]
  have d2:decide (1000000<st)=true:=decide_eq_true h2;clear h1 h2;go_wp2_with fail
  go_ret;exact⟨by rw[HV.o];rfl,HW.o⟩
 have d2:decide (1000000<st)=false:=decide_eq_false h2;have HS:Hid (1≤st∧st≤1000000):=by show _∧_;omega
 have HV0:Hid (dK a s st deps ops=if 12<deps.length then 4 else if cK 0 deps≠0 then cK 0 deps else if 40<ops.length then 4 else if 1000000<st+ops.length-1 then 1 else fI ops):=by
  show _=_;rw[dK,if_neg];rintro(h|h|h)
  ·rw[hr]at h;cases h
  ·exact h1 h
  ·exact h2 h
 clear h1 h2;by_cases h3:12<dn
 ·have HV:Hid (dK a s st deps ops=4):=by show _=_;rw[HV0.o,if_pos (by rw[HDN.o];exact h3)]
  have d3:decide (12<(dn:Int))=true:=decide_eq_true (by omega);clear h3;go_wp2_with fail
  go_ret;exact⟨by rw[HV.o];rfl,HW.o⟩
 have d3:decide (12<(dn:Int))=false:=decide_eq_false (by omega);have H3:=Hi h3;clear h3 hr;go_wp2_with fail
 clear d1 d2 d3;have HCk:=fun w' (hb:Below w.heap.size w w')=>HC.o.keep hb
 have RF:=refClock_any deps _ DA DC w1 (HC.o.keep HW.o).hd (fun k h=>h) HC.o.hdl;rw[HDN.o]at RF;go_at_call 78;by_cases h4:cK 0 deps=0
 case neg =>
  have HV:Hid (dK a s st deps ops=cK 0 deps):=by show _=_;rw[HV0.o,if_neg (by rw[HDN.o];exact H3.o),if_pos h4]
  generalize cK 0 deps=ie at *;have d4:((ie:Int) == 0)=false:=by simp;omega
  clear h4 HV0;refine RF.mono ?_;rintro e w2 ⟨rfl,hb⟩;replace HBC:=Hi (HBC.o.keep (hb.block _ HBC.o.lt));replace HW:=Hi (HW.o.trans (hb.mono HW.o.size));clear hb;try clear c0 c1 c2 c3 c4
  obtain⟨c0,c1,c2,c3,c4⟩:=ce5 HBC.o
  go_wp2_with fail
  go_ret;exact⟨by rw[HV.o];rfl,HW.o⟩
 have HV1:Hid (dK a s st deps ops=if 40<ops.length then 4 else if 1000000<st+ops.length-1 then 1 else fI ops):=by
  show _=_;rw[HV0.o,if_neg (by rw[HDN.o];exact H3.o),if_neg (by rw[h4];simp)]
 rw[h4]at RF;clear h4 HV0;refine RF.mono ?_;rintro e w2 ⟨rfl,hb⟩;replace HBC:=Hi (HBC.o.keep (hb.block _ HBC.o.lt));replace HW:=Hi (HW.o.trans (hb.mono HW.o.size));clear hb;try clear c0 c1 c2 c3 c4
 obtain⟨c0,c1,c2,c3,c4⟩:=ce5 HBC.o
 clear RF;by_cases h5:40<m
 ·have HV:Hid (dK a s st deps ops=4):=by show _=_;rw[HV1.o,if_pos (by rw[HM.o];exact h5)]
  have d1:decide (40<(m:Int))=true:=decide_eq_true (by omega);clear h5;go_wp2_with fail
  go_ret;exact⟨by rw[HV.o];rfl,HW.o⟩
 have d1:decide (40<(m:Int))=false:=decide_eq_false (by omega);have x1:IntKind.i64.wrap (st+(m:Int))=st+(m:Int):=uG _ (by have:=HS.o;omega);have x2:IntKind.i64.wrap (st+(m:Int)-1)=st+(m:Int)-1:=uG _ (by have:=HS.o;omega);by_cases h6:1000000<st+(m:Int)-1
 ·have HV:Hid (dK a s st deps ops=1):=by show _=_;rw[HV1.o,if_neg (by rw[HM.o];exact h5),if_pos (by rw[HM.o];exact h6)]
  have d2:decide (1000000<st+(m:Int)-1)=true:=decide_eq_true h6;clear h5 h6;go_wp2_with fail
  go_ret;exact⟨by rw[HV.o];rfl,HW.o⟩
 have d2:decide (1000000<st+(m:Int)-1)=false:=decide_eq_false h6;have HV2:Hid (dK a s st deps ops=fI ops):=by show _=_;rw[HV1.o,if_neg (by rw[HM.o];exact h5),if_neg (by rw[HM.o];exact h6)]
 clear h5 h6 HV1;go_wp2_with fail
 clear d1 d2 x1 x2 c0 c1 c2 c3 c4;go_loopw [5] (fun z wr=>∃j:Nat,j≤m∧z=.int .i64 j∧Hid (Below w.heap.size w wr)∧Hid (Blk wr w.heap.size 82 #[.int .i64 a,.int .i64 s,.int .i64 st,.slice DA dn DC,.slice OA m OC])∧Hid (fI ops=fI (ops.drop j))) (fun z _=>m-(intOf z).toNat)
 case atStart=>exact⟨0,by omega,rfl,HW,HBC,by show _=_;rw[tH]⟩
 case round =>
  clear HW HBC;obtain⟨j,hj,rfl,HW,HBC,HO⟩:=hrel
  obtain⟨c0,c1,c2,c3,c4⟩:=ce5 HBC.o
  by_cases hlt:j<m
  ·obtain⟨o,ho⟩:∃o,ops[j]?=some o:=lG (by rw[HM.o];exact hlt)
   obtain⟨b,off,hA,hb,hcs⟩:=op_cells (HC.o.ho) (by rw[HM.o];omega) ho
   have hcw:=hcs wr (HW.o.block b hb);have hmem:=sJ ho;have hd:=drop_op ho;have HP:=HC.o.keep HW.o;have OX:=refOpX_any o _ (HP.hp o hmem).1 (HP.hp o hmem).2;clear hcs HP hmem;have HX:Hid (fI ops=if fC o=0 then fI (ops.drop (j+1)) else fC o):=by show _=_;rw[HO.o,hd];rfl
   generalize fC o=oe at OX HX;obtain⟨y0,y1,y2,y3,y4,y5,y6,y7,y8,y9,y10,y11,y12⟩:=hcw
   subst hA;simp only[opC]at OX;generalize o.l.length=ol at *;clear hd ho HO;go_wp2_with fail
   go_at_call 79;refine OX.mono ?_;rintro e w3 ⟨rfl,hb3⟩;have HW3:=Hi (HW.o.trans (hb3.mono HW.o.size));have HB3:Hid (Blk w3 w.heap.size 82 #[.int .i64 a,.int .i64 s,.int .i64 st,.slice DA dn DC,.slice (some ⟨b,off,none⟩) m OC]):=Hi (HBC.o.keep (hb3.block _ HBC.o.lt));clear OX hb3 y0 y1 y2 y3 y4 y5 y6 y7 y8 y9 y10 y11 y12 c0 c1 c2 c3 c4;by_cases hoe:oe=0
   ·subst hoe;have HN:Hid (fI ops=fI (ops.drop (j+1))):=by show _=_;rw[HX.o,if_pos rfl]
    clear HX;go_wp2_with fail
    first
     |exact⟨⟨j+1,by omega,by go_num,HW3,HB3,HN⟩,by simp[intOf];omega⟩
     |(go_roundw
       case rel=>exact⟨j+1,by omega,by go_num,HW3,HB3,HN⟩
       case measure=>simp[intOf];omega)
   ·have HF:Hid (dK a s st deps ops=oe):=by show _=_;rw[HV2.o,HX.o,if_neg hoe]
    have d4:((oe:Int) == 0)=false:=by simp;omega
    clear HX hoe;go_wp2_with fail
    go_ret;exact⟨by rw[HF.o];rfl,HW3.o⟩
  ·have HF:Hid (dK a s st deps ops=0):=by
    show _=_;rw[HV2.o,HO.o,uW (by rw[HM.o];omega)];rfl
   go_wp2_with fail
   go_ret;exact⟨by rw[HF.o];rfl,HW.o⟩
end
section
def cX(r:Rf):List UInt8:=bG [r.1,r.2]
def inI(b:Bool):Int:=if b then 1 else 0
def opB(o:OpD):List UInt8 :=
 bG [o.k,o.on,o.oa,(o.key.size:Int)]++o.key.data.toList++bG [o.en,o.ea,inI o.ins,o.vk]++jP o.vn++bG [(o.vt.size:Int)]++o.vt.data.toList++bG [(o.l.length:Int)]++o.l.flatMap cX
def jR(a s st:Int)(deps:List Rf)(ops:List OpD):List UInt8 :=
 bG [a,s,st,(deps.length:Int)]++deps.flatMap cX++bG [(ops.length:Int)]++ops.flatMap opB
def jC(x:Int):Prop:=0≤x∧x≤9223372036854775807
structure OpG(o:OpD):Prop where
 k:jC o.k
 on:jC o.on
 oa:jC o.oa
 key:o.key.size≤20
 en:jC o.en
 ea:jC o.ea
 vk:jC o.vk
 vn:(Lit.int .i64 o.vn).wf=true
 vt:o.vt.size≤60
 ll:o.l.length≤12
 l:∀r∈o.l,jC r.1∧jC r.2
structure EncG(a s st:Int)(deps:List Rf)(ops:List OpD):Prop where
 a:jC a
 s:jC s
 st:jC st
 dl:deps.length≤12
 d:∀r∈deps,jC r.1∧jC r.2
 ol:ops.length≤40
 o:∀o∈ops,OpG o
theorem eH{l:List Int}{n:Nat}(h:l.length=n):(bG l).length≤10*n:=by rw[←h];exact qV l
theorem kN:∀(l:List Rf),(l.flatMap cX).length≤20*l.length
 | []=>by simp
 |r::l=>by
  have:=kN l
  have h:=eH (l:=[r.1,r.2]) (n:=2) rfl;simp only[tM,sG,sW,cX]at this ⊢;omega
theorem opB_len{o:OpD}(h:OpG o):(opB o).length≤500:=by
 have h1:=eH (l:=[o.k,o.on,o.oa,(o.key.size:Int)]) (n:=4) rfl;have h2:=eH (l:=[o.en,o.ea,inI o.ins,o.vk]) (n:=4) rfl;have h3:=eH (l:=[(o.vt.size:Int)]) (n:=1) rfl;have h4:=eH (l:=[(o.l.length:Int)]) (n:=1) rfl;have h5:=kN o.l;have h6:=h.ll;have h7:o.key.data.toList.length≤20:=by have:=h.key;rw[ByteArray.size]at this;simpa using this
 have h8:o.vt.data.toList.length≤60:=by have:=h.vt;rw[ByteArray.size]at this;simpa using this
 have h9:(jP o.vn).length≤10:=(iO (zz o.vn)).2;simp only[opB,sG];omega
theorem ops_len:∀(l:List OpD),(∀o∈l,OpG o)→(l.flatMap opB).length≤500*l.length
 | [],_=>by simp
 |o::l,h=>by
  have:=ops_len l fun o ho=>h o (by simp[ho])
  have h1:=opB_len (h o (by simp));simp only[tM,sG,sW]at this ⊢;omega
def Acc(W0 w:World)(v:Value)(acc:List UInt8):Prop:=w.ownsRow W0.heap.size 5 1 v acc.length (bV acc)∧Below W0.heap.size W0 w
def oY(w w':World):Prop:=∀g t cs,Blk w g t cs→5≠t→Blk w' g t cs
theorem oY.trans{a b c:World}(h:oY a b)(k:oY b c):oY a c:=fun g t cs hb hn=>k g t cs (h g t cs hb hn) hn
theorem oY.of_evo{w w':World}{base n:Nat}{v:Value}{xs:List Value}{o':Option Nat}(h:w.ownsRow base 5 1 v n xs)(he:Evo w v.ownBlock w' o'):oY w w' :=
 fun g _ _ hb hn=>hb.keep (he.block g hb.lt (eT h hb hn))
theorem Acc.nil(W0:World){w:World}(h:Below W0.heap.size W0 w):Acc W0 w (.slice none 0 0) []:=⟨bT _ _ _ _,h⟩
theorem Acc.alloc{W0 w:World}{v:Value}{acc:List UInt8}(h:Acc W0 w v acc)(o:Obj):Acc W0 (w.alloc o) v acc:=⟨h.1.alloc o,h.2.alloc h.2.size o⟩
theorem Acc.drew{W0 w:World}{v:Value}{acc:List UInt8}(h:Acc W0 w v acc):Acc W0 w.drew v acc:=⟨h.1,h.2.drew⟩
theorem Acc.below{W0 w w':World}{v:Value}{acc:List UInt8}(h:Acc W0 w v acc)(hb:Below w.heap.size w w'):Acc W0 w' v acc:=⟨aS h.1 hb,h.2.trans (hb.mono h.2.size)⟩
theorem Acc.evo{W0 w w':World}{v v':Value}{acc acc':List UInt8}(h:Acc W0 w v acc)(ho:w'.ownsRow W0.heap.size 5 1 v' acc'.length (bV acc'))(he:Evo w v.ownBlock w' v'.ownBlock):Acc W0 w' v' acc'∧oY w w' :=
 ⟨⟨ho,h.2.trans (he.below h.2.size fun _ hg=>(aF h.1 hg).1)⟩,oY.of_evo h.1 he⟩
theorem eC{W0 wr:World}{v:Value}{acc:List UInt8}(h:Acc W0 wr v acc)(xs:List Int)(n:Nat)(lits:Array Value)(hl:lits.toList=intsC xs)(hn:xs.length=n)(hn1:n≤100)(hp:acc.length≤100000)(hx:∀x∈xs,jC x)(H:Nat)(hH:wr.heap.size=H):
 Calls Tryz.prog 122 #[v,.slice (some ⟨H,0,none⟩) n n] (wr.alloc (.cells lits 3)) fun e w'=>∃v',e=.returned v'∧Acc W0 w' v' (acc++bG xs)∧oY wr w':=by
 subst hH;have h':=h.alloc (.cells lits 3);refine(refNums_any xs acc v W0.heap.size (fun k=>k=wr.heap.size) (some ⟨wr.heap.size,0,none⟩) n n (wr.alloc (.cells lits 3)) h'.1 h'.2.size
  (reads_newC wr _ (intsC xs) n (by rw[intsC_length];exact hn) lits hl _ rfl) (by rintro k rfl;exact⟨by simp,fun e=>by have:=(aF h.1 e).2;omega⟩) hn hn1 (by omega) hx).mono ?_
 rintro e w' ⟨v',rfl,ho,he⟩;obtain⟨h1,h2⟩:=h'.evo ho he
 exact⟨v',rfl,h1,fun g t cs hb hne=>h2 g t cs (hb.alloc _) hne⟩
theorem qK{W0 w:World}{b:Option Addr}{n c:Nat}{acc:List UInt8}(ty:TypeId)(h:Acc W0 w (.slice b n c) acc)(hn:acc.length=n)(S:ByteArray)(hp:acc.length≤100000)(hS:S.size≤1000):
 ∃v' w',(Builtin.append_ #[141,9] ty #[.slice b n c,.string S]).run Tryz.prog w=.ok v' w'∧Acc W0 w' v' (acc++S.data.toList)∧oY w w':=by
 obtain⟨i0,hi,hz0,hz1,hz2⟩:=info_parts pT
 subst hn;obtain⟨v',w',h1,h2,h3,h4⟩:=run_append_str (P:=Tryz.prog) w W0.heap.size 141 9 ty 5 i0 (.int .u8 0) 1 Tryz.underlying141 Tryz.underlying9 hi hz0 hz1 hz2 rfl (.slice b acc.length c) acc.length (bV acc) h.1 S (by simp only[maxLen];omega) (by omega) h.2.size
 have ho:w'.ownsRow W0.heap.size 5 1 v' (acc++S.data.toList).length (bV (acc++S.data.toList)):=by
  rw[sG,fY,show S.data.toList.length=S.size from by rw[ByteArray.size,vJ]];exact h2
 obtain⟨k1,k2⟩:=h.evo ho (Evo.of_append h3 h4)
 exact⟨v',w',h1,k1,k2⟩
theorem bytes_step{W0 w:World}{v:Value}{acc:List UInt8}(ty:TypeId)(h:Acc W0 w v acc)(D:Nat→Prop)(A:Option Addr)(m c2:Nat)(news:List UInt8)(hr:aC D w 1 A m (bV news))(hm:news.length=m)(hp:acc.length≤100000)(hm1:m≤1000):
 ∃v' w',(Builtin.append_ #[141,141] ty #[v,.slice A m c2]).run Tryz.prog w=.ok v' w'∧Acc W0 w' v' (acc++news)∧oY w w':=by
 obtain⟨i0,hi,hz0,hz1,hz2⟩:=info_parts pT
 subst hm;obtain⟨v',w',h1,h2,h3,h4⟩:=lP (P:=Tryz.prog) w W0.heap.size 141 ty 5 i0 (.int .u8 0) 1 1 Tryz.underlying141 hi hz0 hz1 hz2 rfl (by omega) v acc.length (bV acc) h.1 D A news.length c2 (bV news) hr (jM _) (by simp only[maxLen];omega) (by omega) h.2.size
 have ho:w'.ownsRow W0.heap.size 5 1 v' (acc++news).length (bV (acc++news)):=by
  rw[sG,fY];exact h2
 obtain⟨k1,k2⟩:=h.evo ho (Evo.of_append h3 h4)
 exact⟨v',w',h1,k1,k2⟩
theorem Acc.form{W0 w:World}{v:Value}{acc:List UInt8}(h:Acc W0 w v acc):∃A c,v=.slice A acc.length c:=by
 obtain⟨A,c,hv,_⟩:=aC.of_own h.1
 exact⟨A,c,hv⟩
theorem oY.of_below{w w':World}(hb:Below w.heap.size w w'):oY w w':=fun g _ _ h _=>h.keep (hb.block g h.lt)
end
section
open Go.ChangeShapes Go.WideShapes Go.ChangeAt Go.RowKit Go.Deep
set_option maxRecDepth 100000
section
variable{H:Type}{enc:TypeId×Value→H}{w:World}{base:Nat}{spare:Nat→Bool}{held:Bool}
theorem trod_rows{P:Program}{α:Type}[Inhabited α](cells:α→List Value)(size:Nat)(hsz:∀a,(cells a).length=size)(hs:0<size)(ok:α→Prop){t e:TypeId}{fuel:Nat}{cs:List Value}{x:DataW H×List MemPlace}
 (ht:P.underlying t=some (.slice e)) (hc:P.cellsOf e=size)
 (hel:∀fuel cs x,DataW.trod enc P w base spare held fuel e cs=some x→∃a,cs=cells a∧ok a)
 (hf:DataW.trod enc P w base spare held fuel t cs=some x) :
 ∃A c,∃l:List α,cs=[.slice A l.length c]∧l.length≤c∧c≤maxLen∧aC (· < w.heap.size) w size A l.length (l.flatMap cells)∧∀a∈l,ok a:=by
 rcases open_slice ht hf with⟨h1,h2⟩|⟨a,len,cap,m,nn,Dd,Pl,h1,hb,hl,hm,hmm,hx,hi⟩
 ·subst h1;exact⟨none,0,[],rfl,by simp,by simp,aC.none_,by simp⟩
 ·subst h1;have hlm:len≤m:=by rw[hmm];split<;>omega
  obtain⟨f,hfx⟩:=choose_lt (α:=α) (p:=fun i x=>w.cells? base (a.add (i*P.cellsOf e)) (P.cellsOf e)=some (cells x)∧ok x) (n:=len) (fun i hin=>by
   obtain⟨cs',h1,h2⟩:=hi i (by omega)
   obtain⟨x,rfl,hx⟩:=hel _ _ _ h2
   exact⟨x,h1,hx⟩)
  have hget:∀i x,((List.range len).map f)[i]?=some x→i<len∧x=f i:=by
   intro i x h;rw[uY]at h;by_cases hin:i<len
   ·rw[xJ hin]at h;simp at h;exact⟨hin,h.symm⟩
   ·rw[uF (by simpa using hin)]at h;simp at h
  refine⟨some a,cap,(List.range len).map f,by simp,by simpa using hl,hm,⟨?_,fun h0=>⟨a,rfl,?_,?_⟩⟩,?_⟩
  ·rw[mF cells size hsz]
  ·simp only[sP,List.length_range]at h0;have h1:=(hfx 0 h0).1;obtain⟨_,_,h3⟩:=World.cells?_some h1
   have h4:=h3 0 (by omega);have h5:0<(cells (f 0)).length:=by rw[hsz];omega
   rw[sD h5]at h4;have:=cell_lt h4
   rw[fP,fP]at this;exact this
  ·intro j u hj;have hjl:j<len*size:=by
    have:=(sF.1 hj).1
    rw[mF cells size hsz]at this;simpa using this
   have hdm:j / size*size+j % size=j:=by rw[yB];exact Nat.div_add_mod j size
   have hq:j / size<len:=Nat.div_lt_of_lt_mul (by rw[yB];exact hjl);have hr:j % size<size:=Nat.mod_lt _ hs;have h1:=flat_at cells size hsz ((List.range len).map f) (j / size) (j % size) (f (j / size)) (by rw[uY,xJ hq];rfl) hr;rw[hdm,hj]at h1;obtain⟨_,_,h3⟩:=World.cells?_some (hfx _ hq).1
   have h4:=h3 (j % size) (by omega);rw[←h1,hc,oV,hdm]at h4;exact h4
  ·intro x hx;obtain⟨i,hi⟩:=xH hx
   obtain⟨hin,rfl⟩:=hget i x hi
   exact(hfx i hin).2
theorem cells_ref:Tryz.prog.cellsOf 77=2:=by kernel_rfl
theorem cells_op:Tryz.prog.cellsOf 88=13:=by kernel_rfl
theorem qC:Tryz.prog.cellsOf 82=5:=by kernel_rfl
theorem cells_ids:Tryz.prog.cellsOf 28=1:=by kernel_rfl
theorem cells_refs:Tryz.prog.cellsOf 79=1:=by kernel_rfl
theorem cells_ops:Tryz.prog.cellsOf 80=1:=by kernel_rfl
theorem trod_ref{fuel:Nat}{cs:List Value}{x:DataW H×List MemPlace}(h:DataW.trod enc Tryz.prog w base spare held fuel 77 cs=some x):
 ∃a b,cs=[.int .i64 a,.int .i64 b]:=by
 obtain⟨xs,n,_,rfl,hl,hn,hf⟩:=DataW.trod_struct Tryz.underlying77 h
 rw[cells_ref]at hl
 match cs,hl with
 | [c0,c1],_ =>
   match xs,hn with
   | [y0,y1],_ =>
     have f0:DataW.trod enc Tryz.prog w base spare held n 3 (List.take (Tryz.prog.cellsOf 3) (List.drop 0 [c0,c1]))=some y0:=hf 0 _ rfl;have f1:DataW.trod enc Tryz.prog w base spare held n 3 (List.take (Tryz.prog.cellsOf 3) (List.drop 1 [c0,c1]))=some y1:=hf 1 _ rfl;rw[kR]at f0 f1;obtain⟨a,e0,rfl,wa⟩:=DataW.trod_int Tryz.underlying3 f0
     obtain⟨b,e1,rfl,wb⟩:=DataW.trod_int Tryz.underlying3 f1
     simp at e0 e1;subst e0 e1;exact⟨a,b,rfl⟩
theorem trod_pairs{t e:TypeId}{fuel:Nat}{cs:List Value}{x:DataW H×List MemPlace}(ht:Tryz.prog.underlying t=some (.slice e))(hc:Tryz.prog.cellsOf e=2)
 (hel:∀fuel cs x,DataW.trod enc Tryz.prog w base spare held fuel e cs=some x→∃a b,cs=[.int .i64 a,.int .i64 b]) (h:DataW.trod enc Tryz.prog w base spare held fuel t cs=some x) :
 ∃A c,∃l:List Rf,cs=[.slice A l.length c]∧l.length≤9223372036854775807∧aC (· < w.heap.size) w 2 A l.length (aE l):=by
 obtain⟨A,c,l,h1,h2,h3,h4,_⟩:=trod_rows (α:=Rf) (fun p=>[.int .i64 p.1,.int .i64 p.2]) 2 (fun _=>rfl) (by omega) (fun _=>True) ht hc (fun fuel cs x h=>by
  obtain⟨a,b,rfl⟩:=hel _ _ _ h
  exact⟨(a,b),rfl,trivial⟩) h
 have hmx:maxLen=9223372036854775807:=by simp only[maxLen,Nat.reducePow,Nat.reduceSub]
 exact⟨A,c,l,h1,by omega,h4⟩
def OpOk(w:World)(o:OpD):Prop:=(Lit.int .i64 o.vn).wf=true∧aC (· < w.heap.size) w 2 o.A o.l.length (aE o.l)∧o.l.length≤9223372036854775807
instance:Inhabited OpD:=⟨⟨0,0,0,⟨#[]⟩,0,0,false,0,0,⟨#[]⟩,0,0,none,0,[]⟩⟩
theorem trod_op{fuel:Nat}{cs:List Value}{x:DataW H×List MemPlace}(h:DataW.trod enc Tryz.prog w base spare held fuel 88 cs=some x):∃o,cs=opC o∧OpOk w o:=by
 obtain⟨xs,n,_,rfl,hl,hn,hf⟩:=DataW.trod_struct Tryz.underlying88 h
 rw[cells_op]at hl
 match cs,hl with
 | [c0,c1,c2,c3,c4,c5,c6,c7,c8,c9,c10,c11,c12],_ =>
   match xs,hn with
   | [y0,y1,y2,y3,y4,y5,y6],_ =>
     have f0:DataW.trod enc Tryz.prog w base spare held n 3 (List.take (Tryz.prog.cellsOf 3) (List.drop 0 [c0,c1,c2,c3,c4,c5,c6,c7,c8,c9,c10,c11,c12]))=some y0:=hf 0 _ rfl;have f1:DataW.trod enc Tryz.prog w base spare held n 24 (List.take (Tryz.prog.cellsOf 24) (List.drop 1 [c0,c1,c2,c3,c4,c5,c6,c7,c8,c9,c10,c11,c12]))=some y1:=hf 1 _ rfl;have f2:DataW.trod enc Tryz.prog w base spare held n 9 (List.take (Tryz.prog.cellsOf 9) (List.drop 3 [c0,c1,c2,c3,c4,c5,c6,c7,c8,c9,c10,c11,c12]))=some y2:=hf 2 _ rfl;have f3:DataW.trod enc Tryz.prog w base spare held n 24 (List.take (Tryz.prog.cellsOf 24) (List.drop 4 [c0,c1,c2,c3,c4,c5,c6,c7,c8,c9,c10,c11,c12]))=some y3:=hf 3 _ rfl;have f4:DataW.trod enc Tryz.prog w base spare held n 4 (List.take (Tryz.prog.cellsOf 4) (List.drop 6 [c0,c1,c2,c3,c4,c5,c6,c7,c8,c9,c10,c11,c12]))=some y4:=hf 4 _ rfl;have f5:DataW.trod enc Tryz.prog w base spare held n 50 (List.take (Tryz.prog.cellsOf 50) (List.drop 7 [c0,c1,c2,c3,c4,c5,c6,c7,c8,c9,c10,c11,c12]))=some y5:=hf 5 _ rfl;have f6:DataW.trod enc Tryz.prog w base spare held n 28 (List.take (Tryz.prog.cellsOf 28) (List.drop 12 [c0,c1,c2,c3,c4,c5,c6,c7,c8,c9,c10,c11,c12]))=some y6:=hf 6 _ rfl;rw[kR]at f0;rw[qB]at f1 f3;rw[qA]at f2;rw[cells_bool]at f4;rw[cells_value]at f5;rw[cells_ids]at f6;obtain⟨k,e0,rfl,wk⟩:=DataW.trod_int Tryz.underlying3 f0
     obtain⟨on,oa,e1,_,_,rfl⟩:=pB f1
     obtain⟨key,e2,rfl,wt⟩:=DataW.trod_string Tryz.underlying9 f2
     obtain⟨en,ea,e3,_,_,rfl⟩:=pB f3
     obtain⟨ins,e4,rfl⟩:=DataW.trod_bool Tryz.underlying4 f4
     obtain⟨vk,vn,vt,va,vb,e5,_,wn,_,_,_,rfl⟩:=trod_value f5
     obtain⟨PA,pc,l,e6,hl6,hr6⟩:=trod_pairs Tryz.underlying28 qB (fun fuel cs x h=>by obtain⟨a,b,h1,_⟩:=pB h;exact⟨a,b,h1⟩) f6
     simp at e0 e1 e2 e3 e4 e5 e6;obtain⟨rfl,rfl⟩:=e1
     obtain⟨rfl,rfl⟩:=e3
     obtain⟨rfl,rfl,rfl,rfl,rfl⟩:=e5
     subst e0 e2 e4 e6;exact⟨⟨k,on,oa,key,en,ea,ins,vk,vn,vt,va,vb,PA,pc,l⟩,rfl,wn,hr6,hl6⟩
theorem trod_change{fuel:Nat}{cs:List Value}{x:DataW H×List MemPlace}(h:DataW.trod enc Tryz.prog w base spare held fuel 82 cs=some x):
 ∃a s st DA DC OA OC,∃deps:List Rf,∃ops:List OpD,cs=[.int .i64 a,.int .i64 s,.int .i64 st,.slice DA deps.length DC,.slice OA ops.length OC]∧ChM w deps DA ops OA∧∀o∈ops,(Lit.int .i64 o.vn).wf=true:=by
 obtain⟨xs,n,_,rfl,hl,hn,hf⟩:=DataW.trod_struct Tryz.underlying82 h
 rw[qC]at hl
 match cs,hl with
 | [c0,c1,c2,c3,c4],_ =>
   match xs,hn with
   | [y0,y1,y2,y3,y4],_ =>
     have f0:DataW.trod enc Tryz.prog w base spare held n 3 (List.take (Tryz.prog.cellsOf 3) (List.drop 0 [c0,c1,c2,c3,c4]))=some y0:=hf 0 _ rfl;have f1:DataW.trod enc Tryz.prog w base spare held n 3 (List.take (Tryz.prog.cellsOf 3) (List.drop 1 [c0,c1,c2,c3,c4]))=some y1:=hf 1 _ rfl;have f2:DataW.trod enc Tryz.prog w base spare held n 3 (List.take (Tryz.prog.cellsOf 3) (List.drop 2 [c0,c1,c2,c3,c4]))=some y2:=hf 2 _ rfl;have f3:DataW.trod enc Tryz.prog w base spare held n 79 (List.take (Tryz.prog.cellsOf 79) (List.drop 3 [c0,c1,c2,c3,c4]))=some y3:=hf 3 _ rfl;have f4:DataW.trod enc Tryz.prog w base spare held n 80 (List.take (Tryz.prog.cellsOf 80) (List.drop 4 [c0,c1,c2,c3,c4]))=some y4:=hf 4 _ rfl;rw[kR]at f0 f1 f2;rw[cells_refs]at f3;rw[cells_ops]at f4;obtain⟨a,e0,rfl,_⟩:=DataW.trod_int Tryz.underlying3 f0
     obtain⟨s,e1,rfl,_⟩:=DataW.trod_int Tryz.underlying3 f1
     obtain⟨st,e2,rfl,_⟩:=DataW.trod_int Tryz.underlying3 f2
     obtain⟨DA,DC,deps,e3,hld,hrd⟩:=trod_pairs Tryz.underlying79 cells_ref (fun _ _ _ h=>trod_ref h) f3
     obtain⟨OA,OC,ops,e4,hl1,hl2,hro,hok⟩:=trod_rows (α:=OpD) opC 13 (fun _=>rfl) (by omega) (OpOk w) Tryz.underlying80 cells_op (fun _ _ _ h=>trod_op h) f4
     have hmx:maxLen=9223372036854775807:=by simp only[maxLen,Nat.reducePow,Nat.reduceSub]
     simp at e0 e1 e2 e3 e4;subst e0 e1 e2 e3 e4;exact⟨a,s,st,DA,DC,OA,OC,deps,ops,rfl,⟨hrd,hld,hro,by omega,fun o ho=>⟨(hok o ho).2.1,(hok o ho).2.2⟩⟩,fun o ho=>(hok o ho).1⟩
end
end
end Go.Proofs.YtmpkejflgpodkaaGreatDoor
