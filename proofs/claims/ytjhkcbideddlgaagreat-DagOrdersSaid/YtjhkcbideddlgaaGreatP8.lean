/- Contracts: change.Check and the document's Change: what is wrong with a change. -/
import Derived.Test.YtjhkcbideddlgaaGreatP7
import Derived.Test.YtjhkcbideddlgaaGreatP0
set_option maxHeartbeats 8000000
set_option maxRecDepth 20000
set_option linter.unusedVariables false
set_option linter.unusedSimpArgs false
namespace Go.Proofs.YtjhkcbideddlgaaGreat
open Go.ChangeShapes Go.WideShapes Go.ChangeAt Go.RowKit
section
structure OpD where
 k:Int
 on:Int
 oa:Int
 key:ByteArray
 en:Int
 ea:Int
 ins:Bool
 vk:Int
 vn:Int
 vt:ByteArray
 va:Int
 vb:Int
 A:Option Addr
 c:Nat
 l:List Rf
def opC(o:OpD):List Value:=[.int .i64 o.k,.int .i64 o.on,.int .i64 o.oa,.string o.key,.int .i64 o.en,.int .i64 o.ea,.bool o.ins,.int .i64 o.vk,.int .i64 o.vn,.string o.vt,.int .i64 o.va,.int .i64 o.vb,.slice o.A o.l.length o.c]
def eF(l:List OpD):List Value:=l.flatMap opC
theorem bM:∀ {l:List OpD} {k:Nat} {o:OpD},l[k]?=some o→∀i,i<13→(eF l)[k*13+i]?=(opC o)[i]?
 | [],k,r,h=>by simp at h
 |x::l,0,o,h=>fun i hi=>by
  simp at h;subst h;simp only[eF,tQ,Nat.zero_mul,uX];exact uD (by simp only[opC,sV,vU];omega)
 |x::l,k+1,o,h=>fun i hi=>by
  have ih:=bM (l:=l) (k:=k) (by simpa using h) i hi;have e:eF (x::l)=opC x++eF l:=by simp[eF]
  have hx:(opC x).length=13:=by simp[opC]
  rw[e,uS (by rw[hx];omega),hx,show(k+1)*13+i-13=k*13+i from by omega];exact ih
def eP(o:OpD):Nat:=opE o.k o.on o.oa o.key o.en o.ea o.ins o.vk o.vn o.vt o.va o.vb o.l
def eR:List OpD→Nat
 | []=>0
 |o::l=>if eP o=0 then eR l else eP o
def dK(a s st:Int)(deps:List Rf)(ops:List OpD):Nat :=
 if dT (a,s)=false∨st<1∨1000000<st then 1
 else if 12<deps.length then 4
 else if cF 0 deps≠0 then cF 0 deps
 else if 40<ops.length then 4
 else if 1000000<st+ops.length-1 then 1
 else eR ops
structure ChM(w:World)(deps:List Rf)(DA:Option Addr)(ops:List OpD)(OA:Option Addr):Prop where
 hd:aC (fun k=>k<w.heap.size) w 2 DA deps.length (aF deps)
 hdl:deps.length≤9223372036854775807
 ho:aC (fun k=>k<w.heap.size) w 13 OA ops.length (eF ops)
 hol:ops.length≤9223372036854775807
 hp:∀o∈ops,aC (fun k=>k<w.heap.size) w 2 o.A o.l.length (aF o.l)∧o.l.length≤9223372036854775807
theorem aA{w w':World}{size n:Nat}{A:Option Addr}{xs:List Value}(h:aC (fun k=>k<w.heap.size) w size A n xs)(hb:Below w.heap.size w w'):aC (fun k=>k<w'.heap.size) w' size A n xs :=
 (h.keep fun k hk=>hb.block k hk).more fun _ hk=>sD hk hb.size
theorem ChM.keep{w w':World}{deps:List Rf}{DA:Option Addr}{ops:List OpD}{OA:Option Addr}(h:ChM w deps DA ops OA)(hb:Below w.heap.size w w'):ChM w' deps DA ops OA :=
 ⟨aA h.hd hb,h.hdl,aA h.ho hb,h.hol,fun o ho=>⟨aA (h.hp o ho).1 hb,(h.hp o ho).2⟩⟩
theorem rJ{w:World}{D:Nat→Prop}{OA:Option Addr}{ops:List OpD}{n:Nat}(h:aC D w 13 OA n (eF ops))(hn:0<n){j:Nat}{o:OpD}(hj:ops[j]?=some o):
 ∃b off,OA=some ⟨b,off,none⟩∧D b∧∀w':World,w'.heap[b]?=w.heap[b]? →
  w'.cell? ⟨b,off+j*13,none⟩=some (.int .i64 o.k)∧w'.cell? ⟨b,off+j*13+1,none⟩=some (.int .i64 o.on)∧w'.cell? ⟨b,off+j*13+2,none⟩=some (.int .i64 o.oa) ∧
  w'.cell? ⟨b,off+j*13+3,none⟩=some (.string o.key)∧w'.cell? ⟨b,off+j*13+4,none⟩=some (.int .i64 o.en)∧w'.cell? ⟨b,off+j*13+5,none⟩=some (.int .i64 o.ea) ∧
  w'.cell? ⟨b,off+j*13+6,none⟩=some (.bool o.ins)∧w'.cell? ⟨b,off+j*13+7,none⟩=some (.int .i64 o.vk)∧w'.cell? ⟨b,off+j*13+8,none⟩=some (.int .i64 o.vn) ∧
  w'.cell? ⟨b,off+j*13+9,none⟩=some (.string o.vt)∧w'.cell? ⟨b,off+j*13+10,none⟩=some (.int .i64 o.va)∧w'.cell? ⟨b,off+j*13+11,none⟩=some (.int .i64 o.vb) ∧
  w'.cell? ⟨b,off+j*13+12,none⟩=some (.slice o.A o.l.length o.c):=by
 obtain⟨b,off,hA,hb,hc⟩:=h.at_ hn (by omega)
 have key:∀w':World,w'.heap[b]?=w.heap[b]?→∀i u,i<13→(opC o)[i]?=some u→w'.cell? ⟨b,off+j*13+i,none⟩=some u:=fun w' hw i u hi hu=>by
  have h1:w'.cell? ⟨b,off+j*13+i,none⟩=w.cell? ⟨b,off+j*13+i,none⟩:=sK (w:=w) hw;rw[h1,tY];exact hc _ _ (by rw[bM hj i hi];exact hu)
 exact⟨b,off,hA,hb,fun w' hw=>⟨key w' hw 0 _ (by omega) rfl,key w' hw 1 _ (by omega) rfl,key w' hw 2 _ (by omega) rfl,key w' hw 3 _ (by omega) rfl,key w' hw 4 _ (by omega) rfl,key w' hw 5 _ (by omega) rfl,
  key w' hw 6 _ (by omega) rfl,key w' hw 7 _ (by omega) rfl,key w' hw 8 _ (by omega) rfl,key w' hw 9 _ (by omega) rfl,key w' hw 10 _ (by omega) rfl,key w' hw 11 _ (by omega) rfl,key w' hw 12 _ (by omega) rfl⟩⟩
theorem drop_op{l:List OpD}{k:Nat}{r:OpD}(h:l[k]?=some r):l.drop k=r::l.drop (k+1):=by
 obtain⟨hl,e⟩:=sE.1 h
 rw[uE hl,e]
theorem opX_any(o:OpD)(w:World)(hr:aC (fun k=>k<w.heap.size) w 2 o.A o.l.length (aF o.l))(hl:o.l.length≤9223372036854775807):
 Calls Tryz.prog 82 #[.agg (opC o).toArray] w fun e w'=>e=.returned (jN (eP o))∧Below w.heap.size w w' :=
 op_any _ _ _ _ _ _ _ _ _ _ _ _ _ _ _ _ _ w rfl hl hr fun _ h=>h
theorem refOpX_any(o:OpD)(w:World)(hr:aC (fun k=>k<w.heap.size) w 2 o.A o.l.length (aF o.l))(hl:o.l.length≤9223372036854775807):
 Calls Tryz.prog 109 #[.agg (opC o).toArray] w fun e w'=>e=.returned (.int .i64 (eP o))∧Below w.heap.size w w' :=
 refOp_any _ _ _ _ _ _ _ _ _ _ _ _ _ _ _ _ _ w rfl hl hr fun _ h=>h
theorem check_any(a s st:Int)(deps:List Rf)(DA:Option Addr)(dn DC:Nat)(ops:List OpD)(OA:Option Addr)(m OC:Nat)(w:World)
 (hC:ChM w deps DA ops OA) (hdn:deps.length=dn) (hm:ops.length=m) :
 Calls Tryz.prog 37 #[.agg #[.int .i64 a,.int .i64 s,.int .i64 st,.slice DA dn DC,.slice OA m OC]] w fun e w'=>e=.returned (jN (dK a s st deps ops))∧Below w.heap.size w w':=by
 have HC:=Hi hC;have HDN:=Hi hdn;have HM:=Hi hm;have hbd:dn≤9223372036854775807:=by rw[←hdn];exact hC.hdl
 have hbm:m≤9223372036854775807:=by rw[←hm];exact hC.hol
 have HW:=Hi ((sA _ w).alloc (sB _) (.cells #[.int .i64 a,.int .i64 s,.int .i64 st,.slice DA dn DC,.slice OA m OC] 33));have HBC:=Hi (Blk.new w 33 #[.int .i64 a,.int .i64 s,.int .i64 st,.slice DA dn DC,.slice OA m OC]);have R1:=cref_any (a,s);unfold dB at R1;clear hC hdn hm;go_enter Tryz.func37,Tryz.ntmps37;go_wp2_with fail
 go_at_call 57;refine(R1 _).mono ?_
 rintro e w1 ⟨rfl,hb⟩;replace HBC:=Hi (HBC.o.keep (hb.block _ HBC.o.lt));replace HW:=Hi (HW.o.trans (hb.mono HW.o.size));clear hb;try clear c0 c1 c2 c3 c4
 obtain⟨c0,c1,c2,c3,c4⟩:=ce5 HBC.o
 clear R1;cases hr:dT (a,s)
 ·have HV:Hid (dK a s st deps ops=1):=by show _=_;rw[dK,tA (Or.inl hr)]
  go_wp2_with fail
  go_ret;exact⟨by rw[HV.o];rfl,HW.o⟩
 by_cases h1:st<1
 ·have HV:Hid (dK a s st deps ops=1):=by show _=_;rw[dK,tA (Or.inr (Or.inl h1))]
  have d1:decide (st<1)=true:=sH h1;clear h1;go_wp2_with fail
  go_ret;exact⟨by rw[HV.o];rfl,HW.o⟩
 have d1:decide (st<1)=false:=sI h1;by_cases h2:1000000<st
 ·have HV:Hid (dK a s st deps ops=1):=by show _=_;rw[dK,tA (Or.inr (Or.inr h2))]
  have d2:decide (1000000<st)=true:=sH h2;clear h1 h2;go_wp2_with fail
  go_ret;exact⟨by rw[HV.o];rfl,HW.o⟩
 have d2:decide (1000000<st)=false:=sI h2;have HS:Hid (1≤st∧st≤1000000):=by show _∧_;omega
 have HV0:Hid (dK a s st deps ops=if 12<deps.length then 4 else if cF 0 deps≠0 then cF 0 deps else if 40<ops.length then 4 else if 1000000<st+ops.length-1 then 1 else eR ops):=by
  show _=_;rw[dK,sT];rintro(h|h|h)
  ·rw[hr]at h;cases h
  ·exact h1 h
  ·exact h2 h
 clear h1 h2;by_cases h3:12<dn
 ·have HV:Hid (dK a s st deps ops=4):=by show _=_;rw[HV0.o,tA (by rw[HDN.o];exact h3)]
  have d3:decide (12<(dn:Int))=true:=sH (by omega);clear h3;go_wp2_with fail
  go_ret;exact⟨by rw[HV.o];rfl,HW.o⟩
 have d3:decide (12<(dn:Int))=false:=sI (by omega);have H3:=Hi h3;clear h3 hr;go_wp2_with fail
 clear d1 d2 d3;have HCk:=fun w' (hb:Below w.heap.size w w')=>HC.o.keep hb
 have RF:=refs_any deps _ DA DC w1 (HC.o.keep HW.o).hd (fun k h=>h) HC.o.hdl;rw[HDN.o]at RF;go_at_call 81;by_cases h4:cF 0 deps=0
 case neg =>
  have HV:Hid (dK a s st deps ops=cF 0 deps):=by show _=_;rw[HV0.o,sT (by rw[HDN.o];exact H3.o),tA h4]
  rw[show jN (cF 0 deps)=.iface 97 (.int .i64 (cF 0 deps)) from sT h4]at RF;have HE:Hid (jN (cF 0 deps)=.iface 97 (.int .i64 (cF 0 deps))):=by show _=_;exact sT h4
  generalize cF 0 deps=ie at *;clear h4 HV0;refine RF.mono ?_;rintro e w2 ⟨rfl,hb⟩;replace HBC:=Hi (HBC.o.keep (hb.block _ HBC.o.lt));replace HW:=Hi (HW.o.trans (hb.mono HW.o.size));clear hb;try clear c0 c1 c2 c3 c4
  obtain⟨c0,c1,c2,c3,c4⟩:=ce5 HBC.o
  go_wp2_with fail
  go_ret;exact⟨by rw[HV.o,HE.o];rfl,HW.o⟩
 have HV1:Hid (dK a s st deps ops=if 40<ops.length then 4 else if 1000000<st+ops.length-1 then 1 else eR ops):=by
  show _=_;rw[HV0.o,sT (by rw[HDN.o];exact H3.o),sT (by rw[h4];simp)]
 rw[h4,show jN 0=.nilIface from rfl]at RF;clear h4 HV0;refine RF.mono ?_;rintro e w2 ⟨rfl,hb⟩;replace HBC:=Hi (HBC.o.keep (hb.block _ HBC.o.lt));replace HW:=Hi (HW.o.trans (hb.mono HW.o.size));clear hb;try clear c0 c1 c2 c3 c4
 obtain⟨c0,c1,c2,c3,c4⟩:=ce5 HBC.o
 clear RF;by_cases h5:40<m
 ·have HV:Hid (dK a s st deps ops=4):=by show _=_;rw[HV1.o,tA (by rw[HM.o];exact h5)]
  have d1:decide (40<(m:Int))=true:=sH (by omega);clear h5;go_wp2_with fail
  go_ret;exact⟨by rw[HV.o];rfl,HW.o⟩
 have d1:decide (40<(m:Int))=false:=sI (by omega);have x1:IntKind.i64.wrap (st+(m:Int))=st+(m:Int):=tH _ (by have:=HS.o;omega);have x2:IntKind.i64.wrap (st+(m:Int)-1)=st+(m:Int)-1:=tH _ (by have:=HS.o;omega);by_cases h6:1000000<st+(m:Int)-1
 ·have HV:Hid (dK a s st deps ops=1):=by show _=_;rw[HV1.o,sT (by rw[HM.o];exact h5),tA (by rw[HM.o];exact h6)]
  have d2:decide (1000000<st+(m:Int)-1)=true:=sH h6;clear h5 h6;go_wp2_with fail
  go_ret;exact⟨by rw[HV.o];rfl,HW.o⟩
 have d2:decide (1000000<st+(m:Int)-1)=false:=sI h6;have HV2:Hid (dK a s st deps ops=eR ops):=by show _=_;rw[HV1.o,sT (by rw[HM.o];exact h5),sT (by rw[HM.o];exact h6)]
 clear h5 h6 HV1;go_wp2_with fail
 clear d1 d2 x1 x2 c0 c1 c2 c3 c4;go_loopw [55] (fun s wr=>∃j:Nat,j≤m∧s=.int .i64 j∧Hid (Below w.heap.size w wr)∧Hid (eR ops=eR (ops.drop j))) (fun s _=>m-(intOf s).toNat)
 case atStart=>exact⟨0,by omega,rfl,HW,by show _=_;rw[tT]⟩
 case round =>
  clear HW HBC;obtain⟨j,hj,rfl,HW,HO⟩:=hrel
  by_cases hlt:j<m
  ·obtain⟨o,ho⟩:∃o,ops[j]?=some o:=jY (by rw[HM.o];exact hlt)
   obtain⟨b,off,hA,hb,hcs⟩:=rJ (HC.o.ho) (by rw[HM.o];omega) ho
   have hcw:=hcs wr (HW.o.block b hb);have hmem:=sJ ho;have hd:=drop_op ho;have HP:=HC.o.keep (HW.o.alloc HW.o.size (.cells (opC o).toArray 53));have OX:=opX_any o _ (HP.hp o hmem).1 (HP.hp o hmem).2;clear hcs HP hmem;have HX:Hid (eR ops=if eP o=0 then eR (ops.drop (j+1)) else eP o):=by show _=_;rw[HO.o,hd];rfl
   generalize eP o=oe at OX HX;have HWA:Hid (Below w.heap.size w (wr.alloc (.cells (opC o).toArray 53))):=HW.o.alloc HW.o.size _;obtain⟨y0,y1,y2,y3,y4,y5,y6,y7,y8,y9,y10,y11,y12⟩:=hcw
   subst hA;simp only[opC]at OX HWA;generalize o.l.length=ol at *;clear hd ho HO;go_wp2_with fail
   go_at_call 82;by_cases hoe:oe=0
   ·subst hoe;have HN:Hid (eR ops=eR (ops.drop (j+1))):=by show _=_;rw[HX.o,tA rfl]
    rw[show jN 0=.nilIface from rfl]at OX;refine OX.mono ?_;rintro e w3 ⟨rfl,hb3⟩;have HW3:=Hi (HWA.o.trans (hb3.mono HWA.o.size));clear OX hb3 HX HWA y0 y1 y2 y3 y4 y5 y6 y7 y8 y9 y10 y11 y12;go_wp2_with fail
    first
     |exact⟨⟨j+1,by omega,by go_num,HW3,HN⟩,by simp[intOf];omega⟩
     |(go_roundw
       case rel=>exact⟨j+1,by omega,by go_num,HW3,HN⟩
       case measure=>simp[intOf];omega)
   ·have HF:Hid (dK a s st deps ops=oe):=by show _=_;rw[HV2.o,HX.o,sT hoe]
    have HE:Hid (jN oe=.iface 97 (.int .i64 oe)):=by show _=_;exact sT hoe
    rw[HE.o]at OX;refine OX.mono ?_;rintro e w3 ⟨rfl,hb3⟩;have HW3:=Hi (HWA.o.trans (hb3.mono HWA.o.size));clear OX hb3 HX HWA hoe y0 y1 y2 y3 y4 y5 y6 y7 y8 y9 y10 y11 y12;go_wp2_with fail
    go_ret;exact⟨by rw[HF.o,HE.o];rfl,HW3.o⟩
  ·have HF:Hid (dK a s st deps ops=0):=by
    show _=_;rw[HV2.o,HO.o,uR (by rw[HM.o];omega)];rfl
   go_wp2_with fail
   go_ret;exact⟨by rw[HF.o];rfl,HW.o⟩
end
section
theorem refChange_any(a s st:Int)(deps:List Rf)(DA:Option Addr)(dn DC:Nat)(ops:List OpD)(OA:Option Addr)(m OC:Nat)(w:World)
 (hC:ChM w deps DA ops OA) (hdn:deps.length=dn) (hm:ops.length=m) :
 Calls Tryz.prog 77 #[.agg #[.int .i64 a,.int .i64 s,.int .i64 st,.slice DA dn DC,.slice OA m OC]] w fun e w'=>e=.returned (.int .i64 (dK a s st deps ops))∧Below w.heap.size w w':=by
 have HC:=Hi hC;have HDN:=Hi hdn;have HM:=Hi hm;have hbd:dn≤9223372036854775807:=by rw[←hdn];exact hC.hdl
 have hbm:m≤9223372036854775807:=by rw[←hm];exact hC.hol
 have HW:=Hi ((sA _ w).alloc (sB _) (.cells #[.int .i64 a,.int .i64 s,.int .i64 st,.slice DA dn DC,.slice OA m OC] 33));have HBC:=Hi (Blk.new w 33 #[.int .i64 a,.int .i64 s,.int .i64 st,.slice DA dn DC,.slice OA m OC]);have R1:=rC (a,s);unfold dB at R1;clear hC hdn hm;go_enter Tryz.func77,Tryz.ntmps77;go_wp2_with fail
 go_at_call 107;refine(R1 _).mono ?_
 rintro e w1 ⟨rfl,hb⟩;replace HBC:=Hi (HBC.o.keep (hb.block _ HBC.o.lt));replace HW:=Hi (HW.o.trans (hb.mono HW.o.size));clear hb;try clear c0 c1 c2 c3 c4
 obtain⟨c0,c1,c2,c3,c4⟩:=ce5 HBC.o
 clear R1;cases hr:dT (a,s)
 ·have HV:Hid (dK a s st deps ops=1):=by show _=_;rw[dK,tA (Or.inl hr)]
  go_wp2_with fail
  go_ret;exact⟨by rw[HV.o];rfl,HW.o⟩
 by_cases h1:st<1
 ·have HV:Hid (dK a s st deps ops=1):=by show _=_;rw[dK,tA (Or.inr (Or.inl h1))]
  have d1:decide (st<1)=true:=sH h1;clear h1;go_wp2_with fail
  go_ret;exact⟨by rw[HV.o];rfl,HW.o⟩
 have d1:decide (st<1)=false:=sI h1;by_cases h2:1000000<st
 ·have HV:Hid (dK a s st deps ops=1):=by show _=_;rw[dK,tA (Or.inr (Or.inr h2))]
  have d2:decide (1000000<st)=true:=sH h2;clear h1 h2;go_wp2_with fail
  go_ret;exact⟨by rw[HV.o];rfl,HW.o⟩
 have d2:decide (1000000<st)=false:=sI h2;have HS:Hid (1≤st∧st≤1000000):=by show _∧_;omega
 have HV0:Hid (dK a s st deps ops=if 12<deps.length then 4 else if cF 0 deps≠0 then cF 0 deps else if 40<ops.length then 4 else if 1000000<st+ops.length-1 then 1 else eR ops):=by
  show _=_;rw[dK,sT];rintro(h|h|h)
  ·rw[hr]at h;cases h
  ·exact h1 h
  ·exact h2 h
 clear h1 h2;by_cases h3:12<dn
 ·have HV:Hid (dK a s st deps ops=4):=by show _=_;rw[HV0.o,tA (by rw[HDN.o];exact h3)]
  have d3:decide (12<(dn:Int))=true:=sH (by omega);clear h3;go_wp2_with fail
  go_ret;exact⟨by rw[HV.o];rfl,HW.o⟩
 have d3:decide (12<(dn:Int))=false:=sI (by omega);have H3:=Hi h3;clear h3 hr;go_wp2_with fail
 clear d1 d2 d3;have HCk:=fun w' (hb:Below w.heap.size w w')=>HC.o.keep hb
 have RF:=refClock_any deps _ DA DC w1 (HC.o.keep HW.o).hd (fun k h=>h) HC.o.hdl;rw[HDN.o]at RF;go_at_call 108;by_cases h4:cF 0 deps=0
 case neg =>
  have HV:Hid (dK a s st deps ops=cF 0 deps):=by show _=_;rw[HV0.o,sT (by rw[HDN.o];exact H3.o),tA h4]
  generalize cF 0 deps=ie at *;have d4:((ie:Int) == 0)=false:=by simp;omega
  clear h4 HV0;refine RF.mono ?_;rintro e w2 ⟨rfl,hb⟩;replace HBC:=Hi (HBC.o.keep (hb.block _ HBC.o.lt));replace HW:=Hi (HW.o.trans (hb.mono HW.o.size));clear hb;try clear c0 c1 c2 c3 c4
  obtain⟨c0,c1,c2,c3,c4⟩:=ce5 HBC.o
  go_wp2_with fail
  go_ret;exact⟨by rw[HV.o];rfl,HW.o⟩
 have HV1:Hid (dK a s st deps ops=if 40<ops.length then 4 else if 1000000<st+ops.length-1 then 1 else eR ops):=by
  show _=_;rw[HV0.o,sT (by rw[HDN.o];exact H3.o),sT (by rw[h4];simp)]
 rw[h4]at RF;clear h4 HV0;refine RF.mono ?_;rintro e w2 ⟨rfl,hb⟩;replace HBC:=Hi (HBC.o.keep (hb.block _ HBC.o.lt));replace HW:=Hi (HW.o.trans (hb.mono HW.o.size));clear hb;try clear c0 c1 c2 c3 c4
 obtain⟨c0,c1,c2,c3,c4⟩:=ce5 HBC.o
 clear RF;by_cases h5:40<m
 ·have HV:Hid (dK a s st deps ops=4):=by show _=_;rw[HV1.o,tA (by rw[HM.o];exact h5)]
  have d1:decide (40<(m:Int))=true:=sH (by omega);clear h5;go_wp2_with fail
  go_ret;exact⟨by rw[HV.o];rfl,HW.o⟩
 have d1:decide (40<(m:Int))=false:=sI (by omega);have x1:IntKind.i64.wrap (st+(m:Int))=st+(m:Int):=tH _ (by have:=HS.o;omega);have x2:IntKind.i64.wrap (st+(m:Int)-1)=st+(m:Int)-1:=tH _ (by have:=HS.o;omega);by_cases h6:1000000<st+(m:Int)-1
 ·have HV:Hid (dK a s st deps ops=1):=by show _=_;rw[HV1.o,sT (by rw[HM.o];exact h5),tA (by rw[HM.o];exact h6)]
  have d2:decide (1000000<st+(m:Int)-1)=true:=sH h6;clear h5 h6;go_wp2_with fail
  go_ret;exact⟨by rw[HV.o];rfl,HW.o⟩
 have d2:decide (1000000<st+(m:Int)-1)=false:=sI h6;have HV2:Hid (dK a s st deps ops=eR ops):=by show _=_;rw[HV1.o,sT (by rw[HM.o];exact h5),sT (by rw[HM.o];exact h6)]
 clear h5 h6 HV1;go_wp2_with fail
 clear d1 d2 x1 x2 c0 c1 c2 c3 c4;go_loopw [5] (fun z wr=>∃j:Nat,j≤m∧z=.int .i64 j∧Hid (Below w.heap.size w wr)∧Hid (Blk wr w.heap.size 33 #[.int .i64 a,.int .i64 s,.int .i64 st,.slice DA dn DC,.slice OA m OC])∧Hid (eR ops=eR (ops.drop j))) (fun z _=>m-(intOf z).toNat)
 case atStart=>exact⟨0,by omega,rfl,HW,HBC,by show _=_;rw[tT]⟩
 case round =>
  clear HW HBC;obtain⟨j,hj,rfl,HW,HBC,HO⟩:=hrel
  obtain⟨c0,c1,c2,c3,c4⟩:=ce5 HBC.o
  by_cases hlt:j<m
  ·obtain⟨o,ho⟩:∃o,ops[j]?=some o:=jY (by rw[HM.o];exact hlt)
   obtain⟨b,off,hA,hb,hcs⟩:=rJ (HC.o.ho) (by rw[HM.o];omega) ho
   have hcw:=hcs wr (HW.o.block b hb);have hmem:=sJ ho;have hd:=drop_op ho;have HP:=HC.o.keep HW.o;have OX:=refOpX_any o _ (HP.hp o hmem).1 (HP.hp o hmem).2;clear hcs HP hmem;have HX:Hid (eR ops=if eP o=0 then eR (ops.drop (j+1)) else eP o):=by show _=_;rw[HO.o,hd];rfl
   generalize eP o=oe at OX HX;obtain⟨y0,y1,y2,y3,y4,y5,y6,y7,y8,y9,y10,y11,y12⟩:=hcw
   subst hA;simp only[opC]at OX;generalize o.l.length=ol at *;clear hd ho HO;go_wp2_with fail
   go_at_call 109;refine OX.mono ?_;rintro e w3 ⟨rfl,hb3⟩;have HW3:=Hi (HW.o.trans (hb3.mono HW.o.size));have HB3:Hid (Blk w3 w.heap.size 33 #[.int .i64 a,.int .i64 s,.int .i64 st,.slice DA dn DC,.slice (some ⟨b,off,none⟩) m OC]):=Hi (HBC.o.keep (hb3.block _ HBC.o.lt));clear OX hb3 y0 y1 y2 y3 y4 y5 y6 y7 y8 y9 y10 y11 y12 c0 c1 c2 c3 c4;by_cases hoe:oe=0
   ·subst hoe;have HN:Hid (eR ops=eR (ops.drop (j+1))):=by show _=_;rw[HX.o,tA rfl]
    clear HX;go_wp2_with fail
    first
     |exact⟨⟨j+1,by omega,by go_num,HW3,HB3,HN⟩,by simp[intOf];omega⟩
     |(go_roundw
       case rel=>exact⟨j+1,by omega,by go_num,HW3,HB3,HN⟩
       case measure=>simp[intOf];omega)
   ·have HF:Hid (dK a s st deps ops=oe):=by show _=_;rw[HV2.o,HX.o,sT hoe]
    have d4:((oe:Int) == 0)=false:=by simp;omega
    clear HX hoe;go_wp2_with fail
    go_ret;exact⟨by rw[HF.o];rfl,HW3.o⟩
  ·have HF:Hid (dK a s st deps ops=0):=by
    show _=_;rw[HV2.o,HO.o,uR (by rw[HM.o];omega)];rfl
   go_wp2_with fail
   go_ret;exact⟨by rw[HF.o];rfl,HW.o⟩
end
section
def cS(r:Rf):List UInt8:=aZ [r.1,r.2]
def inI(b:Bool):Int:=if b then 1 else 0
def opB(o:OpD):List UInt8 :=
 aZ [o.k,o.on,o.oa,(o.key.size:Int)]++o.key.data.toList++aZ [o.en,o.ea,inI o.ins,o.vk]++iN o.vn++aZ [(o.vt.size:Int)]++o.vt.data.toList++aZ [(o.l.length:Int)]++o.l.flatMap cS
def gZ(a s st:Int)(deps:List Rf)(ops:List OpD):List UInt8 :=
 aZ [a,s,st,(deps.length:Int)]++deps.flatMap cS++aZ [(ops.length:Int)]++ops.flatMap opB
def iA(x:Int):Prop:=0≤x∧x≤9223372036854775807
structure OpG(o:OpD):Prop where
 k:iA o.k
 on:iA o.on
 oa:iA o.oa
 key:o.key.size≤20
 en:iA o.en
 ea:iA o.ea
 vk:iA o.vk
 vn:(Lit.int .i64 o.vn).wf=true
 vt:o.vt.size≤60
 ll:o.l.length≤12
 l:∀r∈o.l,iA r.1∧iA r.2
structure EncG(a s st:Int)(deps:List Rf)(ops:List OpD):Prop where
 a:iA a
 s:iA s
 st:iA st
 dl:deps.length≤12
 d:∀r∈deps,iA r.1∧iA r.2
 ol:ops.length≤40
 o:∀o∈ops,OpG o
theorem dX{l:List Int}{n:Nat}(h:l.length=n):(aZ l).length≤10*n:=by rw[←h];exact oT l
theorem jI:∀(l:List Rf),(l.flatMap cS).length≤20*l.length
 | []=>by simp
 |r::l=>by
  have:=jI l
  have h:=dX (l:=[r.1,r.2]) (n:=2) rfl;simp only[tQ,sF,sV,cS]at this ⊢;omega
theorem opB_len{o:OpD}(h:OpG o):(opB o).length≤500:=by
 have h1:=dX (l:=[o.k,o.on,o.oa,(o.key.size:Int)]) (n:=4) rfl;have h2:=dX (l:=[o.en,o.ea,inI o.ins,o.vk]) (n:=4) rfl;have h3:=dX (l:=[(o.vt.size:Int)]) (n:=1) rfl;have h4:=dX (l:=[(o.l.length:Int)]) (n:=1) rfl;have h5:=jI o.l;have h6:=h.ll;have h7:o.key.data.toList.length≤20:=by have:=h.key;rw[ByteArray.size]at this;simpa using this
 have h8:o.vt.data.toList.length≤60:=by have:=h.vt;rw[ByteArray.size]at this;simpa using this
 have h9:(iN o.vn).length≤10:=(gQ (zz o.vn)).2;simp only[opB,sF];omega
theorem ops_len:∀(l:List OpD),(∀o∈l,OpG o)→(l.flatMap opB).length≤500*l.length
 | [],_=>by simp
 |o::l,h=>by
  have:=ops_len l fun o ho=>h o (by simp[ho])
  have h1:=opB_len (h o (by simp));simp only[tQ,sF,sV]at this ⊢;omega
def Acc(W0 w:World)(v:Value)(acc:List UInt8):Prop:=w.ownsRow W0.heap.size 5 1 v acc.length (bP acc)∧Below W0.heap.size W0 w
def Kept(w w':World):Prop:=∀g t cs,Blk w g t cs→5≠t→Blk w' g t cs
theorem Kept.of_evo{w w':World}{base n:Nat}{v:Value}{xs:List Value}{o':Option Nat}(h:w.ownsRow base 5 1 v n xs)(he:Evo w v.ownBlock w' o'):Kept w w' :=
 fun g _ _ hb hn=>hb.keep (he.block g hb.lt (dI h hb hn))
theorem Acc.nil(W0:World){w:World}(h:Below W0.heap.size W0 w):Acc W0 w (.slice none 0 0) []:=⟨bB _ _ _ _,h⟩
theorem Acc.alloc{W0 w:World}{v:Value}{acc:List UInt8}(h:Acc W0 w v acc)(o:Obj):Acc W0 (w.alloc o) v acc:=⟨h.1.alloc o,h.2.alloc h.2.size o⟩
theorem Acc.drew{W0 w:World}{v:Value}{acc:List UInt8}(h:Acc W0 w v acc):Acc W0 w.drew v acc:=⟨h.1,h.2.drew⟩
theorem Acc.below{W0 w w':World}{v:Value}{acc:List UInt8}(h:Acc W0 w v acc)(hb:Below w.heap.size w w'):Acc W0 w' v acc:=⟨aO h.1 hb,h.2.trans (hb.mono h.2.size)⟩
theorem Acc.evo{W0 w w':World}{v v':Value}{acc acc':List UInt8}(h:Acc W0 w v acc)(ho:w'.ownsRow W0.heap.size 5 1 v' acc'.length (bP acc'))(he:Evo w v.ownBlock w' v'.ownBlock):Acc W0 w' v' acc'∧Kept w w' :=
 ⟨⟨ho,h.2.trans (he.below h.2.size fun _ hg=>(aD h.1 hg).1)⟩,Kept.of_evo h.1 he⟩
theorem dV{W0 wr:World}{v:Value}{acc:List UInt8}(h:Acc W0 wr v acc)(xs:List Int)(n:Nat)(lits:Array Value)(hl:lits.toList=iS xs)(hn:xs.length=n)(hn1:n≤100)(hp:acc.length≤100000)(hx:∀x∈xs,iA x)(H:Nat)(hH:wr.heap.size=H):
 Calls Tryz.prog 122 #[v,.slice (some ⟨H,0,none⟩) n n] (wr.alloc (.cells lits 3)) fun e w'=>∃v',e=.returned v'∧Acc W0 w' v' (acc++aZ xs)∧Kept wr w':=by
 subst hH;have h':=h.alloc (.cells lits 3);refine(refNums_any xs acc v W0.heap.size (fun k=>k=wr.heap.size) (some ⟨wr.heap.size,0,none⟩) n n (wr.alloc (.cells lits 3)) h'.1 h'.2.size
  (reads_newC wr _ (iS xs) n (by rw[intsC_length];exact hn) lits hl _ rfl) (by rintro k rfl;exact⟨by simp,fun e=>by have:=(aD h.1 e).2;omega⟩) hn hn1 (by omega) hx).mono ?_
 rintro e w' ⟨v',rfl,ho,he⟩;obtain⟨h1,h2⟩:=h'.evo ho he
 exact⟨v',rfl,h1,fun g t cs hb hne=>h2 g t cs (hb.alloc _) hne⟩
theorem oH{W0 w:World}{b:Option Addr}{n c:Nat}{acc:List UInt8}(ty:TypeId)(h:Acc W0 w (.slice b n c) acc)(hn:acc.length=n)(S:ByteArray)(hp:acc.length≤100000)(hS:S.size≤1000):
 ∃v' w',(Builtin.append_ #[147,9] ty #[.slice b n c,.string S]).run Tryz.prog w=.ok v' w'∧Acc W0 w' v' (acc++S.data.toList)∧Kept w w':=by
 obtain⟨i0,hi,hz0,hz1,hz2⟩:=info_parts nM
 subst hn;obtain⟨v',w',h1,h2,h3,h4⟩:=rA (P:=Tryz.prog) w W0.heap.size 147 9 ty 5 i0 (.int .u8 0) 1 Tryz.underlying147 Tryz.underlying9 hi hz0 hz1 hz2 rfl (.slice b acc.length c) acc.length (bP acc) h.1 S (by simp only[maxLen];omega) (by omega) h.2.size
 have ho:w'.ownsRow W0.heap.size 5 1 v' (acc++S.data.toList).length (bP (acc++S.data.toList)):=by
  rw[sF,fI,show S.data.toList.length=S.size from by rw[ByteArray.size,vB]];exact h2
 obtain⟨k1,k2⟩:=h.evo ho (Evo.of_append h3 h4)
 exact⟨v',w',h1,k1,k2⟩
theorem bytes_step{W0 w:World}{v:Value}{acc:List UInt8}(ty:TypeId)(h:Acc W0 w v acc)(D:Nat→Prop)(A:Option Addr)(m c2:Nat)(news:List UInt8)(hr:aC D w 1 A m (bP news))(hm:news.length=m)(hp:acc.length≤100000)(hm1:m≤1000):
 ∃v' w',(Builtin.append_ #[147,147] ty #[v,.slice A m c2]).run Tryz.prog w=.ok v' w'∧Acc W0 w' v' (acc++news)∧Kept w w':=by
 obtain⟨i0,hi,hz0,hz1,hz2⟩:=info_parts nM
 subst hm;obtain⟨v',w',h1,h2,h3,h4⟩:=kJ (P:=Tryz.prog) w W0.heap.size 147 ty 5 i0 (.int .u8 0) 1 1 Tryz.underlying147 hi hz0 hz1 hz2 rfl (by omega) v acc.length (bP acc) h.1 D A news.length c2 (bP news) hr (iI _) (by simp only[maxLen];omega) (by omega) h.2.size
 have ho:w'.ownsRow W0.heap.size 5 1 v' (acc++news).length (bP (acc++news)):=by
  rw[sF,fI];exact h2
 obtain⟨k1,k2⟩:=h.evo ho (Evo.of_append h3 h4)
 exact⟨v',w',h1,k1,k2⟩
theorem Acc.form{W0 w:World}{v:Value}{acc:List UInt8}(h:Acc W0 w v acc):∃A c,v=.slice A acc.length c:=by
 obtain⟨A,c,hv,_⟩:=aC.of_own h.1
 exact⟨A,c,hv⟩
theorem Kept.of_below{w w':World}(hb:Below w.heap.size w w'):Kept w w':=fun g _ _ h _=>h.keep (hb.block g h.lt)
end
end Go.Proofs.YtjhkcbideddlgaaGreat
