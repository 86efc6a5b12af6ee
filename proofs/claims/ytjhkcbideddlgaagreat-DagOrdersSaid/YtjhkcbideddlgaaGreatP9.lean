/- Contracts: the document's Encode: a change as bytes. -/
import Derived.Test.YtjhkcbideddlgaaGreatP8
set_option maxHeartbeats 16000000
set_option maxRecDepth 20000
set_option linter.unusedVariables false
set_option linter.unusedSimpArgs false
namespace Go.Proofs.YtjhkcbideddlgaaGreat
open Go.ChangeShapes Go.WideShapes Go.ChangeAt Go.RowKit
theorem mH{w:World}{D:Nat→Prop}{A:Option Addr}{l:List Rf}{n:Nat}(h:aC D w 2 A n (aF l))(hn:0<n){j:Nat}{r1 r2:Int}(hj:l[j]?=some (r1,r2)):
 ∃b off,A=some ⟨b,off,none⟩∧D b∧∀w':World,w'.heap[b]?=w.heap[b]?→w'.cell? ⟨b,off+j*2,none⟩=some (.int .i64 r1)∧w'.cell? ⟨b,off+j*2+1,none⟩=some (.int .i64 r2):=by
 obtain⟨b,off,hA,hb,hc⟩:=h.at_ hn (by omega)
 obtain⟨h1,h2⟩:=aN hj
 exact⟨b,off,hA,hb,fun w' hw=>⟨(sK (w:=w) hw).trans (hc _ _ h1),(sK (w:=w) hw).trans (hc _ _ h2)⟩⟩
theorem oI{l:List Rf}{j:Nat}{r:Rf}(h:l[j]?=some r):(l.take (j+1)).flatMap cS=(l.take j).flatMap cS++cS r:=by
 rw[sQ,h,uC];simp
theorem take_op{l:List OpD}{j:Nat}{o:OpD}(h:l[j]?=some o):(l.take (j+1)).flatMap opB=(l.take j).flatMap opB++opB o:=by
 rw[sQ,h,uC];simp
theorem rK{n:Nat}(h:n≤1000000):iA (n:Int):=⟨by omega,by omega⟩
theorem jU(a s st:Int)(deps:List Rf)(DA:Option Addr)(dn DC:Nat)(ops:List OpD)(OA:Option Addr)(m OC:Nat)(w:World)
 (hC:ChM w deps DA ops OA) (hdn:deps.length=dn) (hm:ops.length=m) (hG:EncG a s st deps ops) :
 Calls Tryz.prog 94 #[.agg #[.int .i64 a,.int .i64 s,.int .i64 st,.slice DA dn DC,.slice OA m OC]] w fun e w'=>∃v,e=.returned v∧Acc w w' v (gZ a s st deps ops):=by
 have HC:=Hi hC;have HDN:=Hi hdn;have HM:=Hi hm;have HG:=Hi hG;have hbd:dn≤12:=by rw[←hdn];exact hG.dl
 have hbm:m≤40:=by rw[←hm];exact hG.ol
 have HBC:=Hi (Blk.new w 33 #[.int .i64 a,.int .i64 s,.int .i64 st,.slice DA dn DC,.slice OA m OC]);have N1:=dV (Acc.nil w ((sA _ w).alloc (sB _) (.cells #[.int .i64 a,.int .i64 s,.int .i64 st,.slice DA dn DC,.slice OA m OC] 33)))
  [a,s,st,(dn:Int)] 4 #[.int .i64 a,.int .i64 s,.int .i64 st,.int .i64 (dn:Int)] rfl rfl (by omega) (by simp)
  (by simp only[sO,uB,or_false];rintro x (rfl|rfl|rfl|rfl);exact hG.a;exact hG.s;exact hG.st;exact⟨by omega,by omega⟩) (w.heap.size+1) (by simp)
 clear hC hdn hm hG;go_enter Tryz.func94,Tryz.ntmps94;go_wp2_with fail
 go_at_call 122;refine N1.mono ?_;rintro e w1 ⟨v1,rfl,hA,hk⟩;replace HBC:=Hi (hk _ _ _ HBC.o (by decide));have HA1:Hid (Acc w w1 v1 (aZ [a,s,st,(dn:Int)]++(deps.take 0).flatMap cS)):=by show Acc _ _ _ _;simpa using hA
 clear N1 hA hk;go_wp2_with fail
 go_loopw [3,4] (fun v i wr=>∃j:Nat,j≤dn∧i=.int .i64 j∧Hid (Acc w wr v (aZ [a,s,st,(dn:Int)]++(deps.take j).flatMap cS))∧Hid (Blk wr w.heap.size 33 #[.int .i64 a,.int .i64 s,.int .i64 st,.slice DA dn DC,.slice OA m OC])) (fun _ i _=>dn-(intOf i).toNat)
 case atStart=>exact⟨0,by omega,rfl,HA1,HBC⟩
 case round =>
  clear HA1 HBC;obtain⟨j,hj,rfl,HA,HBC⟩:=hrel
  obtain⟨c0,c1,c2,c3,c4⟩:=ce5 HBC.o
  have hal:(aZ [a,s,st,(dn:Int)]++(deps.take j).flatMap cS).length≤300:=by
   have h1:=dX (l:=[a,s,st,(dn:Int)]) (n:=4) rfl;have h2:=jI (deps.take j);simp only[sF,tD]at h2 ⊢;omega
  by_cases hlt:j<dn
  ·obtain⟨r,hr⟩:∃r,deps[j]?=some r:=jY (by rw[HDN.o];exact hlt)
   obtain⟨r1,r2⟩:=r
   have hrd:=HC.o.hd;rw[HDN.o]at hrd;obtain⟨b,off,hA,hb,hcs⟩:=mH hrd (by omega) hr
   subst hA;have hg:=HG.o.d _ (sJ hr);have HT:Hid (aZ [a,s,st,(dn:Int)]++(deps.take (j+1)).flatMap cS=(aZ [a,s,st,(dn:Int)]++(deps.take j).flatMap cS)++aZ [r1,r2]):=by
    show _=_;rw[oI hr,sX];rfl
   generalize aZ [a,s,st,(dn:Int)]++(deps.take j).flatMap cS=acc at HA hal HT;have NS:=dV HA.o.drew [r1,r2] 2 #[.int .i64 r1,.int .i64 r2] rfl rfl (by omega) (by omega)
    (by simp only[sO,uB,or_false];rintro x (rfl|rfl);exact hg.1;exact hg.2) wr.heap.size rfl
   obtain⟨x1,x2⟩:=hcs wr (HA.o.2.block b hb)
   have hbl:b<wr.heap.size:=sD hb HA.o.2.size;have hgl:=HBC.o.lt;have KS:∀o,(wr.alloc o).cell? ⟨w.heap.size,3,none⟩=some (.slice (some ⟨b,off,none⟩) dn DC)∧(wr.alloc o).cell? ⟨b,off+j*2,none⟩=some (.int .i64 r1)∧(wr.alloc o).cell? ⟨b,off+j*2+1,none⟩=some (.int .i64 r2):=fun o =>
    ⟨(tP _ _ ⟨w.heap.size,3,none⟩ hgl).trans c3,(tP _ _ ⟨b,off+j*2,none⟩ hbl).trans x1,(tP _ _ ⟨b,off+j*2+1,none⟩ hbl).trans x2⟩
   have hj0:(0:Int)≤(j:Int):=by omega
   have hj1:(j:Int)<(dn:Int):=by omega
   clear hrd hr hg;go_wp2_with fail
   go_region_held3 (fun w'=>w'.cell? ⟨w.heap.size,3,none⟩=some (.slice (some ⟨b,off,none⟩) dn DC)∧w'.cell? ⟨b,off+j*2,none⟩=some (.int .i64 r1)∧w'.cell? ⟨b,off+j*2+1,none⟩=some (.int .i64 r2))
    (first|exact⟨c3,x1,x2⟩|exact KS _|exact q2|go_keep)
    ((go_at_call 122;refine NS.mono ?_;rintro e w3 ⟨v3,rfl,hA3,hk3⟩;have HB3:Hid (Blk w3 w.heap.size 33 #[.int .i64 a,.int .i64 s,.int .i64 st,.slice (some ⟨b,off,none⟩) dn DC,.slice OA m OC]):=Hi (hk3 _ _ _ (by exact HBC.o) (by decide));have q2:=And.intro (show w3.cell? ⟨w.heap.size,3,none⟩=some (.slice (some ⟨b,off,none⟩) dn DC) from HB3.o.cell 3) (hcs w3 (hA3.2.block b hb))))
   all_goals
    have HA3:=Hi hA3;clear hA3 hk3 q2 KS NS x1 x2 c0 c1 c2 c3 c4 hcs;go_wp2_with fail
    first
     |exact⟨⟨j+1,by omega,by go_num,by rw[HT.o];exact HA3,HB3⟩,by simp[intOf];omega⟩
     |(go_roundw
       case rel=>exact⟨j+1,by omega,by go_num,by rw[HT.o];exact HA3,HB3⟩
       case measure=>simp[intOf];omega)
  ·have hjn:j=dn:=by omega
   have HF:Hid (aZ [a,s,st,(dn:Int)]++(deps.take j).flatMap cS=aZ [a,s,st,(dn:Int)]++deps.flatMap cS):=by
    show _=_;rw[sL (by rw[HDN.o];omega)]
   rw[HF.o]at HA hal;have HFE:Hid (gZ a s st deps ops=(aZ [a,s,st,(dn:Int)]++deps.flatMap cS)++aZ [(m:Int)]++ops.flatMap opB):=by
    show _=_;rw[gZ,HDN.o,HM.o]
   generalize aZ [a,s,st,(dn:Int)]++deps.flatMap cS=acc at HA hal HFE;clear hjn HF;have NS:=dV HA.o [(m:Int)] 1 #[.int .i64 (m:Int)] rfl rfl (by omega) (by omega)
    (by simp only[sO,uB,or_false];rintro x rfl;exact⟨by omega,by omega⟩) wr.heap.size rfl
   go_wp2_with fail
   go_at_call 122;refine NS.mono ?_;rintro e w2 ⟨v2,rfl,hA2,hk2⟩;replace HBC:=Hi (hk2 _ _ _ HBC.o (by decide));have HA2:Hid (Acc w w2 v2 (acc++aZ [(m:Int)]++(ops.take 0).flatMap opB)):=by show Acc _ _ _ _;simpa using hA2
   have HAL:Hid ((acc++aZ [(m:Int)]).length≤400):=by
    have h1:=dX (l:=[(m:Int)]) (n:=1) rfl;show _≤_;simp only[sF];omega
   generalize acc++aZ [(m:Int)]=acc1 at HA2 HAL HFE;clear NS hA2 hk2 HA hal c0 c1 c2 c3 c4;go_wp2_with fail
   go_loopw [3,5] (fun v i wr=>∃j:Nat,j≤m∧i=.int .i64 j∧Hid (Acc w wr v (acc1++(ops.take j).flatMap opB))∧Hid (Blk wr w.heap.size 33 #[.int .i64 a,.int .i64 s,.int .i64 st,.slice DA dn DC,.slice OA m OC])) (fun _ i _=>m-(intOf i).toNat)
   case atStart=>exact⟨0,by omega,rfl,HA2,HBC⟩
   case round =>
    clear HA2 HBC;obtain⟨j,hj,rfl,HA,HBC⟩:=hrel
    obtain⟨c0,c1,c2,c3,c4⟩:=ce5 HBC.o
    by_cases hlt:j<m
    ·obtain⟨o,ho⟩:∃o,ops[j]?=some o:=jY (by rw[HM.o];exact hlt)
     have hmem:=sJ ho;have hgo:=HG.o.o o hmem;have hpo:=HC.o.hp o hmem;have hrd:=HC.o.ho;rw[HM.o]at hrd;obtain⟨b,off,hOA,hb,hcs⟩:=rJ hrd (by omega) ho
     subst hOA;have hcw:=hcs wr (HA.o.2.block b hb);have HT:Hid (acc1++(ops.take (j+1)).flatMap opB=(acc1++(ops.take j).flatMap opB)++opB o):=by
      show _=_;rw[take_op ho,sX]
     have hal:(acc1++(ops.take j).flatMap opB).length≤21000:=by
      have h1:=ops_len (ops.take j) fun o ho=>HG.o.o o (uY ho)
      have h2:=HAL.o;simp only[sF,tD]at h1 ⊢;omega
     generalize acc1++(ops.take j).flatMap opB=acc at HA HT hal;obtain⟨k,on,oa,key,en,ea,ins,vk,vn,vt,va,vb,PA,pc,l⟩:=o
     obtain⟨gk,gon,goa,gkey,gen,gea,gvk,gvn,gvt,gll,gl⟩:=hgo
     dsimp only at gk gon goa gkey gen gea gvk gvn gvt gll gl hpo hcw;obtain⟨y0,y1,y2,y3,y4,y5,y6,y7,y8,y9,y10,y11,y12⟩:=hcw
     obtain⟨ol,hol⟩:∃ol,l.length=ol:=⟨_,rfl⟩
     rw[hol]at y12 hpo gll;have HOL:=Hi hol;have HLR:=Hi hpo.1;have HGL:=Hi gl;have HVN:=Hi gvn;have HTB:Hid (opB ⟨k,on,oa,key,en,ea,ins,vk,vn,vt,va,vb,PA,pc,l⟩=aZ [k,on,oa,(key.size:Int)]++key.data.toList++aZ [en,ea,inI ins,vk]++iN vn++aZ [(vt.size:Int)]++vt.data.toList++aZ [(ol:Int)]++l.flatMap cS):=by
      show _=_;simp only[opB,hol]
     rw[HTB.o]at HT;replace HT:Hid _:=(by have h:=HT.o;simp only[←sX]at h;exact h);have hj0:(0:Int)≤(j:Int):=by omega
     have hj1:(j:Int)<(m:Int):=by omega
     have h12:ol≤12:=gll;clear HTB hcs hrd hmem ho hpo hol gl gvn gll;have HBO:=Hi (Blk.new wr 53 #[.int .i64 k,.int .i64 on,.int .i64 oa,.string key,.int .i64 en,.int .i64 ea,.bool ins,.int .i64 vk,.int .i64 vn,.string vt,.int .i64 va,.int .i64 vb,.slice PA ol pc]);replace HBC:=Hi (HBC.o.alloc (.cells #[.int .i64 k,.int .i64 on,.int .i64 oa,.string key,.int .i64 en,.int .i64 ea,.bool ins,.int .i64 vk,.int .i64 vn,.string vt,.int .i64 va,.int .i64 vb,.slice PA ol pc] 53));replace HA:Hid (Acc w (wr.alloc (.cells #[.int .i64 k,.int .i64 on,.int .i64 oa,.string key,.int .i64 en,.int .i64 ea,.bool ins,.int .i64 vk,.int .i64 vn,.string vt,.int .i64 va,.int .i64 vb,.slice PA ol pc] 53)) u3 acc):=HA.o.alloc _;have NS:=dV HA.o [k,on,oa,(key.size:Int)] 4 #[.int .i64 k,.int .i64 on,.int .i64 oa,.int .i64 (key.size:Int)] rfl rfl (by omega) (by omega) (by simp only[sO,uB,or_false];rintro x (rfl|rfl|rfl|rfl);exact gk;exact gon;exact goa;exact rK (by omega)) (wr.heap.size+1) (by simp);go_wp2_with fail
     go_at_call 122;refine NS.mono ?_;rintro e w3 ⟨v3,rfl,hA,hk⟩;clear NS HA;have HA:=Hi hA;clear hA;have hl3:(acc++aZ [k,on,oa,(key.size:Int)]).length≤21040:=by
      have h1:=dX (l:=[k,on,oa,(key.size:Int)]) (n:=4) rfl;simp only[sF];omega
     generalize acc++aZ [k,on,oa,(key.size:Int)]=acc3 at HA HT hl3;clear c0 c1 c2 c3 c4 y0 y1 y2 y3 y4 y5 y6 y7 y8 y9 y10 y11 y12;replace HBC:=Hi (hk _ _ _ HBC.o (by decide));replace HBO:=Hi (hk _ _ _ HBO.o (by decide));clear hk;try clear e0 e1 e2 e3 e4 e5 e6 e7 e8 e9 e10 e11 e12
     obtain⟨e0,e1,e2,e3,e4,e5,e6,e7,e8,e9,e10,e11,e12⟩:=cT HBO.o
     obtain⟨A3,C3,hv⟩:=HA.o.form
     subst hv;go_wp2_with (at_builtin;refine fN rfl (.tmp 74) (.tmp 76) 147 9 rfl (.slice A3 acc3.length C3) (.string key) rfl rfl _ (oH _ HA.o rfl key (by omega) (by omega)) ?_)
     intro v4 w4 hA hk;clear HA;have HA:=Hi hA;clear hA;have hl4:(acc3++key.data.toList).length≤21060:=by
      have h1:key.data.toList.length=key.size:=by rw[ByteArray.size,vB]
      simp only[sF];omega
     generalize acc3++key.data.toList=acc4 at HA HT hl4;replace HBC:=Hi (hk _ _ _ HBC.o (by decide));replace HBO:=Hi (hk _ _ _ HBO.o (by decide));clear hk;try clear e0 e1 e2 e3 e4 e5 e6 e7 e8 e9 e10 e11 e12
     obtain⟨e0,e1,e2,e3,e4,e5,e6,e7,e8,e9,e10,e11,e12⟩:=cT HBO.o
     cases ins
     ·skip
      replace HT:Hid _:=(by have h:=HT.o;rw[show inI false=(0:Int) from rfl]at h;exact h);have NS:=dV HA.o [en,ea,(0:Int),vk] 4 #[.int .i64 en,.int .i64 ea,.int .i64 0,.int .i64 vk] rfl rfl (by omega) (by omega) (by simp only[sO,uB,or_false];rintro x (rfl|rfl|rfl|rfl);exact gen;exact gea;exact⟨by decide,by decide⟩;exact gvk) _ rfl;go_wp2_with fail
      go_at_call 122;refine NS.mono ?_;rintro e w5 ⟨v5,rfl,hA,hk⟩;clear NS HA;have HA:=Hi hA;clear hA;have hl5:(acc4++aZ [en,ea,(0:Int),vk]).length≤21100:=by
       have h1:=dX (l:=[en,ea,(0:Int),vk]) (n:=4) rfl;simp only[sF];omega
      generalize acc4++aZ [en,ea,(0:Int),vk]=acc5 at HA HT hl5;replace HBC:=Hi (hk _ _ _ HBC.o (by decide));replace HBO:=Hi (hk _ _ _ HBO.o (by decide));clear hk;try clear e0 e1 e2 e3 e4 e5 e6 e7 e8 e9 e10 e11 e12
      obtain⟨e0,e1,e2,e3,e4,e5,e6,e7,e8,e9,e10,e11,e12⟩:=cT HBO.o
      go_wp2_with fail
      go_at_call 123;refine(putSR_any vn HVN.o _).mono ?_
      rintro e w6 ⟨vS,rfl,hoS,hbS⟩;obtain⟨AS,CS,hvS,_,_,hrS⟩:=aC.of_own hoS
      subst hvS;have hk:=Kept.of_below hbS;have HRS:=Hi hrS;have hps:(iN vn).length≤10:=(gQ (zz vn)).2;replace HA:=Hi (HA.o.below hbS);clear hbS hoS hrS;replace HBC:=Hi (hk _ _ _ HBC.o (by decide));replace HBO:=Hi (hk _ _ _ HBO.o (by decide));clear hk;try clear e0 e1 e2 e3 e4 e5 e6 e7 e8 e9 e10 e11 e12
      obtain⟨e0,e1,e2,e3,e4,e5,e6,e7,e8,e9,e10,e11,e12⟩:=cT HBO.o
      go_wp2_with (at_builtin;refine fN rfl (.tmp 93) (.tmp 97) 147 147 rfl v5 (.slice AS (iN vn).length CS) rfl rfl _ (bytes_step _ HA.o _ AS (iN vn).length CS (iN vn) HRS.o rfl (by omega) (by omega)) ?_)
      intro v7 w7 hA hk;clear HA HRS;have HA:=Hi hA;clear hA;have hl7:(acc5++iN vn).length≤21110:=by simp only[sF];omega
      generalize acc5++iN vn=acc7 at HA HT hl7;replace HBC:=Hi (hk _ _ _ HBC.o (by decide));replace HBO:=Hi (hk _ _ _ HBO.o (by decide));clear hk;try clear e0 e1 e2 e3 e4 e5 e6 e7 e8 e9 e10 e11 e12
      obtain⟨e0,e1,e2,e3,e4,e5,e6,e7,e8,e9,e10,e11,e12⟩:=cT HBO.o
      have NS:=dV HA.o [(vt.size:Int)] 1 #[.int .i64 (vt.size:Int)] rfl rfl (by omega) (by omega) (by simp only[sO,uB,or_false];rintro x rfl;exact rK (by omega)) _ rfl;go_wp2_with fail
      go_at_call 122;refine NS.mono ?_;rintro e w8 ⟨v8,rfl,hA,hk⟩;clear NS HA;have HA:=Hi hA;clear hA;have hl8:(acc7++aZ [(vt.size:Int)]).length≤21120:=by
       have h1:=dX (l:=[(vt.size:Int)]) (n:=1) rfl;simp only[sF];omega
      generalize acc7++aZ [(vt.size:Int)]=acc8 at HA HT hl8;replace HBC:=Hi (hk _ _ _ HBC.o (by decide));replace HBO:=Hi (hk _ _ _ HBO.o (by decide));clear hk;try clear e0 e1 e2 e3 e4 e5 e6 e7 e8 e9 e10 e11 e12
      obtain⟨e0,e1,e2,e3,e4,e5,e6,e7,e8,e9,e10,e11,e12⟩:=cT HBO.o
      obtain⟨A8,C8,hv⟩:=HA.o.form
      subst hv;go_wp2_with (at_builtin;refine fN rfl (.tmp 106) (.tmp 109) 147 9 rfl (.slice A8 acc8.length C8) (.string vt) rfl rfl _ (oH _ HA.o rfl vt (by omega) (by omega)) ?_)
      intro v9 w9 hA hk;clear HA;have HA:=Hi hA;clear hA;have hl9:(acc8++vt.data.toList).length≤21180:=by
       have h1:vt.data.toList.length=vt.size:=by rw[ByteArray.size,vB]
       simp only[sF];omega
      generalize acc8++vt.data.toList=acc9 at HA HT hl9;replace HBC:=Hi (hk _ _ _ HBC.o (by decide));replace HBO:=Hi (hk _ _ _ HBO.o (by decide));clear hk;try clear e0 e1 e2 e3 e4 e5 e6 e7 e8 e9 e10 e11 e12
      obtain⟨e0,e1,e2,e3,e4,e5,e6,e7,e8,e9,e10,e11,e12⟩:=cT HBO.o
      have NS:=dV HA.o [(ol:Int)] 1 #[.int .i64 (ol:Int)] rfl rfl (by omega) (by omega) (by simp only[sO,uB,or_false];rintro x rfl;exact rK (by omega)) _ rfl;go_wp2_with fail
      go_at_call 122;refine NS.mono ?_;rintro e w10 ⟨v10,rfl,hA,hk⟩;clear NS HA;have HA:=Hi hA;clear hA;have hl10:(acc9++aZ [(ol:Int)]).length≤21190:=by
       have h1:=dX (l:=[(ol:Int)]) (n:=1) rfl;simp only[sF];omega
      generalize acc9++aZ [(ol:Int)]=acc10 at HA HT hl10;replace HBC:=Hi (hk _ _ _ HBC.o (by decide));replace HBO:=Hi (hk _ _ _ HBO.o (by decide));clear hk;try clear e0 e1 e2 e3 e4 e5 e6 e7 e8 e9 e10 e11 e12
      obtain⟨e0,e1,e2,e3,e4,e5,e6,e7,e8,e9,e10,e11,e12⟩:=cT HBO.o
      have HA10:Hid (Acc w w10 v10 (acc10++(l.take 0).flatMap cS)):=by show Acc _ _ _ _;simpa using HA.o
      go_wp2_with fail
      clear HA e0 e1 e2 e3 e4 e5 e6 e7 e8 e9 e10 e11 e12;generalize hB0:wr.heap.size=B0 at HBO ⊢;go_loopw [3,8] (fun v i wr=>∃q:Nat,q≤ol∧i=.int .i64 q∧Hid (Acc w wr v (acc10++(l.take q).flatMap cS))∧Hid (Blk wr w.heap.size 33 #[.int .i64 a,.int .i64 s,.int .i64 st,.slice DA dn DC,.slice (some ⟨b,off,none⟩) m OC])∧Hid (Blk wr B0 53 #[.int .i64 k,.int .i64 on,.int .i64 oa,.string key,.int .i64 en,.int .i64 ea,.bool false,.int .i64 vk,.int .i64 vn,.string vt,.int .i64 va,.int .i64 vb,.slice PA ol pc])) (fun _ i _=>ol-(intOf i).toNat)
      case atStart=>exact⟨0,by omega,rfl,HA10,HBC,HBO⟩
      case round =>
       clear HA10 HBC HBO;obtain⟨q,hq,rfl,HA,HBC,HBO⟩:=hrel
       obtain⟨e0,e1,e2,e3,e4,e5,e6,e7,e8,e9,e10,e11,e12⟩:=cT HBO.o
       by_cases hql:q<ol
       ·obtain⟨r,hr⟩:∃r,l[q]?=some r:=jY (by rw[HOL.o];exact hql)
        obtain⟨r1,r2⟩:=r
        obtain⟨pb,poff,hPA,hpb,hps2⟩:=mH HLR.o (by omega) hr
        subst hPA;have hg:=HGL.o _ (sJ hr);have HTp:Hid (acc10++(l.take (q+1)).flatMap cS=(acc10++(l.take q).flatMap cS)++aZ [r1,r2]):=by
         show _=_;rw[oI hr,sX];rfl
        have hlq:(acc10++(l.take q).flatMap cS).length≤22000:=by
         have h2:=jI (l.take q);simp only[sF,tD]at h2 ⊢;omega
        generalize acc10++(l.take q).flatMap cS=accq at HA HTp hlq;have NS:=dV HA.o.drew [r1,r2] 2 #[.int .i64 r1,.int .i64 r2] rfl rfl (by omega) (by omega)
         (by simp only[sO,uB,or_false];rintro x (rfl|rfl);exact hg.1;exact hg.2) wr.heap.size rfl
        obtain⟨x1,x2⟩:=hps2 wr (HA.o.2.block pb hpb)
        have hpl:pb<wr.heap.size:=sD hpb HA.o.2.size;have hgl2:=HBO.o.lt;have KS:∀o,(wr.alloc o).cell? ⟨B0,12,none⟩=some (.slice (some ⟨pb,poff,none⟩) ol pc)∧(wr.alloc o).cell? ⟨pb,poff+q*2,none⟩=some (.int .i64 r1)∧(wr.alloc o).cell? ⟨pb,poff+q*2+1,none⟩=some (.int .i64 r2):=fun o =>
         ⟨(tP _ _ ⟨B0,12,none⟩ hgl2).trans e12,(tP _ _ ⟨pb,poff+q*2,none⟩ hpl).trans x1,(tP _ _ ⟨pb,poff+q*2+1,none⟩ hpl).trans x2⟩
        have hq0:(0:Int)≤(q:Int):=by omega
        have hq1:(q:Int)<(ol:Int):=by omega
        clear hr hg e0 e1 e2 e3 e4 e5 e6 e7 e8 e9 e10 e11;go_wp2_with fail
        go_region_held3 (fun w'=>w'.cell? ⟨B0,12,none⟩=some (.slice (some ⟨pb,poff,none⟩) ol pc)∧w'.cell? ⟨pb,poff+q*2,none⟩=some (.int .i64 r1)∧w'.cell? ⟨pb,poff+q*2+1,none⟩=some (.int .i64 r2))
         (first|exact⟨e12,x1,x2⟩|exact KS _|exact q2|go_keep)
         ((go_at_call 122;refine NS.mono ?_;rintro e w3 ⟨v3,rfl,hA3,hk3⟩;have HB3:=Hi (hk3 _ _ _ (by exact HBC.o) (by decide));have HB4:=Hi (hk3 _ _ _ (by exact HBO.o) (by decide));have q2:=And.intro (show w3.cell? ⟨B0,12,none⟩=some (.slice (some ⟨pb,poff,none⟩) ol pc) from HB4.o.cell 12) (hps2 w3 (hA3.2.block pb hpb))))
        all_goals
         have HA3:=Hi hA3;clear hA3 hk3 q2 KS NS x1 x2 e12 hps2;go_wp2_with fail
         first
          |exact⟨⟨q+1,by omega,by go_num,by rw[HTp.o];exact HA3,HB3,HB4⟩,by simp[intOf];omega⟩
          |(go_roundw
            case rel=>exact⟨q+1,by omega,by go_num,by rw[HTp.o];exact HA3,HB3,HB4⟩
            case measure=>simp[intOf];omega)
       ·have hqo:q=ol:=by omega
        have HF:Hid (acc10++(l.take q).flatMap cS=acc1++(ops.take (j+1)).flatMap opB):=by
         show _=_;rw[HT.o,sL (by rw[HOL.o];omega)]
        clear hqo e0 e1 e2 e3 e4 e5 e6 e7 e8 e9 e10 e11;go_wp2_with fail
        first
         |exact⟨⟨j+1,by omega,by go_num,by rw[←HF.o];exact HA,HBC⟩,by simp[intOf];omega⟩
         |(go_roundw
           case rel=>exact⟨j+1,by omega,by go_num,by rw[←HF.o];exact HA,HBC⟩
           case measure=>simp[intOf];omega)
     ·skip
      replace HT:Hid _:=(by have h:=HT.o;rw[show inI true=(1:Int) from rfl]at h;exact h);have NS:=dV HA.o [en,ea,(1:Int),vk] 4 #[.int .i64 en,.int .i64 ea,.int .i64 1,.int .i64 vk] rfl rfl (by omega) (by omega) (by simp only[sO,uB,or_false];rintro x (rfl|rfl|rfl|rfl);exact gen;exact gea;exact⟨by decide,by decide⟩;exact gvk) _ rfl;go_wp2_with fail
      go_at_call 122;refine NS.mono ?_;rintro e w5 ⟨v5,rfl,hA,hk⟩;clear NS HA;have HA:=Hi hA;clear hA;have hl5:(acc4++aZ [en,ea,(1:Int),vk]).length≤21100:=by
       have h1:=dX (l:=[en,ea,(1:Int),vk]) (n:=4) rfl;simp only[sF];omega
      generalize acc4++aZ [en,ea,(1:Int),vk]=acc5 at HA HT hl5;replace HBC:=Hi (hk _ _ _ HBC.o (by decide));replace HBO:=Hi (hk _ _ _ HBO.o (by decide));clear hk;try clear e0 e1 e2 e3 e4 e5 e6 e7 e8 e9 e10 e11 e12
      obtain⟨e0,e1,e2,e3,e4,e5,e6,e7,e8,e9,e10,e11,e12⟩:=cT HBO.o
      go_wp2_with fail
      go_at_call 123;refine(putSR_any vn HVN.o _).mono ?_
      rintro e w6 ⟨vS,rfl,hoS,hbS⟩;obtain⟨AS,CS,hvS,_,_,hrS⟩:=aC.of_own hoS
      subst hvS;have hk:=Kept.of_below hbS;have HRS:=Hi hrS;have hps:(iN vn).length≤10:=(gQ (zz vn)).2;replace HA:=Hi (HA.o.below hbS);clear hbS hoS hrS;replace HBC:=Hi (hk _ _ _ HBC.o (by decide));replace HBO:=Hi (hk _ _ _ HBO.o (by decide));clear hk;try clear e0 e1 e2 e3 e4 e5 e6 e7 e8 e9 e10 e11 e12
      obtain⟨e0,e1,e2,e3,e4,e5,e6,e7,e8,e9,e10,e11,e12⟩:=cT HBO.o
      go_wp2_with (at_builtin;refine fN rfl (.tmp 93) (.tmp 97) 147 147 rfl v5 (.slice AS (iN vn).length CS) rfl rfl _ (bytes_step _ HA.o _ AS (iN vn).length CS (iN vn) HRS.o rfl (by omega) (by omega)) ?_)
      intro v7 w7 hA hk;clear HA HRS;have HA:=Hi hA;clear hA;have hl7:(acc5++iN vn).length≤21110:=by simp only[sF];omega
      generalize acc5++iN vn=acc7 at HA HT hl7;replace HBC:=Hi (hk _ _ _ HBC.o (by decide));replace HBO:=Hi (hk _ _ _ HBO.o (by decide));clear hk;try clear e0 e1 e2 e3 e4 e5 e6 e7 e8 e9 e10 e11 e12
      obtain⟨e0,e1,e2,e3,e4,e5,e6,e7,e8,e9,e10,e11,e12⟩:=cT HBO.o
      have NS:=dV HA.o [(vt.size:Int)] 1 #[.int .i64 (vt.size:Int)] rfl rfl (by omega) (by omega) (by simp only[sO,uB,or_false];rintro x rfl;exact rK (by omega)) _ rfl;go_wp2_with fail
      go_at_call 122;refine NS.mono ?_;rintro e w8 ⟨v8,rfl,hA,hk⟩;clear NS HA;have HA:=Hi hA;clear hA;have hl8:(acc7++aZ [(vt.size:Int)]).length≤21120:=by
       have h1:=dX (l:=[(vt.size:Int)]) (n:=1) rfl;simp only[sF];omega
      generalize acc7++aZ [(vt.size:Int)]=acc8 at HA HT hl8;replace HBC:=Hi (hk _ _ _ HBC.o (by decide));replace HBO:=Hi (hk _ _ _ HBO.o (by decide));clear hk;try clear e0 e1 e2 e3 e4 e5 e6 e7 e8 e9 e10 e11 e12
      obtain⟨e0,e1,e2,e3,e4,e5,e6,e7,e8,e9,e10,e11,e12⟩:=cT HBO.o
      obtain⟨A8,C8,hv⟩:=HA.o.form
      subst hv;go_wp2_with (at_builtin;refine fN rfl (.tmp 106) (.tmp 109) 147 9 rfl (.slice A8 acc8.length C8) (.string vt) rfl rfl _ (oH _ HA.o rfl vt (by omega) (by omega)) ?_)
      intro v9 w9 hA hk;clear HA;have HA:=Hi hA;clear hA;have hl9:(acc8++vt.data.toList).length≤21180:=by
       have h1:vt.data.toList.length=vt.size:=by rw[ByteArray.size,vB]
       simp only[sF];omega
      generalize acc8++vt.data.toList=acc9 at HA HT hl9;replace HBC:=Hi (hk _ _ _ HBC.o (by decide));replace HBO:=Hi (hk _ _ _ HBO.o (by decide));clear hk;try clear e0 e1 e2 e3 e4 e5 e6 e7 e8 e9 e10 e11 e12
      obtain⟨e0,e1,e2,e3,e4,e5,e6,e7,e8,e9,e10,e11,e12⟩:=cT HBO.o
      have NS:=dV HA.o [(ol:Int)] 1 #[.int .i64 (ol:Int)] rfl rfl (by omega) (by omega) (by simp only[sO,uB,or_false];rintro x rfl;exact rK (by omega)) _ rfl;go_wp2_with fail
      go_at_call 122;refine NS.mono ?_;rintro e w10 ⟨v10,rfl,hA,hk⟩;clear NS HA;have HA:=Hi hA;clear hA;have hl10:(acc9++aZ [(ol:Int)]).length≤21190:=by
       have h1:=dX (l:=[(ol:Int)]) (n:=1) rfl;simp only[sF];omega
      generalize acc9++aZ [(ol:Int)]=acc10 at HA HT hl10;replace HBC:=Hi (hk _ _ _ HBC.o (by decide));replace HBO:=Hi (hk _ _ _ HBO.o (by decide));clear hk;try clear e0 e1 e2 e3 e4 e5 e6 e7 e8 e9 e10 e11 e12
      obtain⟨e0,e1,e2,e3,e4,e5,e6,e7,e8,e9,e10,e11,e12⟩:=cT HBO.o
      have HA10:Hid (Acc w w10 v10 (acc10++(l.take 0).flatMap cS)):=by show Acc _ _ _ _;simpa using HA.o
      go_wp2_with fail
      clear HA e0 e1 e2 e3 e4 e5 e6 e7 e8 e9 e10 e11 e12;generalize hB0:wr.heap.size=B0 at HBO ⊢;go_loopw [3,8] (fun v i wr=>∃q:Nat,q≤ol∧i=.int .i64 q∧Hid (Acc w wr v (acc10++(l.take q).flatMap cS))∧Hid (Blk wr w.heap.size 33 #[.int .i64 a,.int .i64 s,.int .i64 st,.slice DA dn DC,.slice (some ⟨b,off,none⟩) m OC])∧Hid (Blk wr B0 53 #[.int .i64 k,.int .i64 on,.int .i64 oa,.string key,.int .i64 en,.int .i64 ea,.bool true,.int .i64 vk,.int .i64 vn,.string vt,.int .i64 va,.int .i64 vb,.slice PA ol pc])) (fun _ i _=>ol-(intOf i).toNat)
      case atStart=>exact⟨0,by omega,rfl,HA10,HBC,HBO⟩
      case round =>
       clear HA10 HBC HBO;obtain⟨q,hq,rfl,HA,HBC,HBO⟩:=hrel
       obtain⟨e0,e1,e2,e3,e4,e5,e6,e7,e8,e9,e10,e11,e12⟩:=cT HBO.o
       by_cases hql:q<ol
       ·obtain⟨r,hr⟩:∃r,l[q]?=some r:=jY (by rw[HOL.o];exact hql)
        obtain⟨r1,r2⟩:=r
        obtain⟨pb,poff,hPA,hpb,hps2⟩:=mH HLR.o (by omega) hr
        subst hPA;have hg:=HGL.o _ (sJ hr);have HTp:Hid (acc10++(l.take (q+1)).flatMap cS=(acc10++(l.take q).flatMap cS)++aZ [r1,r2]):=by
         show _=_;rw[oI hr,sX];rfl
        have hlq:(acc10++(l.take q).flatMap cS).length≤22000:=by
         have h2:=jI (l.take q);simp only[sF,tD]at h2 ⊢;omega
        generalize acc10++(l.take q).flatMap cS=accq at HA HTp hlq;have NS:=dV HA.o.drew [r1,r2] 2 #[.int .i64 r1,.int .i64 r2] rfl rfl (by omega) (by omega)
         (by simp only[sO,uB,or_false];rintro x (rfl|rfl);exact hg.1;exact hg.2) wr.heap.size rfl
        obtain⟨x1,x2⟩:=hps2 wr (HA.o.2.block pb hpb)
        have hpl:pb<wr.heap.size:=sD hpb HA.o.2.size;have hgl2:=HBO.o.lt;have KS:∀o,(wr.alloc o).cell? ⟨B0,12,none⟩=some (.slice (some ⟨pb,poff,none⟩) ol pc)∧(wr.alloc o).cell? ⟨pb,poff+q*2,none⟩=some (.int .i64 r1)∧(wr.alloc o).cell? ⟨pb,poff+q*2+1,none⟩=some (.int .i64 r2):=fun o =>
         ⟨(tP _ _ ⟨B0,12,none⟩ hgl2).trans e12,(tP _ _ ⟨pb,poff+q*2,none⟩ hpl).trans x1,(tP _ _ ⟨pb,poff+q*2+1,none⟩ hpl).trans x2⟩
        have hq0:(0:Int)≤(q:Int):=by omega
        have hq1:(q:Int)<(ol:Int):=by omega
        clear hr hg e0 e1 e2 e3 e4 e5 e6 e7 e8 e9 e10 e11;go_wp2_with fail
        go_region_held3 (fun w'=>w'.cell? ⟨B0,12,none⟩=some (.slice (some ⟨pb,poff,none⟩) ol pc)∧w'.cell? ⟨pb,poff+q*2,none⟩=some (.int .i64 r1)∧w'.cell? ⟨pb,poff+q*2+1,none⟩=some (.int .i64 r2))
         (first|exact⟨e12,x1,x2⟩|exact KS _|exact q2|go_keep)
         ((go_at_call 122;refine NS.mono ?_;rintro e w3 ⟨v3,rfl,hA3,hk3⟩;have HB3:=Hi (hk3 _ _ _ (by exact HBC.o) (by decide));have HB4:=Hi (hk3 _ _ _ (by exact HBO.o) (by decide));have q2:=And.intro (show w3.cell? ⟨B0,12,none⟩=some (.slice (some ⟨pb,poff,none⟩) ol pc) from HB4.o.cell 12) (hps2 w3 (hA3.2.block pb hpb))))
        all_goals
         have HA3:=Hi hA3;clear hA3 hk3 q2 KS NS x1 x2 e12 hps2;go_wp2_with fail
         first
          |exact⟨⟨q+1,by omega,by go_num,by rw[HTp.o];exact HA3,HB3,HB4⟩,by simp[intOf];omega⟩
          |(go_roundw
            case rel=>exact⟨q+1,by omega,by go_num,by rw[HTp.o];exact HA3,HB3,HB4⟩
            case measure=>simp[intOf];omega)
       ·have hqo:q=ol:=by omega
        have HF:Hid (acc10++(l.take q).flatMap cS=acc1++(ops.take (j+1)).flatMap opB):=by
         show _=_;rw[HT.o,sL (by rw[HOL.o];omega)]
        clear hqo e0 e1 e2 e3 e4 e5 e6 e7 e8 e9 e10 e11;go_wp2_with fail
        first
         |exact⟨⟨j+1,by omega,by go_num,by rw[←HF.o];exact HA,HBC⟩,by simp[intOf];omega⟩
         |(go_roundw
           case rel=>exact⟨j+1,by omega,by go_num,by rw[←HF.o];exact HA,HBC⟩
           case measure=>simp[intOf];omega)
    ·have hjm:j=m:=by omega
     have HF:Hid (gZ a s st deps ops=acc1++(ops.take j).flatMap opB):=by
      show _=_;rw[HFE.o,sL (by rw[HM.o];omega)]
     clear hjm;go_wp2_with fail
     go_ret;exact⟨_,rfl,by rw[HF.o];exact HA.o⟩
end Go.Proofs.YtjhkcbideddlgaaGreat
