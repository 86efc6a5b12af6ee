/- Contracts: the document's Encode: a change as bytes. -/
import Derived.Test.YtmpkejflgpodkaaGreatDoorP9
set_option linter.unusedVariables false
set_option linter.unusedSimpArgs false
namespace Go.Proofs.YtmpkejflgpodkaaGreatDoor
open Go.ChangeShapes Go.WideShapes Go.ChangeAt Go.RowKit
theorem refC_cells {w : World} {D : Nat→Prop} {A : Option Addr} {l : List Rf} {n : Nat} (h : Reads D w 2 A n (refC l)) (hn : 0 < n) {j : Nat} {r1 r2 : Int} (hj : l[j]?=some (r1,r2)) :
 ∃ b off,A=some ⟨b,off,none⟩∧D b∧∀ w' : World,w'.heap[b]?=w.heap[b]?→w'.cell? ⟨b,off+j*2,none⟩=some (.int .i64 r1)∧w'.cell? ⟨b,off+j*2+1,none⟩=some (.int .i64 r2):=by
 obtain ⟨b,off,hA,hb,hc⟩:=h.at_ hn (by omega)
 obtain ⟨h1,h2⟩:=refC_at hj
 exact ⟨b,off,hA,hb,fun w' hw=>⟨(World.cell?_of_block (w:=w) hw).trans (hc _ _ h1),(World.cell?_of_block (w:=w) hw).trans (hc _ _ h2)⟩⟩
theorem take_pair {l : List Rf} {j : Nat} {r : Rf} (h : l[j]?=some r) : (l.take (j+1)).flatMap pairB=(l.take j).flatMap pairB++pairB r:=by
 rw [List.take_add_one,h,List.flatMap_append];simp
theorem take_op {l : List OpD} {j : Nat} {o : OpD} (h : l[j]?=some o) : (l.take (j+1)).flatMap opB=(l.take j).flatMap opB++opB o:=by
 rw [List.take_add_one,h,List.flatMap_append];simp
theorem nat_of {n : Nat} (h : n≤1000000) : NatI (n : Int):=⟨by omega,by omega⟩
set_option maxHeartbeats 16000000 in
set_option maxRecDepth 20000 in
theorem refEnc_any (a s st : Int) (deps : List Rf) (DA : Option Addr) (dn DC : Nat) (ops : List OpD) (OA : Option Addr) (m OC : Nat) (w : World)
 (hC : ChM w deps DA ops OA) (hdn : deps.length=dn) (hm : ops.length=m) (hG : EncG a s st deps ops) :
 Calls Tryz.prog 80 #[.agg #[.int .i64 a,.int .i64 s,.int .i64 st,.slice DA dn DC,.slice OA m OC]] w fun e w'=>∃ v,e=.returned v∧Acc w w' v (encL a s st deps ops):=by
 have HC:=Lib.hid hC
 have HDN:=Lib.hid hdn
 have HM:=Lib.hid hm
 have HG:=Lib.hid hG
 have hbd : dn≤12:=by rw [← hdn];exact hG.dl
 have hbm : m≤40:=by rw [← hm];exact hG.ol
 have HBC:=Lib.hid (Blk.new w 82 #[.int .i64 a,.int .i64 s,.int .i64 st,.slice DA dn DC,.slice OA m OC])
 have N1:=nums_step (Acc.nil w ((Below.refl _ w).alloc (Nat.le_refl _) (.cells #[.int .i64 a,.int .i64 s,.int .i64 st,.slice DA dn DC,.slice OA m OC] 82)))
  [a,s,st,(dn : Int)] 4 #[.int .i64 a,.int .i64 s,.int .i64 st,.int .i64 (dn : Int)] rfl rfl (by omega) (by simp)
  (by simp only [List.mem_cons,List.not_mem_nil,or_false];rintro x (rfl | rfl | rfl | rfl);exact hG.a;exact hG.s;exact hG.st;exact ⟨by omega,by omega⟩) (w.heap.size+1) (by simp)
 clear hC hdn hm hG
 go_enter Tryz.func80,Tryz.ntmps80
 go_wp2_with fail
 go_at_call 122
 refine N1.mono ?_
 rintro e w1 ⟨v1,rfl,hA,hk⟩
 replace HBC:=Lib.hid (hk _ _ _ HBC.out (by decide))
 have HA1 : Hid (Acc w w1 v1 (numsL [a,s,st,(dn : Int)]++(deps.take 0).flatMap pairB)):=by show Acc _ _ _ _;simpa using hA
 clear N1 hA hk
 go_wp2_with fail
 go_loopw [3,4] (fun v i wr=>∃ j : Nat,j≤dn∧i=.int .i64 j∧Hid (Acc w wr v (numsL [a,s,st,(dn : Int)]++(deps.take j).flatMap pairB))∧Hid (Blk wr w.heap.size 82 #[.int .i64 a,.int .i64 s,.int .i64 st,.slice DA dn DC,.slice OA m OC])) (fun _ i _=>dn - (intOf i).toNat)
 case atStart=>exact ⟨0,by omega,rfl,HA1,HBC⟩
 case round =>
  clear HA1 HBC
  obtain ⟨j,hj,rfl,HA,HBC⟩:=hrel
  have c0 : wr.cell? ⟨w.heap.size,0,none⟩=some (.int .i64 a):=HBC.out.cell 0
  have c1 : wr.cell? ⟨w.heap.size,1,none⟩=some (.int .i64 s):=HBC.out.cell 1
  have c2 : wr.cell? ⟨w.heap.size,2,none⟩=some (.int .i64 st):=HBC.out.cell 2
  have c3 : wr.cell? ⟨w.heap.size,3,none⟩=some (.slice DA dn DC):=HBC.out.cell 3
  have c4 : wr.cell? ⟨w.heap.size,4,none⟩=some (.slice OA m OC):=HBC.out.cell 4
  have hal : (numsL [a,s,st,(dn : Int)]++(deps.take j).flatMap pairB).length≤300:=by
   have h1:=numsL_le (l:=[a,s,st,(dn : Int)]) (n:=4) rfl
   have h2:=pairs_len (deps.take j)
   simp only [List.length_append,List.length_take] at h2 ⊢
   omega
  by_cases hlt : j < dn
  · obtain ⟨r,hr⟩ : ∃ r,deps[j]?=some r:=get_lt (by rw [HDN.out];exact hlt)
    obtain ⟨r1,r2⟩:=r
    have hrd:=HC.out.hd
    rw [HDN.out] at hrd
    obtain ⟨b,off,hA,hb,hcs⟩:=refC_cells hrd (by omega) hr
    subst hA
    have hg:=HG.out.d _ (List.mem_of_getElem? hr)
    have HT : Hid (numsL [a,s,st,(dn : Int)]++(deps.take (j+1)).flatMap pairB=(numsL [a,s,st,(dn : Int)]++(deps.take j).flatMap pairB)++numsL [r1,r2]):=by
     show _=_
     rw [take_pair hr,List.append_assoc];rfl
    generalize numsL [a,s,st,(dn : Int)]++(deps.take j).flatMap pairB=acc at HA hal HT
    have NS:=nums_step HA.out.drew [r1,r2] 2 #[.int .i64 r1,.int .i64 r2] rfl rfl (by omega) (by omega)
     (by simp only [List.mem_cons,List.not_mem_nil,or_false];rintro x (rfl | rfl);exact hg.1;exact hg.2) wr.heap.size rfl
    obtain ⟨x1,x2⟩:=hcs wr (HA.out.2.block b hb)
    have hbl : b < wr.heap.size:=Nat.lt_of_lt_of_le hb HA.out.2.size
    have hgl:=HBC.out.lt
    have KS : ∀ o,(wr.alloc o).cell? ⟨w.heap.size,3,none⟩=some (.slice (some ⟨b,off,none⟩) dn DC)∧(wr.alloc o).cell? ⟨b,off+j*2,none⟩=some (.int .i64 r1)∧(wr.alloc o).cell? ⟨b,off+j*2+1,none⟩=some (.int .i64 r2):=fun o =>
     ⟨(World.cell?_alloc_lt _ _ ⟨w.heap.size,3,none⟩ hgl).trans c3,(World.cell?_alloc_lt _ _ ⟨b,off+j*2,none⟩ hbl).trans x1,(World.cell?_alloc_lt _ _ ⟨b,off+j*2+1,none⟩ hbl).trans x2⟩
    have hj0 : (0 : Int)≤(j : Int):=by omega
    have hj1 : (j : Int) < (dn : Int):=by omega
    clear hrd hr hg
    go_wp2_with fail
    go_region_held3 (fun w'=>w'.cell? ⟨w.heap.size,3,none⟩=some (.slice (some ⟨b,off,none⟩) dn DC)∧w'.cell? ⟨b,off+j*2,none⟩=some (.int .i64 r1)∧w'.cell? ⟨b,off+j*2+1,none⟩=some (.int .i64 r2))
     (first | exact ⟨c3,x1,x2⟩ | exact KS _ | exact q2 | go_keep)
     ((go_at_call 122;refine NS.mono ?_;rintro e w3 ⟨v3,rfl,hA3,hk3⟩;have HB3 : Hid (Blk w3 w.heap.size 82 #[.int .i64 a,.int .i64 s,.int .i64 st,.slice (some ⟨b,off,none⟩) dn DC,.slice OA m OC]):=Lib.hid (hk3 _ _ _ (by exact HBC.out) (by decide));have q2:=And.intro (show w3.cell? ⟨w.heap.size,3,none⟩=some (.slice (some ⟨b,off,none⟩) dn DC) from HB3.out.cell 3) (hcs w3 (hA3.2.block b hb))))
    all_goals
     have HA3:=Lib.hid hA3
     clear hA3 hk3 q2 KS NS x1 x2 c0 c1 c2 c3 c4 hcs
     go_wp2_with fail
     first
      | exact ⟨⟨j+1,by omega,by go_num,by rw [HT.out];exact HA3,HB3⟩,by simp [intOf];omega⟩
      | (go_roundw
         case rel=>exact ⟨j+1,by omega,by go_num,by rw [HT.out];exact HA3,HB3⟩
         case measure=>simp [intOf];omega)
  · have hjn : j=dn:=by omega
    have HF : Hid (numsL [a,s,st,(dn : Int)]++(deps.take j).flatMap pairB=numsL [a,s,st,(dn : Int)]++deps.flatMap pairB):=by
     show _=_
     rw [List.take_of_length_le (by rw [HDN.out];omega)]
    rw [HF.out] at HA hal
    have HFE : Hid (encL a s st deps ops=(numsL [a,s,st,(dn : Int)]++deps.flatMap pairB)++numsL [(m : Int)]++ops.flatMap opB):=by
     show _=_
     rw [encL,HDN.out,HM.out]
    generalize numsL [a,s,st,(dn : Int)]++deps.flatMap pairB=acc at HA hal HFE
    clear hjn HF
    have NS:=nums_step HA.out [(m : Int)] 1 #[.int .i64 (m : Int)] rfl rfl (by omega) (by omega)
     (by simp only [List.mem_cons,List.not_mem_nil,or_false];rintro x rfl;exact ⟨by omega,by omega⟩) wr.heap.size rfl
    go_wp2_with fail
    go_at_call 122
    refine NS.mono ?_
    rintro e w2 ⟨v2,rfl,hA2,hk2⟩
    replace HBC:=Lib.hid (hk2 _ _ _ HBC.out (by decide))
    have HA2 : Hid (Acc w w2 v2 (acc++numsL [(m : Int)]++(ops.take 0).flatMap opB)):=by show Acc _ _ _ _;simpa using hA2
    have HAL : Hid ((acc++numsL [(m : Int)]).length≤400):=by
     have h1:=numsL_le (l:=[(m : Int)]) (n:=1) rfl
     show _≤_
     simp only [List.length_append]
     omega
    generalize acc++numsL [(m : Int)]=acc1 at HA2 HAL HFE
    clear NS hA2 hk2 HA hal c0 c1 c2 c3 c4
    go_wp2_with fail
    go_loopw [3,5] (fun v i wr=>∃ j : Nat,j≤m∧i=.int .i64 j∧Hid (Acc w wr v (acc1++(ops.take j).flatMap opB))∧Hid (Blk wr w.heap.size 82 #[.int .i64 a,.int .i64 s,.int .i64 st,.slice DA dn DC,.slice OA m OC])) (fun _ i _=>m - (intOf i).toNat)
    case atStart=>exact ⟨0,by omega,rfl,HA2,HBC⟩
    case round =>
     clear HA2 HBC
     obtain ⟨j,hj,rfl,HA,HBC⟩:=hrel
     have c0 : wr.cell? ⟨w.heap.size,0,none⟩=some (.int .i64 a):=HBC.out.cell 0
     have c1 : wr.cell? ⟨w.heap.size,1,none⟩=some (.int .i64 s):=HBC.out.cell 1
     have c2 : wr.cell? ⟨w.heap.size,2,none⟩=some (.int .i64 st):=HBC.out.cell 2
     have c3 : wr.cell? ⟨w.heap.size,3,none⟩=some (.slice DA dn DC):=HBC.out.cell 3
     have c4 : wr.cell? ⟨w.heap.size,4,none⟩=some (.slice OA m OC):=HBC.out.cell 4
     by_cases hlt : j < m
     · obtain ⟨o,ho⟩ : ∃ o,ops[j]?=some o:=get_lt (by rw [HM.out];exact hlt)
       have hmem:=List.mem_of_getElem? ho
       have hgo:=HG.out.o o hmem
       have hpo:=HC.out.hp o hmem
       have hrd:=HC.out.ho
       rw [HM.out] at hrd
       obtain ⟨b,off,hOA,hb,hcs⟩:=op_cells hrd (by omega) ho
       subst hOA
       have hcw:=hcs wr (HA.out.2.block b hb)
       have HT : Hid (acc1++(ops.take (j+1)).flatMap opB=(acc1++(ops.take j).flatMap opB)++opB o):=by
        show _=_
        rw [take_op ho,List.append_assoc]
       have hal : (acc1++(ops.take j).flatMap opB).length≤21000:=by
        have h1:=ops_len (ops.take j) fun o ho=>HG.out.o o (List.mem_of_mem_take ho)
        have h2:=HAL.out
        simp only [List.length_append,List.length_take] at h1 ⊢
        omega
       generalize acc1++(ops.take j).flatMap opB=acc at HA HT hal
       obtain ⟨k,on,oa,key,en,ea,ins,vk,vn,vt,va,vb,PA,pc,l⟩:=o
       obtain ⟨gk,gon,goa,gkey,gen,gea,gvk,gvn,gvt,gll,gl⟩:=hgo
       dsimp only at gk gon goa gkey gen gea gvk gvn gvt gll gl hpo hcw
       obtain ⟨y0,y1,y2,y3,y4,y5,y6,y7,y8,y9,y10,y11,y12⟩:=hcw
       obtain ⟨ol,hol⟩ : ∃ ol,l.length=ol:=⟨_,rfl⟩
       rw [hol] at y12 hpo gll
       have HOL:=Lib.hid hol
       have HLR:=Lib.hid hpo.1
       have HGL:=Lib.hid gl
       have HVN:=Lib.hid gvn
       have HTB : Hid (opB ⟨k,on,oa,key,en,ea,ins,vk,vn,vt,va,vb,PA,pc,l⟩=numsL [k,on,oa,(key.size : Int)]++key.data.toList++numsL [en,ea,inI ins,vk]++putS vn++numsL [(vt.size : Int)]++vt.data.toList++numsL [(ol : Int)]++l.flatMap pairB):=by
        show _=_
        simp only [opB,hol]
       rw [HTB.out] at HT
       replace HT : Hid _:=(by have h:=HT.out;simp only [← List.append_assoc] at h;exact h)
       have hj0 : (0 : Int)≤(j : Int):=by omega
       have hj1 : (j : Int) < (m : Int):=by omega
       have h12 : ol≤12:=gll
       clear HTB hcs hrd hmem ho hpo hol gl gvn gll
       have HBO:=Lib.hid (Blk.new wr 88 #[.int .i64 k,.int .i64 on,.int .i64 oa,.string key,.int .i64 en,.int .i64 ea,.bool ins,.int .i64 vk,.int .i64 vn,.string vt,.int .i64 va,.int .i64 vb,.slice PA ol pc])
       replace HBC:=Lib.hid (HBC.out.alloc (.cells #[.int .i64 k,.int .i64 on,.int .i64 oa,.string key,.int .i64 en,.int .i64 ea,.bool ins,.int .i64 vk,.int .i64 vn,.string vt,.int .i64 va,.int .i64 vb,.slice PA ol pc] 88))
       replace HA : Hid (Acc w (wr.alloc (.cells #[.int .i64 k,.int .i64 on,.int .i64 oa,.string key,.int .i64 en,.int .i64 ea,.bool ins,.int .i64 vk,.int .i64 vn,.string vt,.int .i64 va,.int .i64 vb,.slice PA ol pc] 88)) u3 acc):=HA.out.alloc _
       have NS:=nums_step HA.out [k,on,oa,(key.size : Int)] 4 #[.int .i64 k,.int .i64 on,.int .i64 oa,.int .i64 (key.size : Int)] rfl rfl (by omega) (by omega) (by simp only [List.mem_cons,List.not_mem_nil,or_false];rintro x (rfl | rfl | rfl | rfl);exact gk;exact gon;exact goa;exact nat_of (by omega)) (wr.heap.size+1) (by simp)
       go_wp2_with fail
       go_at_call 122
       refine NS.mono ?_
       rintro e w3 ⟨v3,rfl,hA,hk⟩
       clear NS HA
       have HA:=Lib.hid hA
       clear hA
       have hl3 : (acc++numsL [k,on,oa,(key.size : Int)]).length≤21040:=by
        have h1:=numsL_le (l:=[k,on,oa,(key.size : Int)]) (n:=4) rfl
        simp only [List.length_append];omega
       generalize acc++numsL [k,on,oa,(key.size : Int)]=acc3 at HA HT hl3
       clear c0 c1 c2 c3 c4 y0 y1 y2 y3 y4 y5 y6 y7 y8 y9 y10 y11 y12
       replace HBC:=Lib.hid (hk _ _ _ HBC.out (by decide))
       replace HBO:=Lib.hid (hk _ _ _ HBO.out (by decide))
       clear hk
       try clear e0 e1 e2 e3 e4 e5 e6 e7 e8 e9 e10 e11 e12
       obtain ⟨e0,e1,e2,e3,e4,e5,e6,e7,e8,e9,e10,e11,e12⟩:=blk13 HBO.out
       obtain ⟨A3,C3,hv⟩:=HA.out.form
       subst hv
       go_wp2_with (at_builtin;refine wpList_app rfl (.tmp 74) (.tmp 76) 141 9 rfl (.slice A3 acc3.length C3) (.string key) rfl rfl _ (text_step _ HA.out rfl key (by omega) (by omega)) ?_)
       intro v4 w4 hA hk
       clear HA
       have HA:=Lib.hid hA
       clear hA
       have hl4 : (acc3++key.data.toList).length≤21060:=by
        have h1 : key.data.toList.length=key.size:=by rw [ByteArray.size,Array.length_toList]
        simp only [List.length_append];omega
       generalize acc3++key.data.toList=acc4 at HA HT hl4
       replace HBC:=Lib.hid (hk _ _ _ HBC.out (by decide))
       replace HBO:=Lib.hid (hk _ _ _ HBO.out (by decide))
       clear hk
       try clear e0 e1 e2 e3 e4 e5 e6 e7 e8 e9 e10 e11 e12
       obtain ⟨e0,e1,e2,e3,e4,e5,e6,e7,e8,e9,e10,e11,e12⟩:=blk13 HBO.out
       cases ins
       · skip
         replace HT : Hid _:=(by have h:=HT.out;rw [show inI false=(0 : Int) from rfl] at h;exact h)
         have NS:=nums_step HA.out [en,ea,(0 : Int),vk] 4 #[.int .i64 en,.int .i64 ea,.int .i64 0,.int .i64 vk] rfl rfl (by omega) (by omega) (by simp only [List.mem_cons,List.not_mem_nil,or_false];rintro x (rfl | rfl | rfl | rfl);exact gen;exact gea;exact ⟨by decide,by decide⟩;exact gvk) _ rfl
         go_wp2_with fail
         go_at_call 122
         refine NS.mono ?_
         rintro e w5 ⟨v5,rfl,hA,hk⟩
         clear NS HA
         have HA:=Lib.hid hA
         clear hA
         have hl5 : (acc4++numsL [en,ea,(0 : Int),vk]).length≤21100:=by
          have h1:=numsL_le (l:=[en,ea,(0 : Int),vk]) (n:=4) rfl
          simp only [List.length_append];omega
         generalize acc4++numsL [en,ea,(0 : Int),vk]=acc5 at HA HT hl5
         replace HBC:=Lib.hid (hk _ _ _ HBC.out (by decide))
         replace HBO:=Lib.hid (hk _ _ _ HBO.out (by decide))
         clear hk
         try clear e0 e1 e2 e3 e4 e5 e6 e7 e8 e9 e10 e11 e12
         obtain ⟨e0,e1,e2,e3,e4,e5,e6,e7,e8,e9,e10,e11,e12⟩:=blk13 HBO.out
         go_wp2_with fail
         go_at_call 123
         refine (putSR_any vn HVN.out _).mono ?_
         rintro e w6 ⟨vS,rfl,hoS,hbS⟩
         obtain ⟨AS,CS,hvS,_,_,hrS⟩:=Reads.of_own hoS
         subst hvS
         have hk:=Kept.of_below hbS
         have HRS:=Lib.hid hrS
         have hps : (putS vn).length≤10:=(putN_length (zz vn)).2
         replace HA:=Lib.hid (HA.out.below hbS)
         clear hbS hoS hrS
         replace HBC:=Lib.hid (hk _ _ _ HBC.out (by decide))
         replace HBO:=Lib.hid (hk _ _ _ HBO.out (by decide))
         clear hk
         try clear e0 e1 e2 e3 e4 e5 e6 e7 e8 e9 e10 e11 e12
         obtain ⟨e0,e1,e2,e3,e4,e5,e6,e7,e8,e9,e10,e11,e12⟩:=blk13 HBO.out
         go_wp2_with (at_builtin;refine wpList_app rfl (.tmp 93) (.tmp 97) 141 141 rfl v5 (.slice AS (putS vn).length CS) rfl rfl _ (bytes_step _ HA.out _ AS (putS vn).length CS (putS vn) HRS.out rfl (by omega) (by omega)) ?_)
         intro v7 w7 hA hk
         clear HA HRS
         have HA:=Lib.hid hA
         clear hA
         have hl7 : (acc5++putS vn).length≤21110:=by simp only [List.length_append];omega
         generalize acc5++putS vn=acc7 at HA HT hl7
         replace HBC:=Lib.hid (hk _ _ _ HBC.out (by decide))
         replace HBO:=Lib.hid (hk _ _ _ HBO.out (by decide))
         clear hk
         try clear e0 e1 e2 e3 e4 e5 e6 e7 e8 e9 e10 e11 e12
         obtain ⟨e0,e1,e2,e3,e4,e5,e6,e7,e8,e9,e10,e11,e12⟩:=blk13 HBO.out
         have NS:=nums_step HA.out [(vt.size : Int)] 1 #[.int .i64 (vt.size : Int)] rfl rfl (by omega) (by omega) (by simp only [List.mem_cons,List.not_mem_nil,or_false];rintro x rfl;exact nat_of (by omega)) _ rfl
         go_wp2_with fail
         go_at_call 122
         refine NS.mono ?_
         rintro e w8 ⟨v8,rfl,hA,hk⟩
         clear NS HA
         have HA:=Lib.hid hA
         clear hA
         have hl8 : (acc7++numsL [(vt.size : Int)]).length≤21120:=by
          have h1:=numsL_le (l:=[(vt.size : Int)]) (n:=1) rfl
          simp only [List.length_append];omega
         generalize acc7++numsL [(vt.size : Int)]=acc8 at HA HT hl8
         replace HBC:=Lib.hid (hk _ _ _ HBC.out (by decide))
         replace HBO:=Lib.hid (hk _ _ _ HBO.out (by decide))
         clear hk
         try clear e0 e1 e2 e3 e4 e5 e6 e7 e8 e9 e10 e11 e12
         obtain ⟨e0,e1,e2,e3,e4,e5,e6,e7,e8,e9,e10,e11,e12⟩:=blk13 HBO.out
         obtain ⟨A8,C8,hv⟩:=HA.out.form
         subst hv
         go_wp2_with (at_builtin;refine wpList_app rfl (.tmp 106) (.tmp 109) 141 9 rfl (.slice A8 acc8.length C8) (.string vt) rfl rfl _ (text_step _ HA.out rfl vt (by omega) (by omega)) ?_)
         intro v9 w9 hA hk
         clear HA
         have HA:=Lib.hid hA
         clear hA
         have hl9 : (acc8++vt.data.toList).length≤21180:=by
          have h1 : vt.data.toList.length=vt.size:=by rw [ByteArray.size,Array.length_toList]
          simp only [List.length_append];omega
         generalize acc8++vt.data.toList=acc9 at HA HT hl9
         replace HBC:=Lib.hid (hk _ _ _ HBC.out (by decide))
         replace HBO:=Lib.hid (hk _ _ _ HBO.out (by decide))
         clear hk
         try clear e0 e1 e2 e3 e4 e5 e6 e7 e8 e9 e10 e11 e12
         obtain ⟨e0,e1,e2,e3,e4,e5,e6,e7,e8,e9,e10,e11,e12⟩:=blk13 HBO.out
         have NS:=nums_step HA.out [(ol : Int)] 1 #[.int .i64 (ol : Int)] rfl rfl (by omega) (by omega) (by simp only [List.mem_cons,List.not_mem_nil,or_false];rintro x rfl;exact nat_of (by omega)) _ rfl
         go_wp2_with fail
         go_at_call 122
         refine NS.mono ?_
         rintro e w10 ⟨v10,rfl,hA,hk⟩
         clear NS HA
         have HA:=Lib.hid hA
         clear hA
         have hl10 : (acc9++numsL [(ol : Int)]).length≤21190:=by
          have h1:=numsL_le (l:=[(ol : Int)]) (n:=1) rfl
          simp only [List.length_append];omega
         generalize acc9++numsL [(ol : Int)]=acc10 at HA HT hl10
         replace HBC:=Lib.hid (hk _ _ _ HBC.out (by decide))
         replace HBO:=Lib.hid (hk _ _ _ HBO.out (by decide))
         clear hk
         try clear e0 e1 e2 e3 e4 e5 e6 e7 e8 e9 e10 e11 e12
         obtain ⟨e0,e1,e2,e3,e4,e5,e6,e7,e8,e9,e10,e11,e12⟩:=blk13 HBO.out
         have HA10 : Hid (Acc w w10 v10 (acc10++(l.take 0).flatMap pairB)):=by show Acc _ _ _ _;simpa using HA.out
         go_wp2_with fail
         clear HA e0 e1 e2 e3 e4 e5 e6 e7 e8 e9 e10 e11 e12
         generalize hB0 : wr.heap.size=B0 at HBO ⊢
         go_loopw [3,8] (fun v i wr=>∃ q : Nat,q≤ol∧i=.int .i64 q∧Hid (Acc w wr v (acc10++(l.take q).flatMap pairB))∧Hid (Blk wr w.heap.size 82 #[.int .i64 a,.int .i64 s,.int .i64 st,.slice DA dn DC,.slice (some ⟨b,off,none⟩) m OC])∧Hid (Blk wr B0 88 #[.int .i64 k,.int .i64 on,.int .i64 oa,.string key,.int .i64 en,.int .i64 ea,.bool false,.int .i64 vk,.int .i64 vn,.string vt,.int .i64 va,.int .i64 vb,.slice PA ol pc])) (fun _ i _=>ol - (intOf i).toNat)
         case atStart=>exact ⟨0,by omega,rfl,HA10,HBC,HBO⟩
         case round =>
          clear HA10 HBC HBO
          obtain ⟨q,hq,rfl,HA,HBC,HBO⟩:=hrel
          obtain ⟨e0,e1,e2,e3,e4,e5,e6,e7,e8,e9,e10,e11,e12⟩:=blk13 HBO.out
          by_cases hql : q < ol
          · obtain ⟨r,hr⟩ : ∃ r,l[q]?=some r:=get_lt (by rw [HOL.out];exact hql)
            obtain ⟨r1,r2⟩:=r
            obtain ⟨pb,poff,hPA,hpb,hps2⟩:=refC_cells HLR.out (by omega) hr
            subst hPA
            have hg:=HGL.out _ (List.mem_of_getElem? hr)
            have HTp : Hid (acc10++(l.take (q+1)).flatMap pairB=(acc10++(l.take q).flatMap pairB)++numsL [r1,r2]):=by
             show _=_
             rw [take_pair hr,List.append_assoc];rfl
            have hlq : (acc10++(l.take q).flatMap pairB).length≤22000:=by
             have h2:=pairs_len (l.take q)
             simp only [List.length_append,List.length_take] at h2 ⊢
             omega
            generalize acc10++(l.take q).flatMap pairB=accq at HA HTp hlq
            have NS:=nums_step HA.out.drew [r1,r2] 2 #[.int .i64 r1,.int .i64 r2] rfl rfl (by omega) (by omega)
             (by simp only [List.mem_cons,List.not_mem_nil,or_false];rintro x (rfl | rfl);exact hg.1;exact hg.2) wr.heap.size rfl
            obtain ⟨x1,x2⟩:=hps2 wr (HA.out.2.block pb hpb)
            have hpl : pb < wr.heap.size:=Nat.lt_of_lt_of_le hpb HA.out.2.size
            have hgl2:=HBO.out.lt
            have KS : ∀ o,(wr.alloc o).cell? ⟨B0,12,none⟩=some (.slice (some ⟨pb,poff,none⟩) ol pc)∧(wr.alloc o).cell? ⟨pb,poff+q*2,none⟩=some (.int .i64 r1)∧(wr.alloc o).cell? ⟨pb,poff+q*2+1,none⟩=some (.int .i64 r2):=fun o =>
             ⟨(World.cell?_alloc_lt _ _ ⟨B0,12,none⟩ hgl2).trans e12,(World.cell?_alloc_lt _ _ ⟨pb,poff+q*2,none⟩ hpl).trans x1,(World.cell?_alloc_lt _ _ ⟨pb,poff+q*2+1,none⟩ hpl).trans x2⟩
            have hq0 : (0 : Int)≤(q : Int):=by omega
            have hq1 : (q : Int) < (ol : Int):=by omega
            clear hr hg e0 e1 e2 e3 e4 e5 e6 e7 e8 e9 e10 e11
            go_wp2_with fail
            go_region_held3 (fun w'=>w'.cell? ⟨B0,12,none⟩=some (.slice (some ⟨pb,poff,none⟩) ol pc)∧w'.cell? ⟨pb,poff+q*2,none⟩=some (.int .i64 r1)∧w'.cell? ⟨pb,poff+q*2+1,none⟩=some (.int .i64 r2))
             (first | exact ⟨e12,x1,x2⟩ | exact KS _ | exact q2 | go_keep)
             ((go_at_call 122;refine NS.mono ?_;rintro e w3 ⟨v3,rfl,hA3,hk3⟩;have HB3:=Lib.hid (hk3 _ _ _ (by exact HBC.out) (by decide));have HB4:=Lib.hid (hk3 _ _ _ (by exact HBO.out) (by decide));have q2:=And.intro (show w3.cell? ⟨B0,12,none⟩=some (.slice (some ⟨pb,poff,none⟩) ol pc) from HB4.out.cell 12) (hps2 w3 (hA3.2.block pb hpb))))
            all_goals
             have HA3:=Lib.hid hA3
             clear hA3 hk3 q2 KS NS x1 x2 e12 hps2
             go_wp2_with fail
             first
              | exact ⟨⟨q+1,by omega,by go_num,by rw [HTp.out];exact HA3,HB3,HB4⟩,by simp [intOf];omega⟩
              | (go_roundw
                 case rel=>exact ⟨q+1,by omega,by go_num,by rw [HTp.out];exact HA3,HB3,HB4⟩
                 case measure=>simp [intOf];omega)
          · have hqo : q=ol:=by omega
            have HF : Hid (acc10++(l.take q).flatMap pairB=acc1++(ops.take (j+1)).flatMap opB):=by
             show _=_
             rw [HT.out,List.take_of_length_le (by rw [HOL.out];omega)]
            clear hqo e0 e1 e2 e3 e4 e5 e6 e7 e8 e9 e10 e11
            go_wp2_with fail
            first
             | exact ⟨⟨j+1,by omega,by go_num,by rw [← HF.out];exact HA,HBC⟩,by simp [intOf];omega⟩
             | (go_roundw
                case rel=>exact ⟨j+1,by omega,by go_num,by rw [← HF.out];exact HA,HBC⟩
                case measure=>simp [intOf];omega)
       · skip
         replace HT : Hid _:=(by have h:=HT.out;rw [show inI true=(1 : Int) from rfl] at h;exact h)
         have NS:=nums_step HA.out [en,ea,(1 : Int),vk] 4 #[.int .i64 en,.int .i64 ea,.int .i64 1,.int .i64 vk] rfl rfl (by omega) (by omega) (by simp only [List.mem_cons,List.not_mem_nil,or_false];rintro x (rfl | rfl | rfl | rfl);exact gen;exact gea;exact ⟨by decide,by decide⟩;exact gvk) _ rfl
         go_wp2_with fail
         go_at_call 122
         refine NS.mono ?_
         rintro e w5 ⟨v5,rfl,hA,hk⟩
         clear NS HA
         have HA:=Lib.hid hA
         clear hA
         have hl5 : (acc4++numsL [en,ea,(1 : Int),vk]).length≤21100:=by
          have h1:=numsL_le (l:=[en,ea,(1 : Int),vk]) (n:=4) rfl
          simp only [List.length_append];omega
         generalize acc4++numsL [en,ea,(1 : Int),vk]=acc5 at HA HT hl5
         replace HBC:=Lib.hid (hk _ _ _ HBC.out (by decide))
         replace HBO:=Lib.hid (hk _ _ _ HBO.out (by decide))
         clear hk
         try clear e0 e1 e2 e3 e4 e5 e6 e7 e8 e9 e10 e11 e12
         obtain ⟨e0,e1,e2,e3,e4,e5,e6,e7,e8,e9,e10,e11,e12⟩:=blk13 HBO.out
         go_wp2_with fail
         go_at_call 123
         refine (putSR_any vn HVN.out _).mono ?_
         rintro e w6 ⟨vS,rfl,hoS,hbS⟩
         obtain ⟨AS,CS,hvS,_,_,hrS⟩:=Reads.of_own hoS
         subst hvS
         have hk:=Kept.of_below hbS
         have HRS:=Lib.hid hrS
         have hps : (putS vn).length≤10:=(putN_length (zz vn)).2
         replace HA:=Lib.hid (HA.out.below hbS)
         clear hbS hoS hrS
         replace HBC:=Lib.hid (hk _ _ _ HBC.out (by decide))
         replace HBO:=Lib.hid (hk _ _ _ HBO.out (by decide))
         clear hk
         try clear e0 e1 e2 e3 e4 e5 e6 e7 e8 e9 e10 e11 e12
         obtain ⟨e0,e1,e2,e3,e4,e5,e6,e7,e8,e9,e10,e11,e12⟩:=blk13 HBO.out
         go_wp2_with (at_builtin;refine wpList_app rfl (.tmp 93) (.tmp 97) 141 141 rfl v5 (.slice AS (putS vn).length CS) rfl rfl _ (bytes_step _ HA.out _ AS (putS vn).length CS (putS vn) HRS.out rfl (by omega) (by omega)) ?_)
         intro v7 w7 hA hk
         clear HA HRS
         have HA:=Lib.hid hA
         clear hA
         have hl7 : (acc5++putS vn).length≤21110:=by simp only [List.length_append];omega
         generalize acc5++putS vn=acc7 at HA HT hl7
         replace HBC:=Lib.hid (hk _ _ _ HBC.out (by decide))
         replace HBO:=Lib.hid (hk _ _ _ HBO.out (by decide))
         clear hk
         try clear e0 e1 e2 e3 e4 e5 e6 e7 e8 e9 e10 e11 e12
         obtain ⟨e0,e1,e2,e3,e4,e5,e6,e7,e8,e9,e10,e11,e12⟩:=blk13 HBO.out
         have NS:=nums_step HA.out [(vt.size : Int)] 1 #[.int .i64 (vt.size : Int)] rfl rfl (by omega) (by omega) (by simp only [List.mem_cons,List.not_mem_nil,or_false];rintro x rfl;exact nat_of (by omega)) _ rfl
         go_wp2_with fail
         go_at_call 122
         refine NS.mono ?_
         rintro e w8 ⟨v8,rfl,hA,hk⟩
         clear NS HA
         have HA:=Lib.hid hA
         clear hA
         have hl8 : (acc7++numsL [(vt.size : Int)]).length≤21120:=by
          have h1:=numsL_le (l:=[(vt.size : Int)]) (n:=1) rfl
          simp only [List.length_append];omega
         generalize acc7++numsL [(vt.size : Int)]=acc8 at HA HT hl8
         replace HBC:=Lib.hid (hk _ _ _ HBC.out (by decide))
         replace HBO:=Lib.hid (hk _ _ _ HBO.out (by decide))
         clear hk
         try clear e0 e1 e2 e3 e4 e5 e6 e7 e8 e9 e10 e11 e12
         obtain ⟨e0,e1,e2,e3,e4,e5,e6,e7,e8,e9,e10,e11,e12⟩:=blk13 HBO.out
         obtain ⟨A8,C8,hv⟩:=HA.out.form
         subst hv
         go_wp2_with (at_builtin;refine wpList_app rfl (.tmp 106) (.tmp 109) 141 9 rfl (.slice A8 acc8.length C8) (.string vt) rfl rfl _ (text_step _ HA.out rfl vt (by omega) (by omega)) ?_)
         intro v9 w9 hA hk
         clear HA
         have HA:=Lib.hid hA
         clear hA
         have hl9 : (acc8++vt.data.toList).length≤21180:=by
          have h1 : vt.data.toList.length=vt.size:=by rw [ByteArray.size,Array.length_toList]
          simp only [List.length_append];omega
         generalize acc8++vt.data.toList=acc9 at HA HT hl9
         replace HBC:=Lib.hid (hk _ _ _ HBC.out (by decide))
         replace HBO:=Lib.hid (hk _ _ _ HBO.out (by decide))
         clear hk
         try clear e0 e1 e2 e3 e4 e5 e6 e7 e8 e9 e10 e11 e12
         obtain ⟨e0,e1,e2,e3,e4,e5,e6,e7,e8,e9,e10,e11,e12⟩:=blk13 HBO.out
         have NS:=nums_step HA.out [(ol : Int)] 1 #[.int .i64 (ol : Int)] rfl rfl (by omega) (by omega) (by simp only [List.mem_cons,List.not_mem_nil,or_false];rintro x rfl;exact nat_of (by omega)) _ rfl
         go_wp2_with fail
         go_at_call 122
         refine NS.mono ?_
         rintro e w10 ⟨v10,rfl,hA,hk⟩
         clear NS HA
         have HA:=Lib.hid hA
         clear hA
         have hl10 : (acc9++numsL [(ol : Int)]).length≤21190:=by
          have h1:=numsL_le (l:=[(ol : Int)]) (n:=1) rfl
          simp only [List.length_append];omega
         generalize acc9++numsL [(ol : Int)]=acc10 at HA HT hl10
         replace HBC:=Lib.hid (hk _ _ _ HBC.out (by decide))
         replace HBO:=Lib.hid (hk _ _ _ HBO.out (by decide))
         clear hk
         try clear e0 e1 e2 e3 e4 e5 e6 e7 e8 e9 e10 e11 e12
         obtain ⟨e0,e1,e2,e3,e4,e5,e6,e7,e8,e9,e10,e11,e12⟩:=blk13 HBO.out
         have HA10 : Hid (Acc w w10 v10 (acc10++(l.take 0).flatMap pairB)):=by show Acc _ _ _ _;simpa using HA.out
         go_wp2_with fail
         clear HA e0 e1 e2 e3 e4 e5 e6 e7 e8 e9 e10 e11 e12
         generalize hB0 : wr.heap.size=B0 at HBO ⊢
         go_loopw [3,8] (fun v i wr=>∃ q : Nat,q≤ol∧i=.int .i64 q∧Hid (Acc w wr v (acc10++(l.take q).flatMap pairB))∧Hid (Blk wr w.heap.size 82 #[.int .i64 a,.int .i64 s,.int .i64 st,.slice DA dn DC,.slice (some ⟨b,off,none⟩) m OC])∧Hid (Blk wr B0 88 #[.int .i64 k,.int .i64 on,.int .i64 oa,.string key,.int .i64 en,.int .i64 ea,.bool true,.int .i64 vk,.int .i64 vn,.string vt,.int .i64 va,.int .i64 vb,.slice PA ol pc])) (fun _ i _=>ol - (intOf i).toNat)
         case atStart=>exact ⟨0,by omega,rfl,HA10,HBC,HBO⟩
         case round =>
          clear HA10 HBC HBO
          obtain ⟨q,hq,rfl,HA,HBC,HBO⟩:=hrel
          obtain ⟨e0,e1,e2,e3,e4,e5,e6,e7,e8,e9,e10,e11,e12⟩:=blk13 HBO.out
          by_cases hql : q < ol
          · obtain ⟨r,hr⟩ : ∃ r,l[q]?=some r:=get_lt (by rw [HOL.out];exact hql)
            obtain ⟨r1,r2⟩:=r
            obtain ⟨pb,poff,hPA,hpb,hps2⟩:=refC_cells HLR.out (by omega) hr
            subst hPA
            have hg:=HGL.out _ (List.mem_of_getElem? hr)
            have HTp : Hid (acc10++(l.take (q+1)).flatMap pairB=(acc10++(l.take q).flatMap pairB)++numsL [r1,r2]):=by
             show _=_
             rw [take_pair hr,List.append_assoc];rfl
            have hlq : (acc10++(l.take q).flatMap pairB).length≤22000:=by
             have h2:=pairs_len (l.take q)
             simp only [List.length_append,List.length_take] at h2 ⊢
             omega
            generalize acc10++(l.take q).flatMap pairB=accq at HA HTp hlq
            have NS:=nums_step HA.out.drew [r1,r2] 2 #[.int .i64 r1,.int .i64 r2] rfl rfl (by omega) (by omega)
             (by simp only [List.mem_cons,List.not_mem_nil,or_false];rintro x (rfl | rfl);exact hg.1;exact hg.2) wr.heap.size rfl
            obtain ⟨x1,x2⟩:=hps2 wr (HA.out.2.block pb hpb)
            have hpl : pb < wr.heap.size:=Nat.lt_of_lt_of_le hpb HA.out.2.size
            have hgl2:=HBO.out.lt
            have KS : ∀ o,(wr.alloc o).cell? ⟨B0,12,none⟩=some (.slice (some ⟨pb,poff,none⟩) ol pc)∧(wr.alloc o).cell? ⟨pb,poff+q*2,none⟩=some (.int .i64 r1)∧(wr.alloc o).cell? ⟨pb,poff+q*2+1,none⟩=some (.int .i64 r2):=fun o =>
             ⟨(World.cell?_alloc_lt _ _ ⟨B0,12,none⟩ hgl2).trans e12,(World.cell?_alloc_lt _ _ ⟨pb,poff+q*2,none⟩ hpl).trans x1,(World.cell?_alloc_lt _ _ ⟨pb,poff+q*2+1,none⟩ hpl).trans x2⟩
            have hq0 : (0 : Int)≤(q : Int):=by omega
            have hq1 : (q : Int) < (ol : Int):=by omega
            clear hr hg e0 e1 e2 e3 e4 e5 e6 e7 e8 e9 e10 e11
            go_wp2_with fail
            go_region_held3 (fun w'=>w'.cell? ⟨B0,12,none⟩=some (.slice (some ⟨pb,poff,none⟩) ol pc)∧w'.cell? ⟨pb,poff+q*2,none⟩=some (.int .i64 r1)∧w'.cell? ⟨pb,poff+q*2+1,none⟩=some (.int .i64 r2))
             (first | exact ⟨e12,x1,x2⟩ | exact KS _ | exact q2 | go_keep)
             ((go_at_call 122;refine NS.mono ?_;rintro e w3 ⟨v3,rfl,hA3,hk3⟩;have HB3:=Lib.hid (hk3 _ _ _ (by exact HBC.out) (by decide));have HB4:=Lib.hid (hk3 _ _ _ (by exact HBO.out) (by decide));have q2:=And.intro (show w3.cell? ⟨B0,12,none⟩=some (.slice (some ⟨pb,poff,none⟩) ol pc) from HB4.out.cell 12) (hps2 w3 (hA3.2.block pb hpb))))
            all_goals
             have HA3:=Lib.hid hA3
             clear hA3 hk3 q2 KS NS x1 x2 e12 hps2
             go_wp2_with fail
             first
              | exact ⟨⟨q+1,by omega,by go_num,by rw [HTp.out];exact HA3,HB3,HB4⟩,by simp [intOf];omega⟩
              | (go_roundw
                 case rel=>exact ⟨q+1,by omega,by go_num,by rw [HTp.out];exact HA3,HB3,HB4⟩
                 case measure=>simp [intOf];omega)
          · have hqo : q=ol:=by omega
            have HF : Hid (acc10++(l.take q).flatMap pairB=acc1++(ops.take (j+1)).flatMap opB):=by
             show _=_
             rw [HT.out,List.take_of_length_le (by rw [HOL.out];omega)]
            clear hqo e0 e1 e2 e3 e4 e5 e6 e7 e8 e9 e10 e11
            go_wp2_with fail
            first
             | exact ⟨⟨j+1,by omega,by go_num,by rw [← HF.out];exact HA,HBC⟩,by simp [intOf];omega⟩
             | (go_roundw
                case rel=>exact ⟨j+1,by omega,by go_num,by rw [← HF.out];exact HA,HBC⟩
                case measure=>simp [intOf];omega)
     · have hjm : j=m:=by omega
       have HF : Hid (encL a s st deps ops=acc1++(ops.take j).flatMap opB):=by
        show _=_
        rw [HFE.out,List.take_of_length_le (by rw [HM.out];omega)]
       clear hjm
       go_wp2_with fail
       go_ret
       exact ⟨_,rfl,by rw [HF.out];exact HA.out⟩
end Go.Proofs.YtmpkejflgpodkaaGreatDoor
