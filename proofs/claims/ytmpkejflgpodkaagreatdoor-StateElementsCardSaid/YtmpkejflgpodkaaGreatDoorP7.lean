/- Contracts: change.op: what is wrong with an op. -/
import Derived.Test.YtmpkejflgpodkaaGreatDoorP6
set_option linter.unusedVariables false
set_option linter.unusedSimpArgs false
namespace Go.Proofs.YtmpkejflgpodkaaGreatDoor
open Go.ChangeShapes Go.WideShapes Go.ChangeAt Go.RowKit
def kindB (k vk va vb : Int) : Bool :=
 if k=1 then !objectB vk else if k=2 then objectB vk && rootB va vb else if k=3 then vk == 0 else vk == 2
def tailE (k : Int) (kn root ins pe v kb : Bool) : Nat :=
 if (kn == (!root || ins)) || (ins && (decide (2 < k) || pe)) then 3
 else if v=false then 1 else if kb=false then 1 else if decide (2 < k) && !pe then 3 else 0
def opE (k on oa : Int) (key : ByteArray) (en ea : Int) (ins : Bool) (vk vn : Int) (vt : ByteArray) (va vb : Int) (l : List Rf) : Nat :=
 if k < 1∨4 < k∨idB on oa=false∨idB en ea=false then 1
 else if l.all (fun r=>realB r.1 r.2)=false then 1
 else if 20 < key.size then 4
 else if idsE l≠0 then idsE l
 else tailE k (!key.toList.isEmpty) (rootB en ea) ins (!l.isEmpty) (valueB vk vn vt va vb) (kindB k vk va vb)
theorem blk13 {w : World} {g : Nat} {t : TypeId} {v0 v1 v2 v3 v4 v5 v6 v7 v8 v9 v10 v11 v12 : Value} (h : Blk w g t #[v0,v1,v2,v3,v4,v5,v6,v7,v8,v9,v10,v11,v12]) :
 w.cell? ⟨g,0,none⟩=some v0∧w.cell? ⟨g,1,none⟩=some v1∧w.cell? ⟨g,2,none⟩=some v2∧w.cell? ⟨g,3,none⟩=some v3∧w.cell? ⟨g,4,none⟩=some v4∧w.cell? ⟨g,5,none⟩=some v5∧w.cell? ⟨g,6,none⟩=some v6 ∧
  w.cell? ⟨g,7,none⟩=some v7∧w.cell? ⟨g,8,none⟩=some v8∧w.cell? ⟨g,9,none⟩=some v9∧w.cell? ⟨g,10,none⟩=some v10∧w.cell? ⟨g,11,none⟩=some v11∧w.cell? ⟨g,12,none⟩=some v12 :=
 ⟨h.cell 0,h.cell 1,h.cell 2,h.cell 3,h.cell 4,h.cell 5,h.cell 6,h.cell 7,h.cell 8,h.cell 9,h.cell 10,h.cell 11,h.cell 12⟩
set_option maxHeartbeats 8000000 in
set_option maxRecDepth 20000 in
theorem op_any (k on oa : Int) (key : ByteArray) (en ea : Int) (ins : Bool) (vk vn : Int) (vt : ByteArray) (va vb : Int) (l : List Rf) (n c : Nat) (D : Nat→Prop) (A : Option Addr) (w : World)
 (hn : l.length=n) (hl : n≤9223372036854775807) (hr : Reads D w 2 A n (refC l)) (hD : ∀ k,D k→k < w.heap.size) :
 Calls Tryz.prog 162 #[.agg #[.int .i64 k,.int .i64 on,.int .i64 oa,.string key,.int .i64 en,.int .i64 ea,.bool ins,.int .i64 vk,.int .i64 vn,.string vt,.int .i64 va,.int .i64 vb,.slice A n c]] w fun e w'=>e=.returned (errN (opE k on oa key en ea ins vk vn vt va vb l))∧Below w.heap.size w w':=by
 have HR:=Lib.hid hr
 have HD:=Lib.hid hD
 have HN:=Lib.hid hn
 have HW:=Lib.hid ((Below.refl _ w).alloc (Nat.le_refl _) (.cells #[.int .i64 k,.int .i64 on,.int .i64 oa,.string key,.int .i64 en,.int .i64 ea,.bool ins,.int .i64 vk,.int .i64 vn,.string vt,.int .i64 va,.int .i64 vb,.slice A n c] 88))
 have HBO:=Lib.hid (Blk.new w 88 #[.int .i64 k,.int .i64 on,.int .i64 oa,.string key,.int .i64 en,.int .i64 ea,.bool ins,.int .i64 vk,.int .i64 vn,.string vt,.int .i64 va,.int .i64 vb,.slice A n c])
 clear hr hD hn
 by_cases hk1 : k < 1
 · have HV : Hid (opE k on oa key en ea ins vk vn vt va vb l=1):=by show _=_;rw [opE,if_pos (Or.inl hk1)]
   have d1 : decide (k < 1)=true:=decide_eq_true hk1
   clear hk1
   go_enter Tryz.func162,Tryz.ntmps162
   go_wp2_with fail
   go_ret
   exact ⟨by rw [HV.out];rfl,HW.out⟩
 have d1 : decide (k < 1)=false:=decide_eq_false hk1
 by_cases hk4 : 4 < k
 · have HV : Hid (opE k on oa key en ea ins vk vn vt va vb l=1):=by show _=_;rw [opE,if_pos (Or.inr (Or.inl hk4))]
   have d2 : decide (4 < k)=true:=decide_eq_true hk4
   clear hk1 hk4
   go_enter Tryz.func162,Tryz.ntmps162
   go_wp2_with fail
   go_ret
   exact ⟨by rw [HV.out];rfl,HW.out⟩
 have d2 : decide (4 < k)=false:=decide_eq_false hk4
 cases hi : idB on oa
 · have HV : Hid (opE k on oa key en ea ins vk vn vt va vb l=1):=by show _=_;rw [opE,if_pos (Or.inr (Or.inr (Or.inl hi)))]
   have C1:=idCheck_no on oa hi
   clear hk1 hk4 hi
   go_enter Tryz.func162,Tryz.ntmps162
   go_wp2_with fail
   go_at_call 184
   refine (C1 _).mono ?_
   rintro e w1 ⟨rfl,hb⟩
   replace HBO:=Lib.hid (HBO.out.keep (hb.block _ HBO.out.lt))
   replace HW:=Lib.hid (HW.out.trans (hb.mono HW.out.size))
   clear hb
   try clear c0 c1 c2 c3 c4 c5 c6 c7 c8 c9 c10 c11 c12
   have c0 : w1.cell? ⟨w.heap.size,0,none⟩=some (.int .i64 k):=HBO.out.cell 0
   have c1 : w1.cell? ⟨w.heap.size,1,none⟩=some (.int .i64 on):=HBO.out.cell 1
   have c2 : w1.cell? ⟨w.heap.size,2,none⟩=some (.int .i64 oa):=HBO.out.cell 2
   have c3 : w1.cell? ⟨w.heap.size,3,none⟩=some (.string key):=HBO.out.cell 3
   have c4 : w1.cell? ⟨w.heap.size,4,none⟩=some (.int .i64 en):=HBO.out.cell 4
   have c5 : w1.cell? ⟨w.heap.size,5,none⟩=some (.int .i64 ea):=HBO.out.cell 5
   have c6 : w1.cell? ⟨w.heap.size,6,none⟩=some (.bool ins):=HBO.out.cell 6
   have c7 : w1.cell? ⟨w.heap.size,7,none⟩=some (.int .i64 vk):=HBO.out.cell 7
   have c8 : w1.cell? ⟨w.heap.size,8,none⟩=some (.int .i64 vn):=HBO.out.cell 8
   have c9 : w1.cell? ⟨w.heap.size,9,none⟩=some (.string vt):=HBO.out.cell 9
   have c10 : w1.cell? ⟨w.heap.size,10,none⟩=some (.int .i64 va):=HBO.out.cell 10
   have c11 : w1.cell? ⟨w.heap.size,11,none⟩=some (.int .i64 vb):=HBO.out.cell 11
   have c12 : w1.cell? ⟨w.heap.size,12,none⟩=some (.slice A n c):=HBO.out.cell 12
   go_wp2_with fail
   go_ret
   exact ⟨by rw [HV.out];rfl,HW.out⟩
 have C1:=idCheck_yes on oa hi
 cases hj : idB en ea
 · have HV : Hid (opE k on oa key en ea ins vk vn vt va vb l=1):=by show _=_;rw [opE,if_pos (Or.inr (Or.inr (Or.inr hj)))]
   have C2:=idCheck_no en ea hj
   clear hk1 hk4 hi hj
   go_enter Tryz.func162,Tryz.ntmps162
   go_wp2_with fail
   go_at_call 184
   refine (C1 _).mono ?_
   rintro e w1 ⟨rfl,hb⟩
   replace HBO:=Lib.hid (HBO.out.keep (hb.block _ HBO.out.lt))
   replace HW:=Lib.hid (HW.out.trans (hb.mono HW.out.size))
   clear hb
   try clear c0 c1 c2 c3 c4 c5 c6 c7 c8 c9 c10 c11 c12
   have c0 : w1.cell? ⟨w.heap.size,0,none⟩=some (.int .i64 k):=HBO.out.cell 0
   have c1 : w1.cell? ⟨w.heap.size,1,none⟩=some (.int .i64 on):=HBO.out.cell 1
   have c2 : w1.cell? ⟨w.heap.size,2,none⟩=some (.int .i64 oa):=HBO.out.cell 2
   have c3 : w1.cell? ⟨w.heap.size,3,none⟩=some (.string key):=HBO.out.cell 3
   have c4 : w1.cell? ⟨w.heap.size,4,none⟩=some (.int .i64 en):=HBO.out.cell 4
   have c5 : w1.cell? ⟨w.heap.size,5,none⟩=some (.int .i64 ea):=HBO.out.cell 5
   have c6 : w1.cell? ⟨w.heap.size,6,none⟩=some (.bool ins):=HBO.out.cell 6
   have c7 : w1.cell? ⟨w.heap.size,7,none⟩=some (.int .i64 vk):=HBO.out.cell 7
   have c8 : w1.cell? ⟨w.heap.size,8,none⟩=some (.int .i64 vn):=HBO.out.cell 8
   have c9 : w1.cell? ⟨w.heap.size,9,none⟩=some (.string vt):=HBO.out.cell 9
   have c10 : w1.cell? ⟨w.heap.size,10,none⟩=some (.int .i64 va):=HBO.out.cell 10
   have c11 : w1.cell? ⟨w.heap.size,11,none⟩=some (.int .i64 vb):=HBO.out.cell 11
   have c12 : w1.cell? ⟨w.heap.size,12,none⟩=some (.slice A n c):=HBO.out.cell 12
   go_wp2_with fail
   go_at_call 184
   refine (C2 _).mono ?_
   rintro e w2 ⟨rfl,hb⟩
   replace HBO:=Lib.hid (HBO.out.keep (hb.block _ HBO.out.lt))
   replace HW:=Lib.hid (HW.out.trans (hb.mono HW.out.size))
   clear hb
   try clear c0 c1 c2 c3 c4 c5 c6 c7 c8 c9 c10 c11 c12
   have c0 : w2.cell? ⟨w.heap.size,0,none⟩=some (.int .i64 k):=HBO.out.cell 0
   have c1 : w2.cell? ⟨w.heap.size,1,none⟩=some (.int .i64 on):=HBO.out.cell 1
   have c2 : w2.cell? ⟨w.heap.size,2,none⟩=some (.int .i64 oa):=HBO.out.cell 2
   have c3 : w2.cell? ⟨w.heap.size,3,none⟩=some (.string key):=HBO.out.cell 3
   have c4 : w2.cell? ⟨w.heap.size,4,none⟩=some (.int .i64 en):=HBO.out.cell 4
   have c5 : w2.cell? ⟨w.heap.size,5,none⟩=some (.int .i64 ea):=HBO.out.cell 5
   have c6 : w2.cell? ⟨w.heap.size,6,none⟩=some (.bool ins):=HBO.out.cell 6
   have c7 : w2.cell? ⟨w.heap.size,7,none⟩=some (.int .i64 vk):=HBO.out.cell 7
   have c8 : w2.cell? ⟨w.heap.size,8,none⟩=some (.int .i64 vn):=HBO.out.cell 8
   have c9 : w2.cell? ⟨w.heap.size,9,none⟩=some (.string vt):=HBO.out.cell 9
   have c10 : w2.cell? ⟨w.heap.size,10,none⟩=some (.int .i64 va):=HBO.out.cell 10
   have c11 : w2.cell? ⟨w.heap.size,11,none⟩=some (.int .i64 vb):=HBO.out.cell 11
   have c12 : w2.cell? ⟨w.heap.size,12,none⟩=some (.slice A n c):=HBO.out.cell 12
   go_wp2_with fail
   go_ret
   exact ⟨by rw [HV.out];rfl,HW.out⟩
 have C2:=idCheck_yes en ea hj
 have HV1 : Hid (opE k on oa key en ea ins vk vn vt va vb l=if l.all (fun r=>realB r.1 r.2)=false then 1
  else if 20 < key.size then 4 else if idsE l≠0 then idsE l
  else tailE k (!key.toList.isEmpty) (rootB en ea) ins (!l.isEmpty) (valueB vk vn vt va vb) (kindB k vk va vb)):=by
  show _=_
  rw [opE,if_neg]
  rintro (h | h | h | h)
  · exact hk1 h
  · exact hk4 h
  · rw [hi] at h;cases h
  · rw [hj] at h;cases h
 have HK : Hid (1≤k∧k≤4):=by show _∧_;omega
 clear hk1 hk4 hi hj
 go_enter Tryz.func162,Tryz.ntmps162
 go_wp2_with fail
 go_at_call 184
 refine (C1 _).mono ?_
 rintro e w1 ⟨rfl,hb⟩
 replace HBO:=Lib.hid (HBO.out.keep (hb.block _ HBO.out.lt))
 replace HW:=Lib.hid (HW.out.trans (hb.mono HW.out.size))
 clear hb
 try clear c0 c1 c2 c3 c4 c5 c6 c7 c8 c9 c10 c11 c12
 have c0 : w1.cell? ⟨w.heap.size,0,none⟩=some (.int .i64 k):=HBO.out.cell 0
 have c1 : w1.cell? ⟨w.heap.size,1,none⟩=some (.int .i64 on):=HBO.out.cell 1
 have c2 : w1.cell? ⟨w.heap.size,2,none⟩=some (.int .i64 oa):=HBO.out.cell 2
 have c3 : w1.cell? ⟨w.heap.size,3,none⟩=some (.string key):=HBO.out.cell 3
 have c4 : w1.cell? ⟨w.heap.size,4,none⟩=some (.int .i64 en):=HBO.out.cell 4
 have c5 : w1.cell? ⟨w.heap.size,5,none⟩=some (.int .i64 ea):=HBO.out.cell 5
 have c6 : w1.cell? ⟨w.heap.size,6,none⟩=some (.bool ins):=HBO.out.cell 6
 have c7 : w1.cell? ⟨w.heap.size,7,none⟩=some (.int .i64 vk):=HBO.out.cell 7
 have c8 : w1.cell? ⟨w.heap.size,8,none⟩=some (.int .i64 vn):=HBO.out.cell 8
 have c9 : w1.cell? ⟨w.heap.size,9,none⟩=some (.string vt):=HBO.out.cell 9
 have c10 : w1.cell? ⟨w.heap.size,10,none⟩=some (.int .i64 va):=HBO.out.cell 10
 have c11 : w1.cell? ⟨w.heap.size,11,none⟩=some (.int .i64 vb):=HBO.out.cell 11
 have c12 : w1.cell? ⟨w.heap.size,12,none⟩=some (.slice A n c):=HBO.out.cell 12
 go_wp2_with fail
 go_at_call 184
 refine (C2 _).mono ?_
 rintro e w2 ⟨rfl,hb⟩
 replace HBO:=Lib.hid (HBO.out.keep (hb.block _ HBO.out.lt))
 replace HW:=Lib.hid (HW.out.trans (hb.mono HW.out.size))
 clear hb
 try clear c0 c1 c2 c3 c4 c5 c6 c7 c8 c9 c10 c11 c12
 have c0 : w2.cell? ⟨w.heap.size,0,none⟩=some (.int .i64 k):=HBO.out.cell 0
 have c1 : w2.cell? ⟨w.heap.size,1,none⟩=some (.int .i64 on):=HBO.out.cell 1
 have c2 : w2.cell? ⟨w.heap.size,2,none⟩=some (.int .i64 oa):=HBO.out.cell 2
 have c3 : w2.cell? ⟨w.heap.size,3,none⟩=some (.string key):=HBO.out.cell 3
 have c4 : w2.cell? ⟨w.heap.size,4,none⟩=some (.int .i64 en):=HBO.out.cell 4
 have c5 : w2.cell? ⟨w.heap.size,5,none⟩=some (.int .i64 ea):=HBO.out.cell 5
 have c6 : w2.cell? ⟨w.heap.size,6,none⟩=some (.bool ins):=HBO.out.cell 6
 have c7 : w2.cell? ⟨w.heap.size,7,none⟩=some (.int .i64 vk):=HBO.out.cell 7
 have c8 : w2.cell? ⟨w.heap.size,8,none⟩=some (.int .i64 vn):=HBO.out.cell 8
 have c9 : w2.cell? ⟨w.heap.size,9,none⟩=some (.string vt):=HBO.out.cell 9
 have c10 : w2.cell? ⟨w.heap.size,10,none⟩=some (.int .i64 va):=HBO.out.cell 10
 have c11 : w2.cell? ⟨w.heap.size,11,none⟩=some (.int .i64 vb):=HBO.out.cell 11
 have c12 : w2.cell? ⟨w.heap.size,12,none⟩=some (.slice A n c):=HBO.out.cell 12
 clear C1 C2
 go_wp2_with fail
 clear d1 d2 c0 c1 c2 c3 c4 c5 c6 c7 c8 c9 c10 c11 c12
 go_loopw [33] (fun s wr=>∃ j : Nat,j≤n∧s=.int .i64 j∧Hid (Below w.heap.size w wr)∧Hid (Blk wr w.heap.size 88 #[.int .i64 k,.int .i64 on,.int .i64 oa,.string key,.int .i64 en,.int .i64 ea,.bool ins,.int .i64 vk,.int .i64 vn,.string vt,.int .i64 va,.int .i64 vb,.slice A n c])∧Hid ((l.take j).all (fun r=>realB r.1 r.2)=true)) (fun s _=>n - (intOf s).toNat)
 case atStart=>exact ⟨0,by omega,rfl,HW,HBO,by show _=_;simp⟩
 case round =>
  clear HW HBO
  obtain ⟨j,hj,rfl,HW,HBO,HA⟩:=hrel
  by_cases hlt : j < n
  · obtain ⟨b,off,hAe,hb,hcell⟩:=HR.out.at_ (by omega) (by omega)
    subst hAe
    obtain ⟨r,hr⟩ : ∃ r,l[j]?=some r:=⟨_,List.getElem?_eq_getElem (by rw [HN.out];exact hlt)⟩
    have hbl:=HD.out b hb
    have hblk : ∀ o,wr.cell? ⟨b,o,none⟩=w.cell? ⟨b,o,none⟩:=fun o=>World.cell?_of_block (w:=w) (HW.out.block b hbl)
    obtain ⟨h1,h2⟩:=refC_at hr
    have x1 : wr.cell? ⟨b,off+j*2,none⟩=some (.int .i64 r.1):=by rw [hblk];exact hcell _ _ h1
    have x2 : wr.cell? ⟨b,off+j*2+1,none⟩=some (.int .i64 r.2):=by rw [hblk];exact hcell _ _ h2
    have HX:=Lib.hid hr
    obtain ⟨r1,r2⟩:=r
    have RR:=real_any r1 r2
    have hta : l.take (j+1)=l.take j++[(r1,r2)]:=by rw [List.take_add_one,hr];rfl
    cases hz : realB r1 r2
    case' true =>
     have HA2 : Hid ((l.take (j+1)).all (fun r=>realB r.1 r.2)=true):=by
      show _=_
      rw [hta,List.all_append,HA.out]
      simp [hz]
    case' false =>
     have HV : Hid (opE k on oa key en ea ins vk vn vt va vb l=1):=by
      show _=_
      rw [HV1.out,if_pos]
      rw [List.all_eq_false]
      exact ⟨(r1,r2),List.mem_of_getElem? hr,by simp [hz]⟩
    all_goals
     rw [hz] at RR
     clear hblk hcell h1 h2 hr hta hz
     go_wp2_with fail
     go_at_call 185
     refine (RR _).mono ?_
     rintro e w3 ⟨rfl,hb3⟩
     have HW3 : Hid (Below w.heap.size w w3):=(HW.out.alloc HW.out.size _).trans (hb3.mono (by have:=HW.out.size;simp;omega))
     have HB3 : Hid (Blk w3 w.heap.size 88 #[.int .i64 k,.int .i64 on,.int .i64 oa,.string key,.int .i64 en,.int .i64 ea,.bool ins,.int .i64 vk,.int .i64 vn,.string vt,.int .i64 va,.int .i64 vb,.slice (some ⟨b,off,none⟩) n c]):=(HBO.out.alloc _).keep (hb3.block _ (by have:=HBO.out.lt;simp;omega))
     clear hb3 RR x1 x2
     go_wp2_with fail
     first
      | (go_ret
         exact ⟨by rw [HV.out];rfl,HW3.out⟩)
      | exact ⟨⟨j+1,by omega,by go_num,HW3,HB3,HA2⟩,by simp [intOf];omega⟩
      | (go_roundw
         case rel=>exact ⟨j+1,by omega,by go_num,HW3,HB3,HA2⟩
         case measure=>simp [intOf];omega)
  · have hjn : j=n:=by omega
    have HAll : Hid (l.all (fun r=>realB r.1 r.2)=true):=by
     have:=HA.out
     rw [List.take_of_length_le (by rw [HN.out];omega)] at this
     exact this
    clear hjn
    have c0 : wr.cell? ⟨w.heap.size,0,none⟩=some (.int .i64 k):=HBO.out.cell 0
    have c1 : wr.cell? ⟨w.heap.size,1,none⟩=some (.int .i64 on):=HBO.out.cell 1
    have c2 : wr.cell? ⟨w.heap.size,2,none⟩=some (.int .i64 oa):=HBO.out.cell 2
    have c3 : wr.cell? ⟨w.heap.size,3,none⟩=some (.string key):=HBO.out.cell 3
    have c4 : wr.cell? ⟨w.heap.size,4,none⟩=some (.int .i64 en):=HBO.out.cell 4
    have c5 : wr.cell? ⟨w.heap.size,5,none⟩=some (.int .i64 ea):=HBO.out.cell 5
    have c6 : wr.cell? ⟨w.heap.size,6,none⟩=some (.bool ins):=HBO.out.cell 6
    have c7 : wr.cell? ⟨w.heap.size,7,none⟩=some (.int .i64 vk):=HBO.out.cell 7
    have c8 : wr.cell? ⟨w.heap.size,8,none⟩=some (.int .i64 vn):=HBO.out.cell 8
    have c9 : wr.cell? ⟨w.heap.size,9,none⟩=some (.string vt):=HBO.out.cell 9
    have c10 : wr.cell? ⟨w.heap.size,10,none⟩=some (.int .i64 va):=HBO.out.cell 10
    have c11 : wr.cell? ⟨w.heap.size,11,none⟩=some (.int .i64 vb):=HBO.out.cell 11
    have c12 : wr.cell? ⟨w.heap.size,12,none⟩=some (.slice A n c):=HBO.out.cell 12
    by_cases hks : 20 < key.size
    · have HV : Hid (opE k on oa key en ea ins vk vn vt va vb l=4):=by show _=_;rw [HV1.out,if_neg (by rw [HAll.out];simp),if_pos hks]
      have d1 : decide (20 < (key.size : Int))=true:=decide_eq_true (by omega)
      go_wp2_with fail
      go_ret
      exact ⟨by rw [HV.out];rfl,HW.out⟩
    have d1 : decide (20 < (key.size : Int))=false:=decide_eq_false (by omega)
    have HRr : Reads D wr 2 A n (refC l):=HR.out.keep fun k hk=>HW.out.block k (HD.out k hk)
    have IA:=ids_any l D A c wr (by rw [HN.out];exact HRr) (fun k hk=>Nat.lt_of_lt_of_le (HD.out k hk) HW.out.size)
    rw [HN.out] at IA
    by_cases hie : idsE l=0
    case neg =>
     have HV : Hid (opE k on oa key en ea ins vk vn vt va vb l=idsE l):=by show _=_;rw [HV1.out,if_neg (by rw [HAll.out];simp),if_neg hks,if_pos hie]
     rw [show errN (idsE l)=.iface 101 (.int .i64 (idsE l)) from if_neg hie] at IA
     have HE : Hid (errN (idsE l)=.iface 101 (.int .i64 (idsE l))):=by show _=_;exact if_neg hie
     generalize idsE l=ie at *
     clear hie HRr hks
     go_wp2_with fail
     go_at_call 186
     refine IA.mono ?_
     rintro e w3 ⟨rfl,hb⟩
     replace HBO:=Lib.hid (HBO.out.keep (hb.block _ HBO.out.lt))
     replace HW:=Lib.hid (HW.out.trans (hb.mono HW.out.size))
     clear hb
     try clear c0 c1 c2 c3 c4 c5 c6 c7 c8 c9 c10 c11 c12
     have c0 : w3.cell? ⟨w.heap.size,0,none⟩=some (.int .i64 k):=HBO.out.cell 0
     have c1 : w3.cell? ⟨w.heap.size,1,none⟩=some (.int .i64 on):=HBO.out.cell 1
     have c2 : w3.cell? ⟨w.heap.size,2,none⟩=some (.int .i64 oa):=HBO.out.cell 2
     have c3 : w3.cell? ⟨w.heap.size,3,none⟩=some (.string key):=HBO.out.cell 3
     have c4 : w3.cell? ⟨w.heap.size,4,none⟩=some (.int .i64 en):=HBO.out.cell 4
     have c5 : w3.cell? ⟨w.heap.size,5,none⟩=some (.int .i64 ea):=HBO.out.cell 5
     have c6 : w3.cell? ⟨w.heap.size,6,none⟩=some (.bool ins):=HBO.out.cell 6
     have c7 : w3.cell? ⟨w.heap.size,7,none⟩=some (.int .i64 vk):=HBO.out.cell 7
     have c8 : w3.cell? ⟨w.heap.size,8,none⟩=some (.int .i64 vn):=HBO.out.cell 8
     have c9 : w3.cell? ⟨w.heap.size,9,none⟩=some (.string vt):=HBO.out.cell 9
     have c10 : w3.cell? ⟨w.heap.size,10,none⟩=some (.int .i64 va):=HBO.out.cell 10
     have c11 : w3.cell? ⟨w.heap.size,11,none⟩=some (.int .i64 vb):=HBO.out.cell 11
     have c12 : w3.cell? ⟨w.heap.size,12,none⟩=some (.slice A n c):=HBO.out.cell 12
     go_wp2_with fail
     go_ret
     exact ⟨by rw [HV.out,HE.out];rfl,HW.out⟩
    have HV2 : Hid (opE k on oa key en ea ins vk vn vt va vb l=tailE k (!key.toList.isEmpty) (rootB en ea) ins (!l.isEmpty) (valueB vk vn vt va vb) (kindB k vk va vb)):=by
     show _=_
     rw [HV1.out,if_neg (by rw [HAll.out];simp),if_neg hks,if_neg (by rw [hie];simp)]
    rw [hie] at IA
    rw [show errN 0=.nilIface from rfl] at IA
    clear hie HRr hks
    go_wp2_with fail
    go_at_call 186
    refine IA.mono ?_
    rintro e w3 ⟨rfl,hb⟩
    replace HBO:=Lib.hid (HBO.out.keep (hb.block _ HBO.out.lt))
    replace HW:=Lib.hid (HW.out.trans (hb.mono HW.out.size))
    clear hb
    try clear c0 c1 c2 c3 c4 c5 c6 c7 c8 c9 c10 c11 c12
    have c0 : w3.cell? ⟨w.heap.size,0,none⟩=some (.int .i64 k):=HBO.out.cell 0
    have c1 : w3.cell? ⟨w.heap.size,1,none⟩=some (.int .i64 on):=HBO.out.cell 1
    have c2 : w3.cell? ⟨w.heap.size,2,none⟩=some (.int .i64 oa):=HBO.out.cell 2
    have c3 : w3.cell? ⟨w.heap.size,3,none⟩=some (.string key):=HBO.out.cell 3
    have c4 : w3.cell? ⟨w.heap.size,4,none⟩=some (.int .i64 en):=HBO.out.cell 4
    have c5 : w3.cell? ⟨w.heap.size,5,none⟩=some (.int .i64 ea):=HBO.out.cell 5
    have c6 : w3.cell? ⟨w.heap.size,6,none⟩=some (.bool ins):=HBO.out.cell 6
    have c7 : w3.cell? ⟨w.heap.size,7,none⟩=some (.int .i64 vk):=HBO.out.cell 7
    have c8 : w3.cell? ⟨w.heap.size,8,none⟩=some (.int .i64 vn):=HBO.out.cell 8
    have c9 : w3.cell? ⟨w.heap.size,9,none⟩=some (.string vt):=HBO.out.cell 9
    have c10 : w3.cell? ⟨w.heap.size,10,none⟩=some (.int .i64 va):=HBO.out.cell 10
    have c11 : w3.cell? ⟨w.heap.size,11,none⟩=some (.int .i64 vb):=HBO.out.cell 11
    have c12 : w3.cell? ⟨w.heap.size,12,none⟩=some (.slice A n c):=HBO.out.cell 12
    have CV:=valCheck_any vk vn va vb vt
    have OB:=object_any vk vn va vb vt
    have dp1 : decide (0 < (n : Int))=!l.isEmpty:=by
     have:=HN.out
     cases l with
     | nil=>simp at this;subst this;rfl
     | cons x t=>simp at this;simp;omega
    have dp2 : ((n : Int) == 0)=!(!l.isEmpty):=by
     have:=HN.out
     cases l with
     | nil=>simp at this;subst this;rfl
     | cons x t=>simp at this;simp;omega
    generalize (!l.isEmpty)=pe at HV2 dp1 dp2
    generalize hkz : key.toList.isEmpty=kz at HV2
    generalize valueB vk vn vt va vb=v at HV2 CV
    clear HV1 HAll HA d1 IA
    generalize hrt : rootB en ea=rt at HV2
    have hq:=fun w=>eq_root en ea rt hrt w
    clear hrt
    rcases (by have:=HK.out;omega : k=1∨k=2∨k=3∨k=4) with rfl | rfl | rfl | rfl
    · skip
      rw [show kindB 1 vk va vb=!objectB vk from rfl] at HV2
      generalize objectB vk=ob at HV2 OB
      cases rt
      all_goals
       cases ins
       all_goals
        cases kz
        all_goals
         go_wp2_with fail
         all_goals
          first
           | (go_ret
              refine ⟨?_,HW.out⟩
              rw [HV2.out]
              first | rfl | (cases pe <;> first | rfl | simp_all))
           | (go_at_call 187
              cases v
              · rw [rangeUnless_false rfl] at CV
                refine (CV _).mono ?_
                rintro e w4 ⟨rfl,hb⟩
                replace HBO:=Lib.hid (HBO.out.keep (hb.block _ HBO.out.lt))
                replace HW:=Lib.hid (HW.out.trans (hb.mono HW.out.size))
                clear hb
                try clear c0 c1 c2 c3 c4 c5 c6 c7 c8 c9 c10 c11 c12
                obtain ⟨c0,c1,c2,c3,c4,c5,c6,c7,c8,c9,c10,c11,c12⟩:=blk13 HBO.out
                go_wp2_with fail
                (go_ret
                 refine ⟨?_,HW.out⟩
                 rw [HV2.out]
                 first | rfl | (cases pe <;> first | rfl | simp_all))
              · rw [rangeUnless_true rfl] at CV
                refine (CV _).mono ?_
                rintro e w4 ⟨rfl,hb⟩
                replace HBO:=Lib.hid (HBO.out.keep (hb.block _ HBO.out.lt))
                replace HW:=Lib.hid (HW.out.trans (hb.mono HW.out.size))
                clear hb
                try clear c0 c1 c2 c3 c4 c5 c6 c7 c8 c9 c10 c11 c12
                obtain ⟨c0,c1,c2,c3,c4,c5,c6,c7,c8,c9,c10,c11,c12⟩:=blk13 HBO.out
                go_wp2_with fail
                go_at_call 188
                cases ob
                all_goals
                 refine (OB _).mono ?_
                 rintro e w5 ⟨rfl,hb⟩
                 replace HBO:=Lib.hid (HBO.out.keep (hb.block _ HBO.out.lt))
                 replace HW:=Lib.hid (HW.out.trans (hb.mono HW.out.size))
                 clear hb
                 try clear c0 c1 c2 c3 c4 c5 c6 c7 c8 c9 c10 c11 c12
                 obtain ⟨c0,c1,c2,c3,c4,c5,c6,c7,c8,c9,c10,c11,c12⟩:=blk13 HBO.out
                 go_wp2_with fail
                 (go_ret
                  refine ⟨?_,HW.out⟩
                  rw [HV2.out]
                  first | rfl | (cases pe <;> first | rfl | simp_all)))
    · skip
      rw [show kindB 2 vk va vb=(objectB vk && rootB va vb) from rfl] at HV2
      generalize objectB vk=ob at HV2 OB
      generalize hvr : rootB va vb=vr at HV2
      have hq2:=fun w=>eq_root va vb vr hvr w
      clear hvr
      cases rt
      all_goals
       cases ins
       all_goals
        cases kz
        all_goals
         go_wp2_with fail
         all_goals
          first
           | (go_ret
              refine ⟨?_,HW.out⟩
              rw [HV2.out]
              first | rfl | (cases pe <;> first | rfl | simp_all))
           | (go_at_call 187
              cases v
              · rw [rangeUnless_false rfl] at CV
                refine (CV _).mono ?_
                rintro e w4 ⟨rfl,hb⟩
                replace HBO:=Lib.hid (HBO.out.keep (hb.block _ HBO.out.lt))
                replace HW:=Lib.hid (HW.out.trans (hb.mono HW.out.size))
                clear hb
                try clear c0 c1 c2 c3 c4 c5 c6 c7 c8 c9 c10 c11 c12
                obtain ⟨c0,c1,c2,c3,c4,c5,c6,c7,c8,c9,c10,c11,c12⟩:=blk13 HBO.out
                go_wp2_with fail
                (go_ret
                 refine ⟨?_,HW.out⟩
                 rw [HV2.out]
                 first | rfl | (cases pe <;> first | rfl | simp_all))
              · rw [rangeUnless_true rfl] at CV
                refine (CV _).mono ?_
                rintro e w4 ⟨rfl,hb⟩
                replace HBO:=Lib.hid (HBO.out.keep (hb.block _ HBO.out.lt))
                replace HW:=Lib.hid (HW.out.trans (hb.mono HW.out.size))
                clear hb
                try clear c0 c1 c2 c3 c4 c5 c6 c7 c8 c9 c10 c11 c12
                obtain ⟨c0,c1,c2,c3,c4,c5,c6,c7,c8,c9,c10,c11,c12⟩:=blk13 HBO.out
                go_wp2_with fail
                go_at_call 188
                cases ob
                case' true=>cases vr
                all_goals
                 refine (OB _).mono ?_
                 rintro e w5 ⟨rfl,hb⟩
                 replace HBO:=Lib.hid (HBO.out.keep (hb.block _ HBO.out.lt))
                 replace HW:=Lib.hid (HW.out.trans (hb.mono HW.out.size))
                 clear hb
                 try clear c0 c1 c2 c3 c4 c5 c6 c7 c8 c9 c10 c11 c12
                 obtain ⟨c0,c1,c2,c3,c4,c5,c6,c7,c8,c9,c10,c11,c12⟩:=blk13 HBO.out
                 go_wp2_with fail
                 (go_ret
                  refine ⟨?_,HW.out⟩
                  rw [HV2.out]
                  first | rfl | (cases pe <;> first | rfl | simp_all)))
    · skip
      rw [show kindB 3 vk va vb=(vk == 0) from rfl] at HV2
      generalize hz : (vk == 0)=z at HV2
      cases rt
      all_goals
       cases ins
       all_goals
        cases kz
        all_goals
         go_wp2_with fail
         all_goals
          first
           | (go_ret
              refine ⟨?_,HW.out⟩
              rw [HV2.out]
              first | rfl | (cases pe <;> first | rfl | simp_all))
           | (go_at_call 187
              cases v
              · rw [rangeUnless_false rfl] at CV
                refine (CV _).mono ?_
                rintro e w4 ⟨rfl,hb⟩
                replace HBO:=Lib.hid (HBO.out.keep (hb.block _ HBO.out.lt))
                replace HW:=Lib.hid (HW.out.trans (hb.mono HW.out.size))
                clear hb
                try clear c0 c1 c2 c3 c4 c5 c6 c7 c8 c9 c10 c11 c12
                obtain ⟨c0,c1,c2,c3,c4,c5,c6,c7,c8,c9,c10,c11,c12⟩:=blk13 HBO.out
                go_wp2_with fail
                (go_ret
                 refine ⟨?_,HW.out⟩
                 rw [HV2.out]
                 first | rfl | (cases pe <;> first | rfl | simp_all))
              · rw [rangeUnless_true rfl] at CV
                refine (CV _).mono ?_
                rintro e w4 ⟨rfl,hb⟩
                replace HBO:=Lib.hid (HBO.out.keep (hb.block _ HBO.out.lt))
                replace HW:=Lib.hid (HW.out.trans (hb.mono HW.out.size))
                clear hb
                try clear c0 c1 c2 c3 c4 c5 c6 c7 c8 c9 c10 c11 c12
                obtain ⟨c0,c1,c2,c3,c4,c5,c6,c7,c8,c9,c10,c11,c12⟩:=blk13 HBO.out
                cases z
                case' true=>cases pe
                all_goals
                 go_wp2_with fail
                 (go_ret
                  refine ⟨?_,HW.out⟩
                  rw [HV2.out]
                  first | rfl | (cases pe <;> first | rfl | simp_all)))
    · skip
      rw [show kindB 4 vk va vb=(vk == 2) from rfl] at HV2
      generalize hz : (vk == 2)=z at HV2
      cases rt
      all_goals
       cases ins
       all_goals
        cases kz
        all_goals
         go_wp2_with fail
         all_goals
          first
           | (go_ret
              refine ⟨?_,HW.out⟩
              rw [HV2.out]
              first | rfl | (cases pe <;> first | rfl | simp_all))
           | (go_at_call 187
              cases v
              · rw [rangeUnless_false rfl] at CV
                refine (CV _).mono ?_
                rintro e w4 ⟨rfl,hb⟩
                replace HBO:=Lib.hid (HBO.out.keep (hb.block _ HBO.out.lt))
                replace HW:=Lib.hid (HW.out.trans (hb.mono HW.out.size))
                clear hb
                try clear c0 c1 c2 c3 c4 c5 c6 c7 c8 c9 c10 c11 c12
                obtain ⟨c0,c1,c2,c3,c4,c5,c6,c7,c8,c9,c10,c11,c12⟩:=blk13 HBO.out
                go_wp2_with fail
                (go_ret
                 refine ⟨?_,HW.out⟩
                 rw [HV2.out]
                 first | rfl | (cases pe <;> first | rfl | simp_all))
              · rw [rangeUnless_true rfl] at CV
                refine (CV _).mono ?_
                rintro e w4 ⟨rfl,hb⟩
                replace HBO:=Lib.hid (HBO.out.keep (hb.block _ HBO.out.lt))
                replace HW:=Lib.hid (HW.out.trans (hb.mono HW.out.size))
                clear hb
                try clear c0 c1 c2 c3 c4 c5 c6 c7 c8 c9 c10 c11 c12
                obtain ⟨c0,c1,c2,c3,c4,c5,c6,c7,c8,c9,c10,c11,c12⟩:=blk13 HBO.out
                cases z
                case' true=>cases pe
                all_goals
                 go_wp2_with fail
                 (go_ret
                  refine ⟨?_,HW.out⟩
                  rw [HV2.out]
                  first | rfl | (cases pe <;> first | rfl | simp_all)))
end Go.Proofs.YtmpkejflgpodkaaGreatDoor
