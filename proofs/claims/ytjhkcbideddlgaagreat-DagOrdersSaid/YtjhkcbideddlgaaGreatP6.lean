/- Contracts: change.op: what is wrong with an op. -/
import Derived.Test.YtjhkcbideddlgaaGreatP5
set_option maxHeartbeats 8000000
set_option maxRecDepth 20000
set_option linter.unusedVariables false
set_option linter.unusedSimpArgs false
namespace Go.Proofs.YtjhkcbideddlgaaGreat
open Go.ChangeShapes Go.WideShapes Go.ChangeAt Go.RowKit
def gG(k vk va vb:Int):Bool :=
 if k=1 then !dE vk else if k=2 then dE vk&&bD va vb else if k=3 then vk == 0 else vk == 2
def lS(k:Int)(kn root ins pe v kb:Bool):Nat :=
 if (kn == (!root||ins))||(ins&&(decide (2<k)||pe)) then 3
 else if v=false then 1 else if kb=false then 1 else if decide (2<k)&&!pe then 3 else 0
def opE(k on oa:Int)(key:ByteArray)(en ea:Int)(ins:Bool)(vk vn:Int)(vt:ByteArray)(va vb:Int)(l:List Rf):Nat :=
 if k<1∨4<k∨idB on oa=false∨idB en ea=false then 1
 else if l.all (fun r=>cJ r.1 r.2)=false then 1
 else if 20<key.size then 4
 else if eQ l≠0 then eQ l
 else lS k (!key.toList.isEmpty) (bD en ea) ins (!l.isEmpty) (aE vk vn vt va vb) (gG k vk va vb)
theorem cT{w:World}{g:Nat}{t:TypeId}{v0 v1 v2 v3 v4 v5 v6 v7 v8 v9 v10 v11 v12:Value}(h:Blk w g t #[v0,v1,v2,v3,v4,v5,v6,v7,v8,v9,v10,v11,v12]):
 w.cell? ⟨g,0,none⟩=some v0∧w.cell? ⟨g,1,none⟩=some v1∧w.cell? ⟨g,2,none⟩=some v2∧w.cell? ⟨g,3,none⟩=some v3∧w.cell? ⟨g,4,none⟩=some v4∧w.cell? ⟨g,5,none⟩=some v5∧w.cell? ⟨g,6,none⟩=some v6 ∧
  w.cell? ⟨g,7,none⟩=some v7∧w.cell? ⟨g,8,none⟩=some v8∧w.cell? ⟨g,9,none⟩=some v9∧w.cell? ⟨g,10,none⟩=some v10∧w.cell? ⟨g,11,none⟩=some v11∧w.cell? ⟨g,12,none⟩=some v12 :=
 ⟨h.cell 0,h.cell 1,h.cell 2,h.cell 3,h.cell 4,h.cell 5,h.cell 6,h.cell 7,h.cell 8,h.cell 9,h.cell 10,h.cell 11,h.cell 12⟩
theorem op_any(k on oa:Int)(key:ByteArray)(en ea:Int)(ins:Bool)(vk vn:Int)(vt:ByteArray)(va vb:Int)(l:List Rf)(n c:Nat)(D:Nat→Prop)(A:Option Addr)(w:World)
 (hn:l.length=n) (hl:n≤9223372036854775807) (hr:aC D w 2 A n (aF l)) (hD:∀k,D k→k<w.heap.size) :
 Calls Tryz.prog 82 #[.agg #[.int .i64 k,.int .i64 on,.int .i64 oa,.string key,.int .i64 en,.int .i64 ea,.bool ins,.int .i64 vk,.int .i64 vn,.string vt,.int .i64 va,.int .i64 vb,.slice A n c]] w fun e w'=>e=.returned (jN (opE k on oa key en ea ins vk vn vt va vb l))∧Below w.heap.size w w':=by
 have HR:=Hi hr;have HD:=Hi hD;have HN:=Hi hn;have HW:=Hi ((sA _ w).alloc (sB _) (.cells #[.int .i64 k,.int .i64 on,.int .i64 oa,.string key,.int .i64 en,.int .i64 ea,.bool ins,.int .i64 vk,.int .i64 vn,.string vt,.int .i64 va,.int .i64 vb,.slice A n c] 53));have HBO:=Hi (Blk.new w 53 #[.int .i64 k,.int .i64 on,.int .i64 oa,.string key,.int .i64 en,.int .i64 ea,.bool ins,.int .i64 vk,.int .i64 vn,.string vt,.int .i64 va,.int .i64 vb,.slice A n c]);clear hr hD hn;by_cases hk1:k<1
 ·have HV:Hid (opE k on oa key en ea ins vk vn vt va vb l=1):=by show _=_;rw[opE,tA (Or.inl hk1)]
  have d1:decide (k<1)=true:=sH hk1;clear hk1;go_enter Tryz.func82,Tryz.ntmps82;go_wp2_with fail
  go_ret;exact⟨by rw[HV.o];rfl,HW.o⟩
 have d1:decide (k<1)=false:=sI hk1;by_cases hk4:4<k
 ·have HV:Hid (opE k on oa key en ea ins vk vn vt va vb l=1):=by show _=_;rw[opE,tA (Or.inr (Or.inl hk4))]
  have d2:decide (4<k)=true:=sH hk4;clear hk1 hk4;go_enter Tryz.func82,Tryz.ntmps82;go_wp2_with fail
  go_ret;exact⟨by rw[HV.o];rfl,HW.o⟩
 have d2:decide (4<k)=false:=sI hk4;cases hi:idB on oa
 ·have HV:Hid (opE k on oa key en ea ins vk vn vt va vb l=1):=by show _=_;rw[opE,tA (Or.inr (Or.inr (Or.inl hi)))]
  have C1:=gM on oa hi;clear hk1 hk4 hi;go_enter Tryz.func82,Tryz.ntmps82;go_wp2_with fail
  go_at_call 112;refine(C1 _).mono ?_
  rintro e w1 ⟨rfl,hb⟩;replace HBO:=Hi (HBO.o.keep (hb.block _ HBO.o.lt));replace HW:=Hi (HW.o.trans (hb.mono HW.o.size));clear hb;try clear c0 c1 c2 c3 c4 c5 c6 c7 c8 c9 c10 c11 c12
  obtain⟨c0,c1,c2,c3,c4,c5,c6,c7,c8,c9,c10,c11,c12⟩:=ce13 HBO.o
  go_wp2_with fail
  go_ret;exact⟨by rw[HV.o];rfl,HW.o⟩
 have C1:=fT on oa hi;cases hj:idB en ea
 ·have HV:Hid (opE k on oa key en ea ins vk vn vt va vb l=1):=by show _=_;rw[opE,tA (Or.inr (Or.inr (Or.inr hj)))]
  have C2:=gM en ea hj;clear hk1 hk4 hi hj;go_enter Tryz.func82,Tryz.ntmps82;go_wp2_with fail
  go_at_call 112;refine(C1 _).mono ?_
  rintro e w1 ⟨rfl,hb⟩;replace HBO:=Hi (HBO.o.keep (hb.block _ HBO.o.lt));replace HW:=Hi (HW.o.trans (hb.mono HW.o.size));clear hb;try clear c0 c1 c2 c3 c4 c5 c6 c7 c8 c9 c10 c11 c12
  obtain⟨c0,c1,c2,c3,c4,c5,c6,c7,c8,c9,c10,c11,c12⟩:=ce13 HBO.o
  go_wp2_with fail
  go_at_call 112;refine(C2 _).mono ?_
  rintro e w2 ⟨rfl,hb⟩;replace HBO:=Hi (HBO.o.keep (hb.block _ HBO.o.lt));replace HW:=Hi (HW.o.trans (hb.mono HW.o.size));clear hb;try clear c0 c1 c2 c3 c4 c5 c6 c7 c8 c9 c10 c11 c12
  obtain⟨c0,c1,c2,c3,c4,c5,c6,c7,c8,c9,c10,c11,c12⟩:=ce13 HBO.o
  go_wp2_with fail
  go_ret;exact⟨by rw[HV.o];rfl,HW.o⟩
 have C2:=fT en ea hj;have HV1:Hid (opE k on oa key en ea ins vk vn vt va vb l=if l.all (fun r=>cJ r.1 r.2)=false then 1
  else if 20<key.size then 4 else if eQ l≠0 then eQ l
  else lS k (!key.toList.isEmpty) (bD en ea) ins (!l.isEmpty) (aE vk vn vt va vb) (gG k vk va vb)):=by
  show _=_;rw[opE,sT];rintro(h|h|h|h)
  ·exact hk1 h
  ·exact hk4 h
  ·rw[hi]at h;cases h
  ·rw[hj]at h;cases h
 have HK:Hid (1≤k∧k≤4):=by show _∧_;omega
 clear hk1 hk4 hi hj;go_enter Tryz.func82,Tryz.ntmps82;go_wp2_with fail
 go_at_call 112;refine(C1 _).mono ?_
 rintro e w1 ⟨rfl,hb⟩;replace HBO:=Hi (HBO.o.keep (hb.block _ HBO.o.lt));replace HW:=Hi (HW.o.trans (hb.mono HW.o.size));clear hb;try clear c0 c1 c2 c3 c4 c5 c6 c7 c8 c9 c10 c11 c12
 obtain⟨c0,c1,c2,c3,c4,c5,c6,c7,c8,c9,c10,c11,c12⟩:=ce13 HBO.o
 go_wp2_with fail
 go_at_call 112;refine(C2 _).mono ?_
 rintro e w2 ⟨rfl,hb⟩;replace HBO:=Hi (HBO.o.keep (hb.block _ HBO.o.lt));replace HW:=Hi (HW.o.trans (hb.mono HW.o.size));clear hb;try clear c0 c1 c2 c3 c4 c5 c6 c7 c8 c9 c10 c11 c12
 obtain⟨c0,c1,c2,c3,c4,c5,c6,c7,c8,c9,c10,c11,c12⟩:=ce13 HBO.o
 clear C1 C2;go_wp2_with fail
 clear d1 d2 c0 c1 c2 c3 c4 c5 c6 c7 c8 c9 c10 c11 c12;go_loopw [33] (fun s wr=>∃j:Nat,j≤n∧s=.int .i64 j∧Hid (Below w.heap.size w wr)∧Hid (Blk wr w.heap.size 53 #[.int .i64 k,.int .i64 on,.int .i64 oa,.string key,.int .i64 en,.int .i64 ea,.bool ins,.int .i64 vk,.int .i64 vn,.string vt,.int .i64 va,.int .i64 vb,.slice A n c])∧Hid ((l.take j).all (fun r=>cJ r.1 r.2)=true)) (fun s _=>n-(intOf s).toNat)
 case atStart=>exact⟨0,by omega,rfl,HW,HBO,by show _=_;simp⟩
 case round =>
  clear HW HBO;obtain⟨j,hj,rfl,HW,HBO,HA⟩:=hrel
  by_cases hlt:j<n
  ·obtain⟨b,off,hAe,hb,hcell⟩:=HR.o.at_ (by omega) (by omega)
   subst hAe;obtain⟨r,hr⟩:∃r,l[j]?=some r:=⟨_,sC (by rw[HN.o];exact hlt)⟩
   have hbl:=HD.o b hb;have hblk:∀o,wr.cell? ⟨b,o,none⟩=w.cell? ⟨b,o,none⟩:=fun o=>sK (w:=w) (HW.o.block b hbl)
   obtain⟨h1,h2⟩:=aN hr
   have x1:wr.cell? ⟨b,off+j*2,none⟩=some (.int .i64 r.1):=by rw[hblk];exact hcell _ _ h1
   have x2:wr.cell? ⟨b,off+j*2+1,none⟩=some (.int .i64 r.2):=by rw[hblk];exact hcell _ _ h2
   have HX:=Hi hr;obtain⟨r1,r2⟩:=r
   have RR:=mY r1 r2;have hta:l.take (j+1)=l.take j++[(r1,r2)]:=by rw[sQ,hr];rfl
   cases hz:cJ r1 r2
   case' true =>
    have HA2:Hid ((l.take (j+1)).all (fun r=>cJ r.1 r.2)=true):=by
     show _=_;rw[hta,List.all_append,HA.o];simp[hz]
   case' false =>
    have HV:Hid (opE k on oa key en ea ins vk vn vt va vb l=1):=by
     show _=_;rw[HV1.o,tA];rw[List.all_eq_false];exact⟨(r1,r2),sJ hr,by simp[hz]⟩
   all_goals
    rw[hz]at RR;clear hblk hcell h1 h2 hr hta hz;go_wp2_with fail
    go_at_call 113;refine(RR _).mono ?_
    rintro e w3 ⟨rfl,hb3⟩;have HW3:Hid (Below w.heap.size w w3):=(HW.o.alloc HW.o.size _).trans (hb3.mono (by have:=HW.o.size;simp;omega));have HB3:Hid (Blk w3 w.heap.size 53 #[.int .i64 k,.int .i64 on,.int .i64 oa,.string key,.int .i64 en,.int .i64 ea,.bool ins,.int .i64 vk,.int .i64 vn,.string vt,.int .i64 va,.int .i64 vb,.slice (some ⟨b,off,none⟩) n c]):=(HBO.o.alloc _).keep (hb3.block _ (by have:=HBO.o.lt;simp;omega));clear hb3 RR x1 x2;go_wp2_with fail
    first
     |(go_ret;exact⟨by rw[HV.o];rfl,HW3.o⟩)
     |exact⟨⟨j+1,by omega,by go_num,HW3,HB3,HA2⟩,by simp[intOf];omega⟩
     |(go_roundw
       case rel=>exact⟨j+1,by omega,by go_num,HW3,HB3,HA2⟩
       case measure=>simp[intOf];omega)
  ·have hjn:j=n:=by omega
   have HAll:Hid (l.all (fun r=>cJ r.1 r.2)=true):=by
    have:=HA.o
    rw[sL (by rw[HN.o];omega)]at this;exact this
   clear hjn;obtain⟨c0,c1,c2,c3,c4,c5,c6,c7,c8,c9,c10,c11,c12⟩:=ce13 HBO.o
   by_cases hks:20<key.size
   ·have HV:Hid (opE k on oa key en ea ins vk vn vt va vb l=4):=by show _=_;rw[HV1.o,sT (by rw[HAll.o];simp),tA hks]
    have d1:decide (20<(key.size:Int))=true:=sH (by omega);go_wp2_with fail
    go_ret;exact⟨by rw[HV.o];rfl,HW.o⟩
   have d1:decide (20<(key.size:Int))=false:=sI (by omega);have HRr:aC D wr 2 A n (aF l):=HR.o.keep fun k hk=>HW.o.block k (HD.o k hk)
   have IA:=ids_any l D A c wr (by rw[HN.o];exact HRr) (fun k hk=>sD (HD.o k hk) HW.o.size);rw[HN.o]at IA;by_cases hie:eQ l=0
   case neg =>
    have HV:Hid (opE k on oa key en ea ins vk vn vt va vb l=eQ l):=by show _=_;rw[HV1.o,sT (by rw[HAll.o];simp),sT hks,tA hie]
    rw[show jN (eQ l)=.iface 97 (.int .i64 (eQ l)) from sT hie]at IA;have HE:Hid (jN (eQ l)=.iface 97 (.int .i64 (eQ l))):=by show _=_;exact sT hie
    generalize eQ l=ie at *;clear hie HRr hks;go_wp2_with fail
    go_at_call 114;refine IA.mono ?_;rintro e w3 ⟨rfl,hb⟩;replace HBO:=Hi (HBO.o.keep (hb.block _ HBO.o.lt));replace HW:=Hi (HW.o.trans (hb.mono HW.o.size));clear hb;try clear c0 c1 c2 c3 c4 c5 c6 c7 c8 c9 c10 c11 c12
    obtain⟨c0,c1,c2,c3,c4,c5,c6,c7,c8,c9,c10,c11,c12⟩:=ce13 HBO.o
    go_wp2_with fail
    go_ret;exact⟨by rw[HV.o,HE.o];rfl,HW.o⟩
   have HV2:Hid (opE k on oa key en ea ins vk vn vt va vb l=lS k (!key.toList.isEmpty) (bD en ea) ins (!l.isEmpty) (aE vk vn vt va vb) (gG k vk va vb)):=by
    show _=_;rw[HV1.o,sT (by rw[HAll.o];simp),sT hks,sT (by rw[hie];simp)]
   rw[hie]at IA;rw[show jN 0=.nilIface from rfl]at IA;clear hie HRr hks;go_wp2_with fail
   go_at_call 114;refine IA.mono ?_;rintro e w3 ⟨rfl,hb⟩;replace HBO:=Hi (HBO.o.keep (hb.block _ HBO.o.lt));replace HW:=Hi (HW.o.trans (hb.mono HW.o.size));clear hb;try clear c0 c1 c2 c3 c4 c5 c6 c7 c8 c9 c10 c11 c12
   obtain⟨c0,c1,c2,c3,c4,c5,c6,c7,c8,c9,c10,c11,c12⟩:=ce13 HBO.o
   have CV:=valCheck_any vk vn va vb vt;have OB:=object_any vk vn va vb vt;have dp1:decide (0<(n:Int))=!l.isEmpty:=by
    have:=HN.o
    cases l with
    |nil=>simp at this;subst this;rfl
    |cons x t=>simp at this;simp;omega
   have dp2:((n:Int) == 0)=!(!l.isEmpty):=by
    have:=HN.o
    cases l with
    |nil=>simp at this;subst this;rfl
    |cons x t=>simp at this;simp;omega
   generalize (!l.isEmpty)=pe at HV2 dp1 dp2;generalize hkz:key.toList.isEmpty=kz at HV2;generalize aE vk vn vt va vb=v at HV2 CV;clear HV1 HAll HA d1 IA;generalize hrt:bD en ea=rt at HV2;have hq:=fun w=>eq_root en ea rt hrt w
   clear hrt;rcases(by have:=HK.o;omega:k=1∨k=2∨k=3∨k=4) with rfl|rfl|rfl|rfl
   ·skip
    rw[show gG 1 vk va vb=!dE vk from rfl]at HV2;generalize dE vk=ob at HV2 OB;cases rt;all_goals
     cases ins;all_goals
      cases kz;all_goals
       go_wp2_with fail
       all_goals
        first
         |(go_ret;refine⟨?_,HW.o⟩
           rw[HV2.o];first|rfl|(cases pe<;>first|rfl|simp_all))
         |(go_at_call 115;cases v
           ·rw[dW rfl]at CV;refine(CV _).mono ?_
            rintro e w4 ⟨rfl,hb⟩;replace HBO:=Hi (HBO.o.keep (hb.block _ HBO.o.lt));replace HW:=Hi (HW.o.trans (hb.mono HW.o.size));clear hb;try clear c0 c1 c2 c3 c4 c5 c6 c7 c8 c9 c10 c11 c12
            obtain⟨c0,c1,c2,c3,c4,c5,c6,c7,c8,c9,c10,c11,c12⟩:=cT HBO.o
            go_wp2_with fail
            (go_ret;refine⟨?_,HW.o⟩
             rw[HV2.o];first|rfl|(cases pe<;>first|rfl|simp_all))
           ·rw[eD rfl]at CV;refine(CV _).mono ?_
            rintro e w4 ⟨rfl,hb⟩;replace HBO:=Hi (HBO.o.keep (hb.block _ HBO.o.lt));replace HW:=Hi (HW.o.trans (hb.mono HW.o.size));clear hb;try clear c0 c1 c2 c3 c4 c5 c6 c7 c8 c9 c10 c11 c12
            obtain⟨c0,c1,c2,c3,c4,c5,c6,c7,c8,c9,c10,c11,c12⟩:=cT HBO.o
            go_wp2_with fail
            go_at_call 116;cases ob;all_goals
             refine(OB _).mono ?_
             rintro e w5 ⟨rfl,hb⟩;replace HBO:=Hi (HBO.o.keep (hb.block _ HBO.o.lt));replace HW:=Hi (HW.o.trans (hb.mono HW.o.size));clear hb;try clear c0 c1 c2 c3 c4 c5 c6 c7 c8 c9 c10 c11 c12
             obtain⟨c0,c1,c2,c3,c4,c5,c6,c7,c8,c9,c10,c11,c12⟩:=cT HBO.o
             go_wp2_with fail
             (go_ret;refine⟨?_,HW.o⟩
              rw[HV2.o];first|rfl|(cases pe<;>first|rfl|simp_all)))
   ·skip
    rw[show gG 2 vk va vb=(dE vk&&bD va vb) from rfl]at HV2;generalize dE vk=ob at HV2 OB;generalize hvr:bD va vb=vr at HV2;have hq2:=fun w=>eq_root va vb vr hvr w
    clear hvr;cases rt;all_goals
     cases ins;all_goals
      cases kz;all_goals
       go_wp2_with fail
       all_goals
        first
         |(go_ret;refine⟨?_,HW.o⟩
           rw[HV2.o];first|rfl|(cases pe<;>first|rfl|simp_all))
         |(go_at_call 115;cases v
           ·rw[dW rfl]at CV;refine(CV _).mono ?_
            rintro e w4 ⟨rfl,hb⟩;replace HBO:=Hi (HBO.o.keep (hb.block _ HBO.o.lt));replace HW:=Hi (HW.o.trans (hb.mono HW.o.size));clear hb;try clear c0 c1 c2 c3 c4 c5 c6 c7 c8 c9 c10 c11 c12
            obtain⟨c0,c1,c2,c3,c4,c5,c6,c7,c8,c9,c10,c11,c12⟩:=cT HBO.o
            go_wp2_with fail
            (go_ret;refine⟨?_,HW.o⟩
             rw[HV2.o];first|rfl|(cases pe<;>first|rfl|simp_all))
           ·rw[eD rfl]at CV;refine(CV _).mono ?_
            rintro e w4 ⟨rfl,hb⟩;replace HBO:=Hi (HBO.o.keep (hb.block _ HBO.o.lt));replace HW:=Hi (HW.o.trans (hb.mono HW.o.size));clear hb;try clear c0 c1 c2 c3 c4 c5 c6 c7 c8 c9 c10 c11 c12
            obtain⟨c0,c1,c2,c3,c4,c5,c6,c7,c8,c9,c10,c11,c12⟩:=cT HBO.o
            go_wp2_with fail
            go_at_call 116;cases ob
            case' true=>cases vr
            all_goals
             refine(OB _).mono ?_
             rintro e w5 ⟨rfl,hb⟩;replace HBO:=Hi (HBO.o.keep (hb.block _ HBO.o.lt));replace HW:=Hi (HW.o.trans (hb.mono HW.o.size));clear hb;try clear c0 c1 c2 c3 c4 c5 c6 c7 c8 c9 c10 c11 c12
             obtain⟨c0,c1,c2,c3,c4,c5,c6,c7,c8,c9,c10,c11,c12⟩:=cT HBO.o
             go_wp2_with fail
             (go_ret;refine⟨?_,HW.o⟩
              rw[HV2.o];first|rfl|(cases pe<;>first|rfl|simp_all)))
   ·skip
    rw[show gG 3 vk va vb=(vk == 0) from rfl]at HV2;generalize hz:(vk == 0)=z at HV2;cases rt;all_goals
     cases ins;all_goals
      cases kz;all_goals
       go_wp2_with fail
       all_goals
        first
         |(go_ret;refine⟨?_,HW.o⟩
           rw[HV2.o];first|rfl|(cases pe<;>first|rfl|simp_all))
         |(go_at_call 115;cases v
           ·rw[dW rfl]at CV;refine(CV _).mono ?_
            rintro e w4 ⟨rfl,hb⟩;replace HBO:=Hi (HBO.o.keep (hb.block _ HBO.o.lt));replace HW:=Hi (HW.o.trans (hb.mono HW.o.size));clear hb;try clear c0 c1 c2 c3 c4 c5 c6 c7 c8 c9 c10 c11 c12
            obtain⟨c0,c1,c2,c3,c4,c5,c6,c7,c8,c9,c10,c11,c12⟩:=cT HBO.o
            go_wp2_with fail
            (go_ret;refine⟨?_,HW.o⟩
             rw[HV2.o];first|rfl|(cases pe<;>first|rfl|simp_all))
           ·rw[eD rfl]at CV;refine(CV _).mono ?_
            rintro e w4 ⟨rfl,hb⟩;replace HBO:=Hi (HBO.o.keep (hb.block _ HBO.o.lt));replace HW:=Hi (HW.o.trans (hb.mono HW.o.size));clear hb;try clear c0 c1 c2 c3 c4 c5 c6 c7 c8 c9 c10 c11 c12
            obtain⟨c0,c1,c2,c3,c4,c5,c6,c7,c8,c9,c10,c11,c12⟩:=cT HBO.o
            cases z
            case' true=>cases pe
            all_goals
             go_wp2_with fail
             (go_ret;refine⟨?_,HW.o⟩
              rw[HV2.o];first|rfl|(cases pe<;>first|rfl|simp_all)))
   ·skip
    rw[show gG 4 vk va vb=(vk == 2) from rfl]at HV2;generalize hz:(vk == 2)=z at HV2;cases rt;all_goals
     cases ins;all_goals
      cases kz;all_goals
       go_wp2_with fail
       all_goals
        first
         |(go_ret;refine⟨?_,HW.o⟩
           rw[HV2.o];first|rfl|(cases pe<;>first|rfl|simp_all))
         |(go_at_call 115;cases v
           ·rw[dW rfl]at CV;refine(CV _).mono ?_
            rintro e w4 ⟨rfl,hb⟩;replace HBO:=Hi (HBO.o.keep (hb.block _ HBO.o.lt));replace HW:=Hi (HW.o.trans (hb.mono HW.o.size));clear hb;try clear c0 c1 c2 c3 c4 c5 c6 c7 c8 c9 c10 c11 c12
            obtain⟨c0,c1,c2,c3,c4,c5,c6,c7,c8,c9,c10,c11,c12⟩:=cT HBO.o
            go_wp2_with fail
            (go_ret;refine⟨?_,HW.o⟩
             rw[HV2.o];first|rfl|(cases pe<;>first|rfl|simp_all))
           ·rw[eD rfl]at CV;refine(CV _).mono ?_
            rintro e w4 ⟨rfl,hb⟩;replace HBO:=Hi (HBO.o.keep (hb.block _ HBO.o.lt));replace HW:=Hi (HW.o.trans (hb.mono HW.o.size));clear hb;try clear c0 c1 c2 c3 c4 c5 c6 c7 c8 c9 c10 c11 c12
            obtain⟨c0,c1,c2,c3,c4,c5,c6,c7,c8,c9,c10,c11,c12⟩:=cT HBO.o
            cases z
            case' true=>cases pe
            all_goals
             go_wp2_with fail
             (go_ret;refine⟨?_,HW.o⟩
              rw[HV2.o];first|rfl|(cases pe<;>first|rfl|simp_all)))
end Go.Proofs.YtjhkcbideddlgaaGreat
