/- Contracts: the document's Op: what is wrong with an op. -/
import Derived.Test.YtjhkcbideddlgaaGreatP6
set_option maxHeartbeats 8000000
set_option maxRecDepth 20000
set_option linter.unusedVariables false
set_option linter.unusedSimpArgs false
namespace Go.Proofs.YtjhkcbideddlgaaGreat
open Go.ChangeShapes Go.WideShapes Go.ChangeAt Go.RowKit
theorem iV(k n a b:Int)(t:ByteArray)(w:World):
 Calls Tryz.prog 69 #[.agg #[.int .i64 k,.int .i64 n,.string t,.int .i64 a,.int .i64 b]] w fun e w'=>e=.returned (.bool (dE k))∧Below w.heap.size w w':=by
 by_cases h5:k=5
 ·subst h5;go_enter Tryz.func69,Tryz.ntmps69;go_wp2_with fail
  go_ret;exact⟨aL (by simp[dE]),(sA _ w).alloc (sB _) _⟩
 ·have d5:(k == 5)=false:=by simpa using h5
  have HV:Hid (dE k=(k == 6)):=by
   show _=_;simp[dE,h5];rfl
  clear h5;go_enter Tryz.func69,Tryz.ntmps69;go_wp2_with fail
  go_ret;exact⟨aL HV.o.symm,(sA _ w).alloc (sB _) _⟩
theorem refOp_any(k on oa:Int)(key:ByteArray)(en ea:Int)(ins:Bool)(vk vn:Int)(vt:ByteArray)(va vb:Int)(l:List Rf)(n c:Nat)(D:Nat→Prop)(A:Option Addr)(w:World)
 (hn:l.length=n) (hl:n≤9223372036854775807) (hr:aC D w 2 A n (aF l)) (hD:∀k,D k→k<w.heap.size) :
 Calls Tryz.prog 109 #[.agg #[.int .i64 k,.int .i64 on,.int .i64 oa,.string key,.int .i64 en,.int .i64 ea,.bool ins,.int .i64 vk,.int .i64 vn,.string vt,.int .i64 va,.int .i64 vb,.slice A n c]] w fun e w'=>e=.returned (.int .i64 (opE k on oa key en ea ins vk vn vt va vb l))∧Below w.heap.size w w':=by
 have HR:=Hi hr;have HD:=Hi hD;have HN:=Hi hn;have HW:=Hi ((sA _ w).alloc (sB _) (.cells #[.int .i64 k,.int .i64 on,.int .i64 oa,.string key,.int .i64 en,.int .i64 ea,.bool ins,.int .i64 vk,.int .i64 vn,.string vt,.int .i64 va,.int .i64 vb,.slice A n c] 53));have HBO:=Hi (Blk.new w 53 #[.int .i64 k,.int .i64 on,.int .i64 oa,.string key,.int .i64 en,.int .i64 ea,.bool ins,.int .i64 vk,.int .i64 vn,.string vt,.int .i64 va,.int .i64 vb,.slice A n c]);have C1:=eY on oa;have C2:=eY en ea;clear hr hD hn;go_enter Tryz.func109,Tryz.ntmps109;go_wp2_with fail
 go_at_call 106;refine(C1 _).mono ?_
 rintro e w1 ⟨rfl,hb⟩;replace HBO:=Hi (HBO.o.keep (hb.block _ HBO.o.lt));replace HW:=Hi (HW.o.trans (hb.mono HW.o.size));clear hb;try clear c0 c1 c2 c3 c4 c5 c6 c7 c8 c9 c10 c11 c12
 obtain⟨c0,c1,c2,c3,c4,c5,c6,c7,c8,c9,c10,c11,c12⟩:=ce13 HBO.o
 go_wp2_with fail
 go_at_call 106;refine(C2 _).mono ?_
 rintro e w2 ⟨rfl,hb⟩;replace HBO:=Hi (HBO.o.keep (hb.block _ HBO.o.lt));replace HW:=Hi (HW.o.trans (hb.mono HW.o.size));clear hb;try clear c0 c1 c2 c3 c4 c5 c6 c7 c8 c9 c10 c11 c12
 obtain⟨c0,c1,c2,c3,c4,c5,c6,c7,c8,c9,c10,c11,c12⟩:=ce13 HBO.o
 clear C1 C2;by_cases hk1:k<1
 ·have HV:Hid (opE k on oa key en ea ins vk vn vt va vb l=1):=by show _=_;rw[opE,tA (Or.inl hk1)]
  have d1:decide (k<1)=true:=sH hk1;clear hk1;go_wp2_with fail
  go_ret;exact⟨by rw[HV.o];rfl,HW.o⟩
 have d1:decide (k<1)=false:=sI hk1;by_cases hk4:4<k
 ·have HV:Hid (opE k on oa key en ea ins vk vn vt va vb l=1):=by show _=_;rw[opE,tA (Or.inr (Or.inl hk4))]
  have d2:decide (4<k)=true:=sH hk4;clear hk1 hk4;go_wp2_with fail
  go_ret;exact⟨by rw[HV.o];rfl,HW.o⟩
 have d2:decide (4<k)=false:=sI hk4;cases hi:idB on oa
 ·have HV:Hid (opE k on oa key en ea ins vk vn vt va vb l=1):=by show _=_;rw[opE,tA (Or.inr (Or.inr (Or.inl hi)))]
  clear hk1 hk4;go_wp2_with fail
  go_ret;exact⟨by rw[HV.o];rfl,HW.o⟩
 cases hj:idB en ea
 ·have HV:Hid (opE k on oa key en ea ins vk vn vt va vb l=1):=by show _=_;rw[opE,tA (Or.inr (Or.inr (Or.inr hj)))]
  clear hk1 hk4;go_wp2_with fail
  go_ret;exact⟨by rw[HV.o];rfl,HW.o⟩
 have HV1:Hid (opE k on oa key en ea ins vk vn vt va vb l=if l.all (fun r=>cJ r.1 r.2)=false then 1
  else if 20<key.size then 4 else if eQ l≠0 then eQ l
  else lS k (!key.toList.isEmpty) (bD en ea) ins (!l.isEmpty) (aE vk vn vt va vb) (gG k vk va vb)):=by
  show _=_;rw[opE,sT];rintro(h|h|h|h)
  ·exact hk1 h
  ·exact hk4 h
  ·rw[hi]at h;cases h
  ·rw[hj]at h;cases h
 have HK:Hid (1≤k∧k≤4):=by show _∧_;omega
 clear hk1 hk4;go_wp2_with fail
 clear d1 d2 c0 c1 c2 c3 c4 c5 c6 c7 c8 c9 c10 c11 c12;go_loopw [5] (fun s wr=>∃j:Nat,j≤n∧s=.int .i64 j∧Hid (Below w.heap.size w wr)∧Hid (Blk wr w.heap.size 53 #[.int .i64 k,.int .i64 on,.int .i64 oa,.string key,.int .i64 en,.int .i64 ea,.bool ins,.int .i64 vk,.int .i64 vn,.string vt,.int .i64 va,.int .i64 vb,.slice A n c])∧Hid ((l.take j).all (fun r=>cJ r.1 r.2)=true)) (fun s _=>n-(intOf s).toNat)
 case atStart=>exact⟨0,by omega,rfl,HW,HBO,by show _=_;simp⟩
 case round =>
  clear HW HBO hi hj;obtain⟨j,hj,rfl,HW,HBO,HA⟩:=hrel
  obtain⟨c0,c1,c2,c3,c4,c5,c6,c7,c8,c9,c10,c11,c12⟩:=ce13 HBO.o
  by_cases hlt:j<n
  ·obtain⟨b,off,hAe,hb,hcell⟩:=HR.o.at_ (by omega) (by omega)
   subst hAe;obtain⟨r,hr⟩:∃r,l[j]?=some r:=⟨_,sC (by rw[HN.o];exact hlt)⟩
   have hbl:=HD.o b hb;have hblk:∀o,wr.cell? ⟨b,o,none⟩=w.cell? ⟨b,o,none⟩:=fun o=>sK (w:=w) (HW.o.block b hbl)
   obtain⟨h1,h2⟩:=aN hr
   have x1:wr.cell? ⟨b,off+j*2,none⟩=some (.int .i64 r.1):=by rw[hblk];exact hcell _ _ h1
   have x2:wr.cell? ⟨b,off+j*2+1,none⟩=some (.int .i64 r.2):=by rw[hblk];exact hcell _ _ h2
   have HX:=Hi hr;obtain⟨r1,r2⟩:=r
   have RR:=pK r1 r2;have hta:l.take (j+1)=l.take j++[(r1,r2)]:=by rw[sQ,hr];rfl
   cases hz:cJ r1 r2
   case' true =>
    have HA2:Hid ((l.take (j+1)).all (fun r=>cJ r.1 r.2)=true):=by
     show _=_;rw[hta,List.all_append,HA.o];simp[hz]
   case' false =>
    have HV:Hid (opE k on oa key en ea ins vk vn vt va vb l=1):=by
     show _=_;rw[HV1.o,tA];rw[List.all_eq_false];exact⟨(r1,r2),sJ hr,by simp[hz]⟩
   all_goals
    rw[hz]at RR;clear hblk hcell h1 h2 hr hta hz;go_wp2_with fail
    go_at_call 131;refine(RR _).mono ?_
    rintro e w3 ⟨rfl,hb3⟩;have HW3:Hid (Below w.heap.size w w3):=HW.o.trans (hb3.mono HW.o.size);have HB3:Hid (Blk w3 w.heap.size 53 #[.int .i64 k,.int .i64 on,.int .i64 oa,.string key,.int .i64 en,.int .i64 ea,.bool ins,.int .i64 vk,.int .i64 vn,.string vt,.int .i64 va,.int .i64 vb,.slice (some ⟨b,off,none⟩) n c]):=HBO.o.keep (hb3.block _ HBO.o.lt);clear hb3 RR x1 x2 c0 c1 c2 c3 c4 c5 c6 c7 c8 c9 c10 c11 c12;go_wp2_with fail
    first
     |(go_ret;exact⟨by rw[HV.o];rfl,HW3.o⟩)
     |exact⟨⟨j+1,by omega,by go_num,HW3,HB3,HA2⟩,by simp[intOf];omega⟩
     |(go_roundw
       case rel=>exact⟨j+1,by omega,by go_num,HW3,HB3,HA2⟩
       case measure=>simp[intOf];omega)
  ·have hjn:j=n:=by omega
   have HAll:Hid (l.all (fun r=>cJ r.1 r.2)=true):=by
    have:=HA.o
    rw[sL (by rw[HN.o];omega)]at this;exact this
   clear hjn;by_cases hks:20<key.size
   ·have HV:Hid (opE k on oa key en ea ins vk vn vt va vb l=4):=by show _=_;rw[HV1.o,sT (by rw[HAll.o];simp),tA hks]
    have d1:decide (20<(key.size:Int))=true:=sH (by omega);go_wp2_with fail
    go_ret;exact⟨by rw[HV.o];rfl,HW.o⟩
   have d1:decide (20<(key.size:Int))=false:=sI (by omega);by_cases hln:12<n
   ·have HV:Hid (opE k on oa key en ea ins vk vn vt va vb l=4):=by
     have h4:eQ l=4:=by rw[eQ,tA (by rw[HN.o];exact hln)]
     show _=_;rw[HV1.o,sT (by rw[HAll.o];simp),sT hks,tA (by rw[h4];omega),h4]
    have d2:decide (12<(n:Int))=true:=sH (by omega);go_wp2_with fail
    go_ret;exact⟨by rw[HV.o];rfl,HW.o⟩
   have d2:decide (12<(n:Int))=false:=sI (by omega);have HI:Hid (eQ l=if ordB l then 0 else 5):=by show _=_;rw[eQ,sT (by rw[HN.o];exact hln)]
   have HKS:=Hi hks;clear hks;go_wp2_with fail
   clear d1 d2 c0 c1 c2 c3 c4 c5 c6 c7 c8 c9 c10 c11 c12;have HW0:=HW;have HBO0:=HBO;go_loopw [7] (fun s wr=>∃i:Nat,i≤n∧s=.int .i64 ((i:Int)+1)∧Hid (Below w.heap.size w wr)∧Hid (Blk wr w.heap.size 53 #[.int .i64 k,.int .i64 on,.int .i64 oa,.string key,.int .i64 en,.int .i64 ea,.bool ins,.int .i64 vk,.int .i64 vn,.string vt,.int .i64 va,.int .i64 vb,.slice A n c])∧Hid ((i+1≤n∧gV l (i+1))∨n=0)) (fun s _=>n+1-(intOf s).toNat)
   case atStart =>
    refine⟨0,by omega,rfl,HW0,HBO0,?_⟩
    rcases vH n with h|h
    ·exact .inr h
    ·obtain⟨r,hr⟩:=jY (l:=l) (k:=0) (by rw[HN.o];exact h)
     exact .inl ⟨h,gV.first hr⟩
   case round =>
    clear HW HBO HW0 HBO0;obtain⟨i,hi,rfl,HW,HBO,HO⟩:=hrel
    obtain⟨c0,c1,c2,c3,c4,c5,c6,c7,c8,c9,c10,c11,c12⟩:=ce13 HBO.o
    have hx0:(0:Int)≤(i:Int):=by omega
    have hx1:(0:Int)≤(i:Int)+1:=by omega
    have hw2:IntKind.i64.wrap (i:Int)=(i:Int):=tH _ (by omega);by_cases hlt:i+1<n
    ·obtain⟨b,off,hAe,hb,hcell⟩:=HR.o.at_ (by omega) (by omega)
     subst hAe;have HO1:Hid (gV l (i+1)):=by
      rcases HO.o with h|h
      ·exact h.2
      ·omega
     obtain⟨r,hr⟩:∃r,l[i+1]?=some r:=⟨_,sC (by rw[HN.o];exact hlt)⟩
     obtain⟨p,hp⟩:∃p,l[i]?=some p:=⟨_,sC (by rw[HN.o];omega)⟩
     have hbl:=HD.o b hb;have hblk:∀o,wr.cell? ⟨b,o,none⟩=w.cell? ⟨b,o,none⟩:=fun o=>sK (w:=w) (HW.o.block b hbl)
     obtain⟨h1,h2⟩:=aN hr
     obtain⟨g1,g2⟩:=aN hp
     have x1:wr.cell? ⟨b,off+(i+1)*2,none⟩=some (.int .i64 r.1):=by rw[hblk];exact hcell _ _ h1
     have x2:wr.cell? ⟨b,off+(i+1)*2+1,none⟩=some (.int .i64 r.2):=by rw[hblk];exact hcell _ _ h2
     have x3:wr.cell? ⟨b,off+i*2,none⟩=some (.int .i64 p.1):=by rw[hblk];exact hcell _ _ g1
     have x4:wr.cell? ⟨b,off+i*2+1,none⟩=some (.int .i64 p.2):=by rw[hblk];exact hcell _ _ g2
     obtain⟨r1,r2⟩:=r
     obtain⟨p1,p2⟩:=p
     have hbw:b<wr.heap.size:=sD hbl HW.o.size;have LS:=kK p1 p2 r1 r2;have d1:decide ((i:Int)+1<(n:Int))=true:=sH (by omega);have hx2:(i:Int)<(n:Int):=by omega
     have hx3:(i:Int)+1<(n:Int):=by omega
     have hx4:((i:Int)+1).toNat=i+1:=by omega
     cases hls:fC p1 p2 r1 r2
     case' true=>have HQ:=Hi (HO1.o.next hp hr hls)
     case' false =>
      have HQ:Hid (opE k on oa key en ea ins vk vn vt va vb l=5):=by
       have h5:eQ l=5:=by rw[HI.o,HO1.o.bad hp hr hls];rfl
       show _=_;rw[HV1.o,sT (by rw[HAll.o];simp),sT HKS.o,tA (by rw[h5];omega),h5]
     all_goals
      rw[hls]at LS;clear hblk hcell h1 h2 hr hp g1 g2 hls HO HO1;go_wp2_with fail
      go_region_held3 (fun w'=>w'.cell? ⟨b,off+i*2,none⟩=some (.int .i64 p1)∧w'.cell? ⟨b,off+i*2+1,none⟩=some (.int .i64 p2)∧w'.cell? ⟨b,off+(i+1)*2,none⟩=some (.int .i64 r1)∧w'.cell? ⟨b,off+(i+1)*2+1,none⟩=some (.int .i64 r2)∧w'.cell? ⟨w.heap.size,12,none⟩=some (.slice (some ⟨b,off,none⟩) n c))
       (first|exact⟨x3,x4,x1,x2,c12⟩|exact⟨v1,v2,v3,v4,v5⟩|go_keep)
       ((go_at_call 61;refine(LS _).mono ?_;rintro e w3 ⟨rfl,hb3⟩;have HW3:Hid (Below w.heap.size w w3):=Hi (HW.o.drew.trans (Below.mono hb3 HW.o.size));have HB3:Hid (Blk w3 w.heap.size 53 #[.int .i64 k,.int .i64 on,.int .i64 oa,.string key,.int .i64 en,.int .i64 ea,.bool ins,.int .i64 vk,.int .i64 vn,.string vt,.int .i64 va,.int .i64 vb,.slice (some ⟨b,off,none⟩) n c]):=Hi (HBO.o.keep (hb3.block _ (by exact HBO.o.lt)));have v1:w3.cell? ⟨b,off+i*2,none⟩=some (.int .i64 p1):=(hb3.cell (by exact hbw)).trans x3;have v2:w3.cell? ⟨b,off+i*2+1,none⟩=some (.int .i64 p2):=(hb3.cell (by exact hbw)).trans x4;have v3:w3.cell? ⟨b,off+(i+1)*2,none⟩=some (.int .i64 r1):=(hb3.cell (by exact hbw)).trans x1;have v4:w3.cell? ⟨b,off+(i+1)*2+1,none⟩=some (.int .i64 r2):=(hb3.cell (by exact hbw)).trans x2;have v5:w3.cell? ⟨w.heap.size,12,none⟩=some (.slice (some ⟨b,off,none⟩) n c):=(hb3.cell (by exact HBO.o.lt)).trans c12))
      all_goals
       clear x1 x2 x3 x4 hb3 LS c0 c1 c2 c3 c4 c5 c6 c7 c8 c9 c10 c11 c12 v1 v2 v3 v4 v5;go_wp2_with fail
       first
        |(go_ret;exact⟨by rw[HQ.o];rfl,HW3.o⟩)
        |exact⟨⟨i+1,by omega,by go_num,HW3,HB3,.inl ⟨by omega,HQ⟩⟩,by simp[intOf];omega⟩
        |(go_roundw
          case rel=>exact⟨i+1,by omega,by go_num,HW3,HB3,.inl ⟨by omega,HQ⟩⟩
          case measure=>simp[intOf];omega)
    ·have hie:eQ l=0:=by
      rcases HO.o with h|h
      ·rw[HI.o,h.2.fin (by rw[HN.o];omega)];rfl
      ·have:l=[]:=uK.1 (by rw[HN.o];exact h)
       rw[this];rfl
     have d1:decide ((i:Int)+1<(n:Int))=false:=sI (by omega);have HV2:Hid (opE k on oa key en ea ins vk vn vt va vb l=lS k (!key.toList.isEmpty) (bD en ea) ins (!l.isEmpty) (aE vk vn vt va vb) (gG k vk va vb)):=by
      show _=_;rw[HV1.o,sT (by rw[HAll.o];simp),sT HKS.o,sT (by rw[hie];simp)]
     have RT:=cB en ea;have RV:=cB va vb;have CV:=jT vk vn va vb vt;have OB:=iV vk vn va vb vt;have dp1:decide (0<(n:Int))=!l.isEmpty:=by
      have:=HN.o
      cases l with
      |nil=>simp at this;subst this;rfl
      |cons x t=>simp at this;simp;omega
     have dp2:((n:Int) == 0)=!(!l.isEmpty):=by
      have:=HN.o
      cases l with
      |nil=>simp at this;subst this;rfl
      |cons x t=>simp at this;simp;omega
     generalize (!l.isEmpty)=pe at HV2 dp1 dp2;generalize hkz:key.toList.isEmpty=kz at HV2;generalize aE vk vn vt va vb=v at HV2 CV;generalize bD en ea=rt at HV2 RT;clear HV1 HAll HA hie HO HI hx0 hx1 hw2;go_wp2_with fail
     go_at_call 34;refine(RT _).mono ?_
     rintro e w4 ⟨rfl,hb⟩;replace HBO:=Hi (HBO.o.keep (hb.block _ HBO.o.lt));replace HW:=Hi (HW.o.trans (hb.mono HW.o.size));clear hb;try clear c0 c1 c2 c3 c4 c5 c6 c7 c8 c9 c10 c11 c12
     obtain⟨c0,c1,c2,c3,c4,c5,c6,c7,c8,c9,c10,c11,c12⟩:=ce13 HBO.o
     clear RT d1;rcases(by have:=HK.o;omega:k=1∨k=2∨k=3∨k=4) with rfl|rfl|rfl|rfl
     ·skip
      rw[show gG 1 vk va vb=!dE vk from rfl]at HV2;generalize dE vk=ob at HV2 OB;cases rt;all_goals
       cases ins;all_goals
        cases kz;all_goals
         go_wp2_with fail
         all_goals
          first
           |(go_ret;refine⟨?_,HW.o⟩
             rw[HV2.o];first|rfl|(cases pe<;>first|rfl|simp_all))
           |(go_at_call 68;cases v
             ·refine(CV _).mono ?_
              rintro e w5 ⟨rfl,hb⟩;replace HBO:=Hi (HBO.o.keep (hb.block _ HBO.o.lt));replace HW:=Hi (HW.o.trans (hb.mono HW.o.size));clear hb;try clear c0 c1 c2 c3 c4 c5 c6 c7 c8 c9 c10 c11 c12
              obtain⟨c0,c1,c2,c3,c4,c5,c6,c7,c8,c9,c10,c11,c12⟩:=cT HBO.o
              go_wp2_with fail
              (go_ret;refine⟨?_,HW.o⟩
               rw[HV2.o];first|rfl|(cases pe<;>first|rfl|simp_all))
             ·refine(CV _).mono ?_
              rintro e w5 ⟨rfl,hb⟩;replace HBO:=Hi (HBO.o.keep (hb.block _ HBO.o.lt));replace HW:=Hi (HW.o.trans (hb.mono HW.o.size));clear hb;try clear c0 c1 c2 c3 c4 c5 c6 c7 c8 c9 c10 c11 c12
              obtain⟨c0,c1,c2,c3,c4,c5,c6,c7,c8,c9,c10,c11,c12⟩:=cT HBO.o
              go_wp2_with fail
              go_at_call 69;cases ob;all_goals
               refine(OB _).mono ?_
               rintro e w6 ⟨rfl,hb⟩;replace HBO:=Hi (HBO.o.keep (hb.block _ HBO.o.lt));replace HW:=Hi (HW.o.trans (hb.mono HW.o.size));clear hb;try clear c0 c1 c2 c3 c4 c5 c6 c7 c8 c9 c10 c11 c12
               obtain⟨c0,c1,c2,c3,c4,c5,c6,c7,c8,c9,c10,c11,c12⟩:=cT HBO.o
               go_wp2_with fail
               (go_ret;refine⟨?_,HW.o⟩
                rw[HV2.o];first|rfl|(cases pe<;>first|rfl|simp_all)))
     ·skip
      rw[show gG 2 vk va vb=(dE vk&&bD va vb) from rfl]at HV2;generalize dE vk=ob at HV2 OB;generalize bD va vb=vr at HV2 RV;cases rt;all_goals
       cases ins;all_goals
        cases kz;all_goals
         go_wp2_with fail
         all_goals
          first
           |(go_ret;refine⟨?_,HW.o⟩
             rw[HV2.o];first|rfl|(cases pe<;>first|rfl|simp_all))
           |(go_at_call 68;cases v
             ·refine(CV _).mono ?_
              rintro e w5 ⟨rfl,hb⟩;replace HBO:=Hi (HBO.o.keep (hb.block _ HBO.o.lt));replace HW:=Hi (HW.o.trans (hb.mono HW.o.size));clear hb;try clear c0 c1 c2 c3 c4 c5 c6 c7 c8 c9 c10 c11 c12
              obtain⟨c0,c1,c2,c3,c4,c5,c6,c7,c8,c9,c10,c11,c12⟩:=cT HBO.o
              go_wp2_with fail
              (go_ret;refine⟨?_,HW.o⟩
               rw[HV2.o];first|rfl|(cases pe<;>first|rfl|simp_all))
             ·refine(CV _).mono ?_
              rintro e w5 ⟨rfl,hb⟩;replace HBO:=Hi (HBO.o.keep (hb.block _ HBO.o.lt));replace HW:=Hi (HW.o.trans (hb.mono HW.o.size));clear hb;try clear c0 c1 c2 c3 c4 c5 c6 c7 c8 c9 c10 c11 c12
              obtain⟨c0,c1,c2,c3,c4,c5,c6,c7,c8,c9,c10,c11,c12⟩:=cT HBO.o
              go_wp2_with fail
              go_at_call 69;cases ob
              ·refine(OB _).mono ?_
               rintro e w6 ⟨rfl,hb⟩;replace HBO:=Hi (HBO.o.keep (hb.block _ HBO.o.lt));replace HW:=Hi (HW.o.trans (hb.mono HW.o.size));clear hb;try clear c0 c1 c2 c3 c4 c5 c6 c7 c8 c9 c10 c11 c12
               obtain⟨c0,c1,c2,c3,c4,c5,c6,c7,c8,c9,c10,c11,c12⟩:=cT HBO.o
               go_wp2_with fail
               (go_ret;refine⟨?_,HW.o⟩
                rw[HV2.o];first|rfl|(cases pe<;>first|rfl|simp_all))
              ·refine(OB _).mono ?_
               rintro e w6 ⟨rfl,hb⟩;replace HBO:=Hi (HBO.o.keep (hb.block _ HBO.o.lt));replace HW:=Hi (HW.o.trans (hb.mono HW.o.size));clear hb;try clear c0 c1 c2 c3 c4 c5 c6 c7 c8 c9 c10 c11 c12
               obtain⟨c0,c1,c2,c3,c4,c5,c6,c7,c8,c9,c10,c11,c12⟩:=cT HBO.o
               go_wp2_with fail
               go_at_call 34;cases vr;all_goals
                refine(RV _).mono ?_
                rintro e w7 ⟨rfl,hb⟩;replace HBO:=Hi (HBO.o.keep (hb.block _ HBO.o.lt));replace HW:=Hi (HW.o.trans (hb.mono HW.o.size));clear hb;try clear c0 c1 c2 c3 c4 c5 c6 c7 c8 c9 c10 c11 c12
                obtain⟨c0,c1,c2,c3,c4,c5,c6,c7,c8,c9,c10,c11,c12⟩:=cT HBO.o
                go_wp2_with fail
                (go_ret;refine⟨?_,HW.o⟩
                 rw[HV2.o];first|rfl|(cases pe<;>first|rfl|simp_all)))
     ·skip
      rw[show gG 3 vk va vb=(vk == 0) from rfl]at HV2;generalize hz:(vk == 0)=z at HV2;cases rt;all_goals
       cases ins;all_goals
        cases kz;all_goals
         go_wp2_with fail
         all_goals
          first
           |(go_ret;refine⟨?_,HW.o⟩
             rw[HV2.o];first|rfl|(cases pe<;>first|rfl|simp_all))
           |(go_at_call 68;cases v
             ·refine(CV _).mono ?_
              rintro e w5 ⟨rfl,hb⟩;replace HBO:=Hi (HBO.o.keep (hb.block _ HBO.o.lt));replace HW:=Hi (HW.o.trans (hb.mono HW.o.size));clear hb;try clear c0 c1 c2 c3 c4 c5 c6 c7 c8 c9 c10 c11 c12
              obtain⟨c0,c1,c2,c3,c4,c5,c6,c7,c8,c9,c10,c11,c12⟩:=cT HBO.o
              go_wp2_with fail
              (go_ret;refine⟨?_,HW.o⟩
               rw[HV2.o];first|rfl|(cases pe<;>first|rfl|simp_all))
             ·refine(CV _).mono ?_
              rintro e w5 ⟨rfl,hb⟩;replace HBO:=Hi (HBO.o.keep (hb.block _ HBO.o.lt));replace HW:=Hi (HW.o.trans (hb.mono HW.o.size));clear hb;try clear c0 c1 c2 c3 c4 c5 c6 c7 c8 c9 c10 c11 c12
              obtain⟨c0,c1,c2,c3,c4,c5,c6,c7,c8,c9,c10,c11,c12⟩:=cT HBO.o
              go_wp2_with fail
              go_at_call 69;refine(OB _).mono ?_
              rintro e w6 ⟨rfl,hb⟩;replace HBO:=Hi (HBO.o.keep (hb.block _ HBO.o.lt));replace HW:=Hi (HW.o.trans (hb.mono HW.o.size));clear hb;try clear c0 c1 c2 c3 c4 c5 c6 c7 c8 c9 c10 c11 c12
              obtain⟨c0,c1,c2,c3,c4,c5,c6,c7,c8,c9,c10,c11,c12⟩:=cT HBO.o
              cases z
              case' true=>cases pe
              all_goals
               go_wp2_with fail
               (go_ret;refine⟨?_,HW.o⟩
                rw[HV2.o];first|rfl|(cases pe<;>first|rfl|simp_all)))
     ·skip
      rw[show gG 4 vk va vb=(vk == 2) from rfl]at HV2;generalize hz:(vk == 2)=z at HV2;cases rt;all_goals
       cases ins;all_goals
        cases kz;all_goals
         go_wp2_with fail
         all_goals
          first
           |(go_ret;refine⟨?_,HW.o⟩
             rw[HV2.o];first|rfl|(cases pe<;>first|rfl|simp_all))
           |(go_at_call 68;cases v
             ·refine(CV _).mono ?_
              rintro e w5 ⟨rfl,hb⟩;replace HBO:=Hi (HBO.o.keep (hb.block _ HBO.o.lt));replace HW:=Hi (HW.o.trans (hb.mono HW.o.size));clear hb;try clear c0 c1 c2 c3 c4 c5 c6 c7 c8 c9 c10 c11 c12
              obtain⟨c0,c1,c2,c3,c4,c5,c6,c7,c8,c9,c10,c11,c12⟩:=cT HBO.o
              go_wp2_with fail
              (go_ret;refine⟨?_,HW.o⟩
               rw[HV2.o];first|rfl|(cases pe<;>first|rfl|simp_all))
             ·refine(CV _).mono ?_
              rintro e w5 ⟨rfl,hb⟩;replace HBO:=Hi (HBO.o.keep (hb.block _ HBO.o.lt));replace HW:=Hi (HW.o.trans (hb.mono HW.o.size));clear hb;try clear c0 c1 c2 c3 c4 c5 c6 c7 c8 c9 c10 c11 c12
              obtain⟨c0,c1,c2,c3,c4,c5,c6,c7,c8,c9,c10,c11,c12⟩:=cT HBO.o
              go_wp2_with fail
              go_at_call 69;refine(OB _).mono ?_
              rintro e w6 ⟨rfl,hb⟩;replace HBO:=Hi (HBO.o.keep (hb.block _ HBO.o.lt));replace HW:=Hi (HW.o.trans (hb.mono HW.o.size));clear hb;try clear c0 c1 c2 c3 c4 c5 c6 c7 c8 c9 c10 c11 c12
              obtain⟨c0,c1,c2,c3,c4,c5,c6,c7,c8,c9,c10,c11,c12⟩:=cT HBO.o
              cases z
              case' true=>cases pe
              all_goals
               go_wp2_with fail
               (go_ret;refine⟨?_,HW.o⟩
                rw[HV2.o];first|rfl|(cases pe<;>first|rfl|simp_all)))
end Go.Proofs.YtjhkcbideddlgaaGreat
