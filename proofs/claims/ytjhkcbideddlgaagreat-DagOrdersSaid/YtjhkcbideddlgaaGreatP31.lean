/- The law's Changes: all changes that some hands make. -/
import Derived.Test.YtjhkcbideddlgaaGreatP29
import Derived.Test.YtjhkcbideddlgaaGreatP30
import Derived.Test.YtjhkcbideddlgaaGreatP4
import Derived.Test.YtjhkcbideddlgaaGreatP10
import Derived.Test.YtjhkcbideddlgaaGreatP1
import Derived.Deep.DeepCutAuto
import Derived.Deep.CutBlock
import Derived.Deep.RegionHeld3
set_option maxHeartbeats 32000000
set_option linter.unusedVariables false
set_option linter.unusedSimpArgs false
namespace Go.Proofs.YtjhkcbideddlgaaGreat
open Go.ChangeShapes Go.WideShapes Go.ChangeAt Go.RowKit Go.Proofs.YtjhkcbideddlgaaGreat.Loc
def ChangesR(w:World)(e:Ending)(w':World):Prop :=
 ∃(L W:List ChD) (v:Value),Inv L W∧e=.returned v∧w'.ownsRow w.heap.size 33 5 v (dU L).length (aW (dU L))∧(∀c∈dU L,ChIn (fun k=>w.heap.size≤k∧k<w'.heap.size) w' c)∧Below w.heap.size w w'
set_option maxRecDepth 40000 in
theorem changes_any(nn:Nat)(hnn:1≤nn∧nn≤3)(rows:List iM)(A:Option Addr)(cA:Nat)(w:World)(hr:aC (fun k=>k<w.heap.size) w 1 A rows.length (rows.map iM.val))(hok:∀a∈rows,a.ok w)(hl:rows.length≤9223372036854775807):
 Calls Tryz.prog 6 #[.int .i64 nn,.slice A rows.length cA] w fun e w'=>ChangesR w e w':=by
 obtain⟨ns,hns⟩:∃n,rows.length=n:=⟨_,rfl⟩
 have HNS:=Hi hns;have HRS:=Hi hr;have HOK:=Hi hok;rw[hns]at HRS hl ⊢;clear hr hok hns;have HW0:Hid (Below w.heap.size w (w.alloc (.cells #[.int .i64 0,.int .i64 0] 48))):=(sA _ w).alloc (sB _) _;have HO0:Hid ((w.alloc (.cells #[.int .i64 0,.int .i64 0] 48)).ownsRow w.heap.size 48 2 (.slice (some ⟨w.heap.size,0,none⟩) 1 1) 1 (aF [(0,0)])):=World.ownsRow_lit w #[.int .i64 0,.int .i64 0] 1 (sB _) (by simp[maxLen]) rfl;go_enter Tryz.func6,Tryz.ntmps6;go_upto_region 4 with fail
 generalize w.alloc (.cells #[.int .i64 0,.int .i64 0] 48)=w1 at HW0 HO0 ⊢;obtain⟨B,hB⟩:∃B,w.heap.size=B:=⟨_,rfl⟩
 have HBB:=Hi hB;rw[hB]at HO0 ⊢;clear hB;go_loopw [5,7,8] (fun s5 s7 _ wr=>∃(i:Nat) (G:Nat→Nat) (v5:Value),v5=s5∧s7=.int .i64 i∧i≤nn∧Hid (wr.ownsRow (B+1) 70 1 v5 i (jG G i))∧Hid (cE (B+1) i (fun k=>v5.ownBlock=some k) wr G)∧Hid (Below (B+1) w1 wr)) (fun _ s7 _ _=>nn-(intOf s7).toNat)
 case atStart=>exact⟨0,fun _=>0,_,rfl,rfl,uU _,bB _ _ _ _,cE.nil _ _ _ _,sA _ _⟩
 case round =>
  obtain⟨i,G,v5,rfl,rfl,hi,HV5,HX,HB⟩:=hrel
  have HSZ:Hid (B+1≤w1.heap.size):=by
   have h1:=(aD HO0.o (g:=B) rfl).2;show _≤_;omega
  by_cases hlt:i<nn
  ·have hw1:IntKind.i64.wrap ((i:Int)+1)=(i:Int)+1:=tH _ (by omega);have C1:=HX.o.add (by have:=HSZ.o;have:=HB.o.size;omega) (fun k hk=>(aD HV5.o hk).2) ((i:Int)+1) ⟨by omega,by omega⟩;go_wp2_with fail
   go_at_call 26;refine C1.mono ?_;rintro e w2 ⟨g,rfl,hx,hb⟩;have HX2:=Hi hx;have HB2:Hid (Below (B+1) w1 w2):=HB.o.trans (hb.mono (by have:=HSZ.o;have:=HB.o.size;omega));have HV2:=Hi (aO HV5.o hb);obtain⟨i0,hi0,hz0,hz1,hz2⟩:=info_parts infoHp
   have hi:=hi0;clear C1 hx hb;go_wp2_with (at_builtin;refine aG _ rfl (.tmp 29) (.tmp 31) _ rfl (B+1) 70 i0 _ 1 8 Tryz.underlying69 hi hz0 hz1 hz2 rfl (by omega) (v5) (i) (jG G i) rfl (HV2.o.alloc _) _ (some ⟨w2.heap.size,0,none⟩) (1) (1) ([.pointer (some ⟨g,0,none⟩)]) rfl ((cD (by exact Blk.new w2 _ #[.pointer (some ⟨g,0,none⟩)]) (n:=1) rfl)) ((by intro u hu;rw[sP.1 hu];rfl)) ?c1 ?c2 ?c3 ?_)
   try case c1=>simp only[maxLen];omega
   try case c2=>omega
   try case c3=>rw[tB];have:=HSZ.o;have:=HB2.o.size;omega
   intro v6 w6 ho6 hg6 hat6;have HV6:Hid (w6.ownsRow (B+1) 70 1 v6 (i+1) (jG (fun j=>if j=i then g else G j) (i+1))):=by
    show World.ownsRow _ _ _ _ _ _ _;rw[ptrs_snoc];exact ho6
   have hch:Chg (fun k=>v5.ownBlock=some k∨w2.heap.size≤k) w2 w6:=((Chg.refl w2).alloc _).grown hg6 (fun k hk=>.inl (.inl hk));have HX6:Hid (cE (B+1) (i+1) (fun k=>v6.ownBlock=some k) w6 (fun j=>if j=i then g else G j)):=((HX2.o.setQ (Q':=fun k=>v5.ownBlock=some k∨w2.heap.size≤k) (fun k hk=>hk)).chg hch).setQ fun k hk=>.inl (by
    rcases hat6 with h|h
    ·rw[h]at hk;exact .inl hk
    ·rw[h]at hk;have:=tK hk
     exact .inr (by omega))
   have HB6:Hid (Below (B+1) w1 w6):=(HB2.o.alloc (by have:=HSZ.o;have:=HB2.o.size;omega) _).grown hg6 (by rw[tB];have:=HSZ.o;have:=HB2.o.size;omega) (fun k hk=>(aD HV5.o hk).1);clear ho6 hg6 hat6 hch HX2 HB2 HV2 hi hz0 hz1 hz2;go_wp2_with fail
   go_roundw
   case rel=>exact⟨i+1,_,v6,rfl,by go_num,by omega,HV6,HX6,HB6⟩
   case measure=>(simp[intOf];try omega)
  ·have hin:i=nn:=by omega
   subst hin;have HX0:Hid (cE w.heap.size i (fun k=>(Value.slice (some ⟨w.heap.size,0,none⟩) 1 1).ownBlock=some k∨v5.ownBlock=some k) wr G):=HX.o.low (by have:=HBB.o;omega) fun k hk=>by
    rcases hk with h|h
    ·have h2:w.heap.size=k:=tK h;have:=HBB.o
     exact .inr (by omega)
    ·exact .inl h
   have HVH:Hid (wr.ownsRow w.heap.size 70 1 v5 i (jG G i)):=bG HV5.o fun k hk=>by have:=(aD HV5.o hk).1;have:=HBB.o;omega
   have HVO:Hid (wr.ownsRow w.heap.size 48 2 (.slice (some ⟨B,0,none⟩) 1 1) 1 (aF [(0,0)])):=by
    have h1:=aT HO0.o fun k hk=>HB.o.block k (by have h2:B=k:=tK hk;omega)
    exact bG h1 fun k hk=>by have h2:B=k:=tK hk;have:=HBB.o;omega
   have HBW:Hid (Below w.heap.size w wr):=HW0.o.trans (HB.o.mono (by have:=HBB.o;omega));rw[HBB.o]at HX0;clear HX HV5 HB HO0 HW0 hlt hi;generalize wr=w2 at HX0 HVH HVO HBW ⊢;obtain⟨AH,cH,hvh,-,-,-⟩:=aC.of_own HVH.o
   subst hvh;go_upto_region 9 with fail
   go_loopw [6,9,10,11,14] (fun s6 s9 _ _ _ wr=>∃(j no:Nat) (vo:Value) (O:List Rf),vo=s6∧s9=.int .i64 j∧j≤60∧no≤j+1∧0<no∧Hid (O.length=no∧∀r∈O,eL r)∧Hid (wr.ownsRow w.heap.size 48 2 vo no (aF O))∧Hid (wr.ownsRow w.heap.size 70 1 (.slice AH i cH) i (jG G i))∧Hid (cE w.heap.size i (fun k=>vo.ownBlock=some k∨(Value.slice AH i cH).ownBlock=some k) wr G)∧Hid (Below w.heap.size w wr)) (fun _ s9 _ _ _ _=>60-(intOf s9).toNat)
   case atStart=>exact⟨0,1,_,[(0,0)],rfl,rfl,by omega,by omega,by omega,⟨rfl,fun r hr=>by rw[sP.1 hr];exact⟨by decide,by decide⟩⟩,HVO,HVH,(by rw[←HBB.o]at HX0 ⊢;exact HX0),HBW⟩
   case round =>
    clear HX0 HVH HVO HBW;obtain⟨j,no,vo,O,rfl,rfl,hj,hno,hno0,HOL,HVO,HVH,HX,HBW⟩:=hrel
    by_cases hlt:j<ns∧j<60
    ·obtain⟨hlt1,hlt2⟩:=hlt
     obtain⟨a,ha⟩:∃a,rows[j]?=some a:=⟨_,sC (by rw[HNS.o];exact hlt1)⟩
     have HAK:=Hi (HOK.o a (sJ ha));have ATC:Hid (∀V,Below w.heap.size w V→∀i:Int,0≤i→Calls Tryz.prog 27 #[a.val,.int .i64 i] V fun e w'=>(∃x:Int,e=.returned (.int .i64 x)∧(-9223372036854775808≤x∧x≤9223372036854775807)∧IntKind.i64.wrap x=x)∧w'=V):=fun V hv i hi=>atS_any a HAK.o hv i hi
     obtain⟨sb,so,hA,-,hcs⟩:=(aA HRS.o HBW.o).at_ (by omega) (by omega)
     have y0:wr.cell? ⟨sb,so+j,none⟩=some a.val:=hcs _ _ (by rw[uQ,ha];rfl);subst hA;obtain⟨AO,cO,hvo,-,-,hro⟩:=aC.of_own HVO.o
     subst hvo;obtain⟨_,_,hve,-,-,hrh⟩:=aC.of_own HVH.o
     simp only[tS,true_and]at hve;obtain⟨rfl,rfl⟩:=hve
     obtain⟨hb,ho,rfl,-,hch⟩:=hrh.at_ (by omega) (by omega)
     have HCH:Hid (∀p,p<i→wr.cell? ⟨hb,ho+p,none⟩=some (.pointer (some ⟨G p,0,none⟩))):=fun p hp=>hch _ _ (ptrs_at hp)
     obtain⟨ob,oo,rfl,-,hco⟩:=hro.at_ (by omega) (by omega)
     have HCO:Hid (∀p r,O[p]?=some r→wr.cell? ⟨ob,oo+p*2,none⟩=some (.int .i64 r.1)∧wr.cell? ⟨ob,oo+p*2+1,none⟩=some (.int .i64 r.2)):=fun p r hr=>⟨hco _ _ (aN hr).1,by have:=hco _ _ (aN hr).2;rw[←tY]at this;exact this⟩
     clear hcs ha hrh hch hro hco;go_wp2_with fail
     go_at_call 27;refine(ATC.out _ HBW.o 0 (by decide)).mono ?_
     rintro e wr ⟨⟨x0,rfl,hx0,-⟩,rfl⟩;go_wp2_with fail
     go_at_call 10;refine(gI x0 i _ hx0 ⟨by omega,by omega⟩).mono ?_
     rintro e wr ⟨⟨p,hp,-,rfl⟩,rfl⟩;have z0:=HCH.o p hp;clear y0 hx0;go_wp2_with fail
     go_at_call 27;refine(ATC.out _ HBW.o 2 (by decide)).mono ?_
     rintro e wr ⟨⟨x2,rfl,hx2,-⟩,rfl⟩;clear z0;go_wp2_with fail
     go_at_call 10;refine(gI x2 no _ hx2 ⟨by omega,by omega⟩).mono ?_
     rintro e wr ⟨⟨p2,hp2,-,rfl⟩,rfl⟩;obtain⟨⟨o1,o2⟩,ho12⟩:∃r,O[p2]?=some r:=⟨_,sC (by rw[HOL.o.1];exact hp2)⟩
     obtain⟨z1,z2⟩:=HCO.o p2 _ ho12
     clear hx2 ho12 HCH HCO;go_upto_region 15 with fail
     have hb1:Below wr.heap.size wr (wr.alloc (.cells #[.int .i64 o1,.int .i64 o2] 48)):=(sA _ wr).alloc (sB _) _;have hb2:=hb1.alloc hb1.size (.cells #[.int .i64 0,.int .i64 0] 48);have hB1:=Blk.new wr 48 #[.int .i64 o1,.int .i64 o2];have hB2:=Blk.new (wr.alloc (.cells #[.int .i64 o1,.int .i64 o2] 48)) 48 #[.int .i64 0,.int .i64 0];rw[tB]at hB2;have HR0:Hid (Rnd w i G (.slice (some ⟨ob,oo,none⟩) no cO) (.slice (some ⟨hb,ho,none⟩) i cH) no (aF O) wr.heap.size (wr.heap.size+1) o1 o2 ((wr.alloc (.cells #[.int .i64 o1,.int .i64 o2] 48)).alloc (.cells #[.int .i64 0,.int .i64 0] 48))) :=
      ⟨(HX.o.setQ fun k hk=>by
       rcases hk with h|h|h|h
       ·exact .inl (.inl h)
       ·exact .inl (.inr h)
       ·exact .inr (by omega)
       ·exact .inr (by omega)).below hb2,hB1.alloc _,⟨0,0,hB2,by decide,by decide⟩,aO HVO.o hb2,aO HVH.o hb2,HBW.o.trans (hb2.mono HBW.o.size),fun e=>by have:=(aD HVO.o e).2;omega⟩
     have HQW:Hid (w.heap.size≤wr.heap.size):=HBW.o.size;clear hb1 hb2 hB1 hB2 z1 z2 HX HVO HVH HBW;generalize (wr.alloc (.cells #[.int .i64 o1,.int .i64 o2] 48)).alloc (.cells #[.int .i64 0,.int .i64 0] 48)=w6 at HR0 ⊢;generalize wr.heap.size=q at HR0 HQW ⊢;go_wp2_with fail
     go_at_call 27;refine(ATC.out _ HR0.o.bl 1 (by decide)).mono ?_
     rintro e w6 ⟨⟨x1,rfl,hx1,-⟩,rfl⟩;have CP:Calls Tryz.prog 10 #[.int .i64 x1,.int .i64 14] w6 fun e w'=>(∃p:Nat,p<14∧(p:Int)=(x1.tmod (14:Nat)+(14:Nat)) % (14:Nat)∧e=.returned (.int .i64 p))∧w'=w6:=gI x1 14 w6 hx1 ⟨by omega,by omega⟩
     go_wp2_with fail
     go_at_call 10;refine CP.mono ?_;rintro e w6 ⟨⟨pk,hpk,-,rfl⟩,rfl⟩;clear CP hx1;obtain⟨pz,hpz⟩:∃z:Int,(pk:Int)=z:=⟨_,rfl⟩
     rw[hpz];have hpz2:0≤pz∧pz<14:=by omega
     clear hpz hpk;go_upto_block 4 with fail
     go_cut [] (fun wc=>Hid (Rnd w i G (.slice (some ⟨ob,oo,none⟩) no cO) (.slice (some ⟨hb,ho,none⟩) i cH) no (aF O) q (q+1) o1 o2 wc))
     case first =>
      as_aux_lemma =>
       rcases(by omega:pz=0∨pz=1∨pz=2∨pz=3∨pz=4∨pz=5∨pz=6∨pz=7∨pz=8∨pz=9∨pz=10∨pz=11∨pz=12∨pz=13) with rfl|rfl|rfl|rfl|rfl|rfl|rfl|rfl|rfl|rfl|rfl|rfl|rfl|rfl
       all_goals clear hpz2
       case inl =>
        go_upto_region 18 with fail
        apply chs18 hp HQW HR0 ATC (fun _ _ d _ _ h=>by cases d<;>exact h);intros;rename_i hr9;have HR9:=Hi hr9;clear hr9;go_wp2_with fail
        go_meet
        case rel=>exact HR9
       case inr.inl =>
        go_upto_region 20 with fail
        apply chs20 hp HQW HR0 ATC (fun _ _ d _ _ h=>by cases d<;>exact h);intros;rename_i hr9;have HR9:=Hi hr9;clear hr9;go_wp2_with fail
        go_meet
        case rel=>exact HR9
       case inr.inr.inl =>
        go_upto_region 22 with fail
        apply chs22 hp HQW HR0 ATC (fun _ _ d _ _ h=>by cases d<;>exact h);intros;rename_i hr9;have HR9:=Hi hr9;clear hr9;go_wp2_with fail
        go_meet
        case rel=>exact HR9
       case inr.inr.inr.inl =>
        go_upto_region 24 with fail
        apply chs24 hp HQW HR0 ATC (fun _ _ d _ _ h=>by cases d<;>exact h);intros;rename_i hr9;have HR9:=Hi hr9;clear hr9;go_wp2_with fail
        go_meet
        case rel=>exact HR9
       case inr.inr.inr.inr.inl =>
        go_upto_region 27 with fail
        apply chs27 hp HQW HR0 ATC (fun _ _ d _ _ h=>by cases d<;>exact h);intros;rename_i hr9;have HR9:=Hi hr9;clear hr9;go_wp2_with fail
        go_meet
        case rel=>exact HR9
       case inr.inr.inr.inr.inr.inl =>
        go_upto_region 27 with fail
        apply chs27 hp HQW HR0 ATC (fun _ _ d _ _ h=>by cases d<;>exact h);intros;rename_i hr9;have HR9:=Hi hr9;clear hr9;go_wp2_with fail
        go_meet
        case rel=>exact HR9
       case inr.inr.inr.inr.inr.inr.inl =>
        go_upto_region 29 with fail
        apply chs29 hp HQW HR0 ATC (fun _ _ d _ _ h=>by cases d<;>exact h);intros;rename_i hr9;have HR9:=Hi hr9;clear hr9;go_wp2_with fail
        go_meet
        case rel=>exact HR9
       case inr.inr.inr.inr.inr.inr.inr.inl =>
        go_upto_region 31 with fail
        apply chs31 hp HQW HR0 ATC (fun _ _ d _ _ h=>by cases d<;>exact h);intros;rename_i hr9;have HR9:=Hi hr9;clear hr9;go_wp2_with fail
        go_meet
        case rel=>exact HR9
       case inr.inr.inr.inr.inr.inr.inr.inr.inl =>
        go_upto_region 33 with fail
        apply chs33 hp HQW HR0 ATC (fun _ _ d _ _ h=>by cases d<;>exact h);intros;rename_i hr9;have HR9:=Hi hr9;clear hr9;go_wp2_with fail
        go_meet
        case rel=>exact HR9
       case inr.inr.inr.inr.inr.inr.inr.inr.inr.inl =>
        go_upto_region 35 with fail
        apply chs35 hp HQW HR0 ATC (fun _ _ d _ _ h=>by cases d<;>exact h);intros;rename_i hr9;have HR9:=Hi hr9;clear hr9;go_wp2_with fail
        go_meet
        case rel=>exact HR9
       case inr.inr.inr.inr.inr.inr.inr.inr.inr.inr.inl =>
        go_wp2_with fail
        go_at_call 32;refine(pR HR0.o.hx HR0.o.bl.size HR0.o.lt hp).mono ?_
        rintro e w9 ⟨⟨v9,rfl⟩,hst⟩;have HR9:=Hi (HR0.o.step hst);clear hst;go_wp2_with fail
        go_meet
        case rel=>exact HR9
       case inr.inr.inr.inr.inr.inr.inr.inr.inr.inr.inr.inl =>
        go_wp2_with fail
        go_at_call 32;refine(pR HR0.o.hx HR0.o.bl.size HR0.o.lt hp).mono ?_
        rintro e w9 ⟨⟨v9,rfl⟩,hst⟩;have HR9:=Hi (HR0.o.step hst);clear hst;go_wp2_with fail
        go_meet
        case rel=>exact HR9
       case inr.inr.inr.inr.inr.inr.inr.inr.inr.inr.inr.inr.inl =>
        obtain⟨ha,hgb,hv,_,_,_,hbk,-,-,-,-⟩:=HR0.o.hx.cells hp
        have c2:w6.cell? ⟨G p,2,none⟩=some hv:=hbk.cell 2;have f2:=hbk.frozen 2;have HR9:=Hi (HR0.o.step (HR0.o.hx.drop HR0.o.bl.size HR0.o.lt hp));clear hbk;go_wp2_with fail
        go_meet
        case rel=>exact HR9
       case inr.inr.inr.inr.inr.inr.inr.inr.inr.inr.inr.inr.inr =>
        obtain⟨_,_,hve,-,-,hrh⟩:=aC.of_own HR0.o.rh
        simp only[tS,true_and]at hve;obtain⟨rfl,rfl⟩:=hve
        have HCH:Hid (∀p,p<i→w6.cell? ⟨hb,ho+p,none⟩=some (.pointer (some ⟨G p,0,none⟩))):=fun p hp=>by
         obtain⟨ad,e,-,hc⟩:=hrh.2 (by omega)
         have e:=tK e;subst e;have h1:=hc p _ (ptrs_at hp);have h2:=World.cell?_spot h1;have h3:(Addr.mk hb ho none).add p=⟨hb,ho+p,none⟩:=by simp[Addr.add]
         rw[h3]at h1;exact h1
        clear hrh;go_wp2_with fail
        go_at_call 27;refine(ATC.out _ HR0.o.bl 2 (by decide)).mono ?_
        rintro e w6 ⟨⟨x3,rfl,hx3,-⟩,rfl⟩;go_wp2_with fail
        go_at_call 10;refine(gI x3 i _ hx3 ⟨by omega,by omega⟩).mono ?_
        rintro e w6 ⟨⟨p3,hp3,-,rfl⟩,rfl⟩;have z0:=HCH.o p3 hp3;clear hx3;go_wp2_with fail
        go_at_call 33;refine(handsMerge HR0.o.hx HR0.o.bl.size HR0.o.lt hp hp3).mono ?_
        rintro e w9 ⟨⟨v9,rfl⟩,hst⟩;have HR9:=Hi (HR0.o.step hst);clear hst z0 HCH;go_wp2_with fail
        go_meet
        case rel=>exact HR9
     case rest =>
      as_aux_lemma =>
       obtain⟨n1,n2,hwb,hnI⟩:=hcut.out.wb
       have HNI:=Hi hnI;have HNB:=Hi hwb;obtain⟨y1,y2⟩:=ce2 hwb
       have CR:=cB n1 n2 wc;clear hnI hwb;go_wp2_with fail
       go_at_call 34;refine CR.mono ?_;rintro e w7 ⟨rfl,hb7⟩;have HR7:=Hi (hcut.out.below hb7);have HN7:=Hi (HNB.o.keep (hb7.block _ HNB.o.lt));generalize bD n1 n2=rb;clear CR hb7 y1 y2 HNB hcut;cases rb with
       |true =>
        go_wp2_with fail
        go_roundw
        case rel=>exact⟨j+1,no,(.slice (some ⟨ob,oo,none⟩) no cO),O,rfl,by go_num,by omega,by omega,hno0,HOL,HR7.o.ro,HR7.o.rh,HR7.o.hx.setQ (fun k hk=>.inl (hk.elim .inl fun h=>.inr (.inl h))),HR7.o.bl⟩
        case measure=>(simp[intOf];try omega)
       |false =>
        obtain⟨y1,y2⟩:=ce2 HN7.o
        obtain⟨i0,hi,hz0,hz1,hz2⟩:=info_parts rS
        have HRO:=Hi HR7.o.ro;go_wp2_with (at_builtin;refine aG _ rfl (.tmp 197) (.tmp 199) _ rfl (w.heap.size) 48 i0 _ 2 16 Tryz.underlying51 hi hz0 hz1 hz2 rfl (by omega) ((.slice (some ⟨ob,oo,none⟩) no cO)) (no) (aF O) rfl (HRO.o.alloc _) _ (some ⟨w7.heap.size,0,none⟩) (1) (1) ([.int .i64 n1,.int .i64 n2]) rfl ((cD (by exact Blk.new w7 _ #[.int .i64 n1,.int .i64 n2]) (n:=2) rfl)) (oQ [(n1,n2)]) ?c1 ?c2 ?c3 ?_)
        try case c1=>simp only[maxLen];omega
        try case c2=>omega
        try case c3=>rw[tB];have:=HR7.o.bl.size;omega
        intro v8 w8 ho8 hg8 hat8;have hch:Chg (fun k=>((.slice (some ⟨ob,oo,none⟩) no cO):Value).ownBlock=some k∨w7.heap.size≤k) w7 w8:=((Chg.refl w7).alloc _).grown hg8 (fun k hk=>.inl (.inl hk));have hx8:=((HR7.o.hx.setQ (Q':=fun k=>(((.slice (some ⟨ob,oo,none⟩) no cO):Value).ownBlock=some k∨((.slice (some ⟨hb,ho,none⟩) i cH):Value).ownBlock=some k)∨w7.heap.size≤k) (fun k hk=>hk.elim (fun h=>.inl (h.elim .inl fun h=>.inr (.inl h))) .inr)).chg (hch.mono fun k _ hk=>hk.elim (fun h=>.inl (.inl h)) .inr)).setQ (Q':=fun k=>v8.ownBlock=some k∨((.slice (some ⟨hb,ho,none⟩) i cH):Value).ownBlock=some k) fun k hk=>.inl (by
         rcases hk with hk|hk
         ·rcases hat8 with h|h
          ·rw[h]at hk;exact .inl (.inl hk)
          ·rw[h]at hk;have:=tK hk
           exact .inr (by omega)
         ·exact .inl (.inr hk))
        have HX8:=Hi hx8;have HV8:Hid (w8.ownsRow w.heap.size 48 2 v8 (no+1) (aF (O++[(n1,n2)]))):=by
         show World.ownsRow _ _ _ _ _ _ _;rw[bH];exact ho8
        have HH8:Hid (w8.ownsRow w.heap.size 70 1 (.slice (some ⟨hb,ho,none⟩) i cH) i (jG G i)):=aT HR7.o.rh fun k hk=>hch.block k (aD HR7.o.rh hk).2 fun e=>e.elim (fun h=>fP HR7.o.ro HR7.o.rh (by decide) k h hk) fun h=>by have:=(aD HR7.o.rh hk).2;omega
        have HB8:Hid (Below w.heap.size w w8):=(HR7.o.bl.alloc HR7.o.bl.size _).grown hg8 (by rw[tB];have:=HR7.o.bl.size;omega) (fun k hk=>(aD HR7.o.ro hk).1);have HOL8:Hid ((O++[(n1,n2)]).length=no+1∧∀r∈O++[(n1,n2)],eL r):=⟨by rw[sF,HOL.o.1];rfl,fun r hr=>by
         rcases sG.1 hr with h|h
         ·exact HOL.o.2 r h
         ·rw[sP.1 h];exact HNI.o⟩
        clear ho8 hg8 hat8 hch hx8 HRO hi hz0 hz1 hz2 y1 y2;go_wp2_with fail
        go_roundw
        case rel=>exact⟨j+1,no+1,v8,O++[(n1,n2)],rfl,by go_num,by omega,by omega,by omega,HOL8,HV8,HH8,HX8,HB8⟩
        case measure=>(simp[intOf];try omega)
    ·go_upto_region 9 with fail
     go_cut [40] (fun s40 wd=>s40=.bool false∧wr=wd)
     case first =>
      by_cases h1:j<ns
      ·have h2:¬j<60:=fun h=>hlt ⟨h1,h⟩
       have h3:decide ((j:Int)<60)=false:=sI (by omega);go_wp2_with fail
       go_meet
       case rel=>exact⟨rfl,rfl⟩
      ·go_wp2_with fail
       go_meet
       case rel=>exact⟨rfl,rfl⟩
     case rest =>
      as_aux_lemma =>
       obtain⟨rfl,rfl⟩:=hcut
       clear hlt hj hno hno0 HOL HVO;obtain⟨D,F,H,hm⟩:=HX.o
       have HD:Hid (∀k,D k→w.heap.size≤k∧k<wr.heap.size):=hm.lowD;have HHB:Hid (∀p,p<i→∃gb,(∀V,Below wr.heap.size wr V→V.cell? ⟨G p,1,none⟩=some (.pointer (some ⟨gb,0,none⟩))∧BR V gb (H p).L (H p).W)∧Inv (H p).L (H p).W∧∀c∈(H p).L,ChIn D wr c):=fun p hp=>by
        obtain⟨FB,gb,VL,VW,VP,mp⟩:=hm.each p hp
        exact⟨gb,fun V hv=>⟨(mp.below hv).blk.cell 1,(mp.below hv).bm.br⟩,(hm.inv p hp).inv,mp.bm.inL⟩
       obtain⟨_,_,hve,-,-,hrh⟩:=aC.of_own HVH.o
       simp only[tS,true_and]at hve;obtain⟨rfl,rfl⟩:=hve
       have hrl:aC (fun k=>k<wr.heap.size) wr 1 AH i (jG G i):=hrh.more fun k hk=>(aD HVH.o hk).2
       obtain⟨hb,ho,rfl,hbl,hch⟩:=hrl.at_ (by omega) (by omega)
       have HCH:Hid (∀V,Below wr.heap.size wr V→∀p,p<i→V.cell? ⟨hb,ho+p,none⟩=some (.pointer (some ⟨G p,0,none⟩))):=fun V hv p hp=>(sK (hv.block _ hbl)).trans (hch _ _ (ptrs_at hp))
       have HGS:=Hi (Blk.new wr 88 #[.slice none 0 0,.slice none 0 0]);have HBN:Hid (Below wr.heap.size wr (wr.alloc (.cells #[.slice none 0 0,.slice none 0 0] 88))):=(sA _ wr).alloc (sB _) _;clear HX hm HVH hrh hrl hbl hch;go_upto_region 46 with fail
       generalize wr.alloc (.cells #[.slice none 0 0,.slice none 0 0] 88)=w3 at HGS HBN ⊢;obtain⟨gs,hgs⟩:∃g,wr.heap.size=g:=⟨_,rfl⟩
       have HGQ:=Hi hgs;rw[hgs]at HGS ⊢;have HBM:Hid (BM D (fun k=>k=gs) w3 gs [] [] (.slice none 0 0) (.slice none 0 0)) :=
        ⟨HGS.o,bB _ _ _ _,bB _ _ _ _,(fun k hk=>by cases hk),(fun k=>⟨.inl,fun h=>h.elim id fun h=>by rcases h with h|h<;>cases h⟩),(fun x hx=>by cases hx),(fun x hx=>by cases hx),fun k hk=>⟨sD (HD.o k hk).2 HBN.o.size,fun e=>by have:=(HD.o k hk).2;have e:k=gs:=e;omega⟩⟩
       clear hgs HGS;generalize wr=w9 at *;go_loopw [16,17,18] (fun s16 _ _ wr=>∃(p:Nat) (FB:Nat→Prop) (L W:List ChD) (VL VW:Value),s16=.int .i64 p∧p≤i∧Hid (Inv L W)∧Hid (BM D FB wr gs L W VL VW)∧Hid (∀k,FB k→gs≤k)∧Hid (Below w9.heap.size w9 wr)) (fun s16 _ _ _=>i-(intOf s16).toNat)
       case atStart=>exact⟨0,_,[],[],_,_,rfl,uU _,Inv.nil,HBM,(by show ∀k,_→_;intro k hk;exact Nat.le_of_eq hk.symm),HBN⟩
       case round =>
        clear HBM HBN;obtain⟨p,FB,L,W,VL,VW,rfl,hp,HV,HBM,HF,HBN⟩:=hrel
        by_cases hlt:p<i
        ·obtain⟨gb,hgb,hiv,hin⟩:=HHB.o p hlt
         obtain⟨g1,hbr⟩:=hgb wr HBN.o
         have z0:=HCH.o wr HBN.o p hlt;have C1:=qY (H p).L (H p).W gb wr hbr hiv.bk (by have:=hiv.most;omega);obtain⟨LL,hLL⟩:∃l,dU (H p).L=l:=⟨_,rfl⟩
         have HLI:Hid (∀c∈LL,ChIn D w9 c):=by rw[←hLL];exact all_in hiv.bk hin
         have HLV:Hid (∀c∈LL,∀o∈c.ops,(Lit.int .i64 o.vn).wf=true):=fun c hc=>(hiv.bk.err c ((gU hiv.bk).mem_iff.1 (by rw[hLL];exact hc))).2
         have HLN:Hid (LL.length≤120):=by
          have h1:=(gU hiv.bk).length_eq;have h2:=hiv.most;rw[hLL]at h1;show _≤_;omega
         rw[hLL]at C1;have HLT:=Hi hlt;clear hgb hiv hin hbr hLL;go_wp2_with fail
         go_at_call 35;refine C1.mono ?_;rintro e w4 ⟨v,rfl,hov,hbv⟩;obtain⟨AR,cR,hv,-,-,-⟩:=aC.of_own hov
         subst hv;obtain⟨n,hn⟩:∃n,LL.length=n:=⟨_,rfl⟩
         have HN:=Hi hn;have HO:=Hi hov;rw[hn]at HO HLN ⊢;have hnn2:=HLN.o;have HBM4:=Hi (HBM.o.below hbv);have HBN4:Hid (Below w9.heap.size w9 w4):=HBN.o.trans (hbv.mono HBN.o.size);have HFR:Hid (∀k,FB k→(Value.slice AR n cR).ownBlock≠some k):=fun k hk e=>by have h1:=HBM.o.flt hk;have h2:=(aD HO.o e).1;omega
         generalize wr.heap.size=B4 at HO;clear C1 hov hbv hn z0 g1 HBM HBN;go_upto_region 50 with fail
         go_loopw [18] (fun s18 wr=>∃(k:Nat) (FB':Nat→Prop) (L' W':List ChD) (VL' VW':Value),s18=.int .i64 k∧k≤n∧Hid (Inv L' W')∧Hid (BM D FB' wr gs L' W' VL' VW')∧Hid (∀k,FB' k→gs≤k)∧Hid (∀k,FB' k→(Value.slice AR n cR).ownBlock≠some k)∧Hid (wr.ownsRow B4 33 5 (.slice AR n cR) n (aW LL))∧Hid (Below w9.heap.size w9 wr)) (fun s18 _=>n-(intOf s18).toNat)
         case atStart=>exact⟨0,FB,L,W,VL,VW,rfl,uU _,HV,HBM4,HF,HFR,HO,HBN4⟩
         case round =>
          clear HV HBM4 HF HFR HO HBN4;obtain⟨k,FB',L',W',VL',VW',rfl,hk,HV,HBM,HF,HFR,HO,HBN⟩:=hrel
          by_cases hlt2:k<n
          ·obtain⟨x,hx⟩:∃x,LL[k]?=some x:=⟨_,sC (by rw[HN.o];exact hlt2)⟩
           have HXM:=Hi (sJ hx);obtain⟨A9,c9,e9,-,-,hr9⟩:=aC.of_own HO.o
           simp only[tS,true_and]at e9;obtain⟨rfl,rfl⟩:=e9
           obtain⟨b1,o1,rfl,-,hc1⟩:=hr9.at_ (by omega) (by omega)
           have hcx:∀j v,x.cells[j]?=some v→j<5→wr.cell? ⟨b1,o1+k*5+j,none⟩=some v:=fun j v hj h5=>by
            have h3:=aI hx j h5;rw[hj]at h3;have h4:=hc1 _ _ h3;rw[←tY]at h4;exact h4
           have x0:wr.cell? ⟨b1,o1+k*5,none⟩=some (.int .i64 x.a):=hcx 0 _ rfl (by omega);have x1:wr.cell? ⟨b1,o1+k*5+1,none⟩=some (.int .i64 x.s):=hcx 1 _ rfl (by omega);have x2:wr.cell? ⟨b1,o1+k*5+2,none⟩=some (.int .i64 x.st):=hcx 2 _ rfl (by omega);have x3:wr.cell? ⟨b1,o1+k*5+3,none⟩=some (.slice x.DA x.deps.length x.DC):=hcx 3 _ rfl (by omega);have x4:wr.cell? ⟨b1,o1+k*5+4,none⟩=some (.slice x.OA x.ops.length x.OC):=hcx 4 _ rfl (by omega);have C3:=oJ L' W' x D FB' VL' VW' gs wr HBM.o HV.o ((HLI.o x HXM.o).keep fun j hj=>HBN.o.block j (HD.o j hj).2) (HLV.o x HXM.o);unfold ChD.v at C3;clear hx hr9 hc1 hcx;go_wp2_with fail
           go_at_call 36;refine C3.mono ?_;rintro e w10 ⟨rfl,F',VL2,VW2,hbm,hF2,hchg⟩;have HBMa:=Hi hbm;have HVa:=Hi (jC HV.o (HLV.o x HXM.o));have HSW:Hid (gs≤wr.heap.size):=by have:=HBN.o.size;have:=HGQ.o;show _≤_;omega
           have HFa:Hid (∀k,F' k→gs≤k):=fun k hk=>(hF2 k hk).elim (HF.o k) fun h=>by have:=HSW.o;omega
           have HFRa:Hid (∀k,F' k→(Value.slice (some ⟨b1,o1,none⟩) n cR).ownBlock≠some k):=fun k hk e=>by
            rcases hF2 k hk with h1|h1
            ·exact HFR.o k h1 e
            ·have:=(aD HO.o e).2;omega
           have HOa:Hid (w10.ownsRow B4 33 5 (.slice (some ⟨b1,o1,none⟩) n cR) n (aW LL)):=aT HO.o fun j hj=>hchg.block j (aD HO.o hj).2 fun e=>HFR.o j e hj
           have HBNa:Hid (Below w9.heap.size w9 w10):=HBN.o.trans (hchg.below HBN.o.size fun k hk=>by have:=HF.o k hk;have:=HGQ.o;omega);clear C3 hbm hF2 hchg x0 x1 x2 x3 x4 HV HBM HF HFR HO HBN;go_wp2_with fail
           go_roundw
           case rel=>exact⟨k+1,F',_,_,VL2,VW2,by go_num,hlt2,HVa,HBMa,HFa,HFRa,HOa,HBNa⟩
           case measure=>(simp[intOf];try omega)
          ·go_wp2_with fail
           go_roundw
           case rel=>exact⟨p+1,FB',L',W',VL',VW',by go_num,HLT.o,HV,HBM,HF,HBN⟩
           case measure=>(have:=HLT.o;simp[intOf];try omega)
        ·have C1:=qY L W gs wr HBM.o.br HV.o.bk (by have:=HV.o.most;omega);go_wp2_with fail
         go_at_call 35;refine C1.mono ?_;rintro e w4 ⟨v,rfl,hov,hbv⟩;have HBE:Hid (Below w.heap.size w w4):=HBW.o.trans ((HBN.o.trans (hbv.mono HBN.o.size)).mono HBW.o.size);have HIN:Hid (∀c∈dU L,ChIn D w4 c):=fun c hc=>(all_in HV.o.bk HBM.o.inL c hc).keep fun j hj=>hbv.block j (HBM.o.hD j hj).1
         have HOV:Hid (w4.ownsRow w.heap.size 33 5 v (dU L).length (aW (dU L))):=bG hov fun k hk=>by have:=(aD hov hk).1;have h2:=HBN.o.size;have h3:=HBW.o.size;omega
         have HDZ:Hid (w9.heap.size≤w4.heap.size):=sY HBN.o.size hbv.size;clear C1 hov hbv;go_wp2_with fail
         go_ret;exact⟨L,W,v,HV.o,rfl,HOV.o,fun c hc=>(HIN.o c hc).more fun k hk=>⟨(HD.o k hk).1,by have:=(HD.o k hk).2;have:=HDZ.o;omega⟩,HBE.o⟩
end Go.Proofs.YtjhkcbideddlgaaGreat
