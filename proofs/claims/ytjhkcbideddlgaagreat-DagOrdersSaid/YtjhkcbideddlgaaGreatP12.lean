/- Contracts of the document's books: may. -/
import Derived.Test.YtjhkcbideddlgaaGreatP11
import Derived.Deep.DeepCutAuto
set_option maxHeartbeats 16000000
set_option maxRecDepth 20000
set_option linter.unusedVariables false
set_option linter.unusedSimpArgs false
namespace Go.Proofs.YtjhkcbideddlgaaGreat
open Go.ChangeShapes Go.WideShapes Go.ChangeAt Go.RowKit
theorem rootB_obj(x:OpI):bD x.1.on x.1.oa=decide (fQ x=(0,0)):=by
 unfold bD fQ;by_cases h1:x.1.on=0<;>by_cases h2:x.1.oa=0<;>simp[h1,h2]
theorem rootB_el(x:OpI):bD x.1.en x.1.ea=decide (elP x=(0,0)):=by
 unfold bD elP;by_cases h1:x.1.en=0<;>by_cases h2:x.1.ea=0<;>simp[h1,h2]
theorem keyOkP_eq(x:OpI)(kd:Int):kW x kd=!(decide (kd=5)&&x.1.key.toList.isEmpty||decide (kd=6)&&!x.1.key.toList.isEmpty):=by
 have e:decide (x.1.key=⟨#[]⟩)=x.1.key.toList.isEmpty:=by
  rw[dec_key];have:(⟨#[]⟩:ByteArray).toList=[]:=by rw[wK]
  rw[this];cases x.1.key.toList<;>simp
 have e2:decide (x.1.key≠⟨#[]⟩)=!x.1.key.toList.isEmpty:=by rw[←e];simp
 unfold kW;rw[e,e2]
theorem gJ{w:World}{D:Nat→Prop}{A:Option Addr}{K:List OpI}{n k:Nat}{y:OpI}(h:aC D w 15 A n (bS K))(hn:K.length=n)(hk:K[k]?=some y):
 ∃b o,A=some ⟨b,o,none⟩∧D b∧∀i v,i<15→(qC y)[i]?=some v→w.cell? ⟨b,o+k*15+i,none⟩=some v:=by
 have hkl:=(sE.1 hk).1;obtain⟨b,o,e,hb,hc⟩:=h.at_ (by omega) (by omega)
 refine⟨b,o,e,hb,fun i v hi hv=>?_⟩
 have h3:=kO hk i hi;rw[hv]at h3;have:=hc _ _ h3
 rwa [←tY]at this
theorem smay_any(x:OpI)(K:List OpI)(A:Option Addr)(c:Nat)(w:World)(hK:aC (fun k=>k<w.heap.size) w 15 A K.length (bS K))(hx:aC (fun k=>k<w.heap.size) w 2 x.1.A x.1.l.length (aF x.1.l))
 (hl:K.length≤1000000000) (hxl:x.1.l.length≤1000000000) :
 Calls Tryz.prog 111 #[iH x,.slice A K.length c] w fun e w'=>e=.returned (.bool (cY x K))∧Below w.heap.size w w':=by
 obtain⟨n,hn⟩:∃n,K.length=n:=⟨_,rfl⟩
 obtain⟨nx,hnx⟩:∃n,x.1.l.length=n:=⟨_,rfl⟩
 have HN:=Hi hn;have HNX:=Hi hnx;have HK:=Hi hK;have HX:=Hi hx;have HQ:=Hi (Blk.new w 115 #[.int .i64 x.1.k,.int .i64 x.1.on,.int .i64 x.1.oa,.string x.1.key,.int .i64 x.1.en,.int .i64 x.1.ea,.bool x.1.ins,.int .i64 x.1.vk,.int .i64 x.1.vn,.string x.1.vt,.int .i64 x.1.va,.int .i64 x.1.vb,.slice x.1.A x.1.l.length x.1.c,.int .i64 x.2.1,.int .i64 x.2.2]);have HB:Hid (Below w.heap.size w (w.alloc (.cells #[.int .i64 x.1.k,.int .i64 x.1.on,.int .i64 x.1.oa,.string x.1.key,.int .i64 x.1.en,.int .i64 x.1.ea,.bool x.1.ins,.int .i64 x.1.vk,.int .i64 x.1.vn,.string x.1.vt,.int .i64 x.1.va,.int .i64 x.1.vb,.slice x.1.A x.1.l.length x.1.c,.int .i64 x.2.1,.int .i64 x.2.2] 115))):=(sA _ w).alloc (sB _) _;have hsz:(w.alloc (.cells #[.int .i64 x.1.k,.int .i64 x.1.on,.int .i64 x.1.oa,.string x.1.key,.int .i64 x.1.en,.int .i64 x.1.ea,.bool x.1.ins,.int .i64 x.1.vk,.int .i64 x.1.vn,.string x.1.vt,.int .i64 x.1.va,.int .i64 x.1.vb,.slice x.1.A x.1.l.length x.1.c,.int .i64 x.2.1,.int .i64 x.2.2] 115)).heap.size=w.heap.size+1:=by simp
 unfold iH;rw[hn]at hl ⊢;rw[hnx]at hxl HQ HB hsz ⊢;have H1:=fun W (r:Rf) h=>slook_any K r (fun k=>k<W.heap.size) A c W h (fun _ h=>h) (by rw[HN.o];omega)
 rw[hn]at H1;clear hn hnx hK hx;go_enter Tryz.func111,Tryz.ntmps111;go_wp2_with fail
 go_at_call 34;refine(cB _ _ _).mono ?_
 rintro e w1 ⟨rfl,hb⟩;replace HQ:=Hi (HQ.o.keep (hb.block _ HQ.o.lt));replace HB:Hid (Below w.heap.size w w1):=HB.o.trans (hb.mono HB.o.size);clear hb;clear hsz;rw[rootB_obj];obtain⟨rb,hrb⟩:∃rb,decide (fQ x=(0,0))=rb:=⟨_,rfl⟩
 rw[hrb];have HRB:=Hi hrb;clear hrb;go_upto_if 17 with fail
 go_cut [5] (fun s5 wc=>∃kd:Int,s5=.int .i64 kd∧Hid (eS x K=some kd)∧Hid (Blk wc w.heap.size 115 #[.int .i64 x.1.k,.int .i64 x.1.on,.int .i64 x.1.oa,.string x.1.key,.int .i64 x.1.en,.int .i64 x.1.ea,.bool x.1.ins,.int .i64 x.1.vk,.int .i64 x.1.vn,.string x.1.vt,.int .i64 x.1.va,.int .i64 x.1.vb,.slice x.1.A nx x.1.c,.int .i64 x.2.1,.int .i64 x.2.2])∧Hid (Below w.heap.size w wc))
 case first =>
  cases rb with
  |true =>
   have HD:Hid (eS x K=some 5):=by show _=_;unfold eS;rw[tA (of_decide_eq_true HRB.o)]
   go_wp2_with fail
   go_meet
   case rel=>exact⟨5,rfl,HD,HQ,HB⟩
  |false =>
   have HR:=Hi (of_decide_eq_false HRB.o);have c1:=cZ HQ.o 1 rfl;have c2:=cZ HQ.o 2 rfl;have C:=H1 w1 (fQ x) (by rw[←HN.o];exact aA HK.o HB.o);go_wp2_with fail
   go_at_call 62;refine C.mono ?_;rintro e w2 ⟨i,rfl,hi,hb⟩;replace HQ:=Hi (HQ.o.keep (hb.block _ HQ.o.lt));replace HB:Hid (Below w.heap.size w w2):=HB.o.trans (hb.mono HB.o.size);clear hb;clear c1 c2;clear C;rcases hi with⟨rfl,hno⟩|⟨kk,y,rfl,hy,hlk⟩
   ·have HF:Hid (cY x K=false):=by show _=_;unfold cY eS;rw[sT HR.o,hno]
    clear hno;go_wp2_with fail
    go_ret;exact⟨by rw[HF.o];rfl,HB.o⟩
   ·have hK2:=aA HK.o HB.o;rw[HN.o]at hK2;obtain⟨b,o,hA,-,key⟩:=gJ hK2 HN.o hy
    subst hA;have hkn:kk<n:=by rw[←HN.o];exact(sE.1 hy).1
    have d0:w2.cell? ⟨b,o+kk*15,none⟩=some (.int .i64 y.1.k):=key 0 _ (by omega) rfl;have d7:w2.cell? ⟨b,o+kk*15+7,none⟩=some (.int .i64 y.1.vk):=key 7 _ (by omega) rfl;have hk0:decide ((kk:Int)<0)=false:=sI (by omega);clear key hK2;by_cases h2:y.1.k=2
    ·have HD:Hid (eS x K=some y.1.vk):=by show _=_;unfold eS;rw[sT HR.o,hlk];simp only[h2,if_true]
     have e1:(y.1.k != 2)=false:=by simp[h2]
     clear hlk hy h2;go_wp2_with fail
     go_meet
     case rel=>exact⟨_,rfl,HD,HQ,HB⟩
    ·have HF:Hid (cY x K=false):=by show _=_;unfold cY eS;rw[sT HR.o,hlk];simp only[h2,if_false]
     have e1:(y.1.k != 2)=true:=by simp[h2]
     clear hlk hy h2;go_wp2_with fail
     go_ret;exact⟨by rw[HF.o];rfl,HB.o⟩
 case rest =>
  clear HQ HB;obtain⟨kd,rfl,HKD,HQ,HB⟩:=hcut
  have c3:=cZ HQ.o 3 rfl;go_upto_region 8 with fail
  go_cut [58] (fun s58 wd=>s58=.bool (!kW x kd)∧Hid (Blk wd w.heap.size 115 #[.int .i64 x.1.k,.int .i64 x.1.on,.int .i64 x.1.oa,.string x.1.key,.int .i64 x.1.en,.int .i64 x.1.ea,.bool x.1.ins,.int .i64 x.1.vk,.int .i64 x.1.vn,.string x.1.vt,.int .i64 x.1.va,.int .i64 x.1.vb,.slice x.1.A nx x.1.c,.int .i64 x.2.1,.int .i64 x.2.2])∧Hid (Below w.heap.size w wd))
  case first =>
   have HKY:=Hi (keyOkP_eq x kd);by_cases h5:kd=5
   ·subst h5;cases hk:x.1.key.toList.isEmpty<;>rw[hk]at HKY;all_goals
     go_wp2_with fail
     go_meet
     case rel=>exact⟨by rw[HKY.o];rfl,HQ,HB⟩
   ·have e5:(kd == 5)=false:=by simp[h5]
    by_cases h6:kd=6
    ·subst h6;cases hk:x.1.key.toList.isEmpty<;>rw[hk]at HKY;all_goals
      go_wp2_with fail
      go_meet
      case rel=>exact⟨by rw[HKY.o];rfl,HQ,HB⟩
    ·have e6:(kd == 6)=false:=by simp[h6]
     rw[sI h5,sI h6]at HKY;clear h5 h6;go_wp2_with fail
     go_meet
     case rel=>exact⟨by rw[HKY.o];rfl,HQ,HB⟩
  case rest =>
   clear c3;clear HQ HB;obtain⟨rfl,HQ,HB⟩:=hcut
   obtain⟨wd,hwd⟩:∃wd,wd=wc:=⟨_,rfl⟩
   subst hwd;cases hko:kW x kd with
   |false =>
    have HF:Hid (cY x K=false):=by show _=_;unfold cY;rw[HKD.o];simp only[hko,vN]
    clear hko;go_wp2_with fail
    go_ret;exact⟨by rw[HF.o];rfl,HB.o⟩
   |true =>
    have HKO:=Hi hko;clear hko;have c4:=cZ HQ.o 4 rfl;have c5:=cZ HQ.o 5 rfl;go_wp2_with fail
    go_at_call 34;refine(cB _ _ _).mono ?_
    rintro e w3 ⟨rfl,hb⟩;replace HQ:=Hi (HQ.o.keep (hb.block _ HQ.o.lt));replace HB:Hid (Below w.heap.size w w3):=HB.o.trans (hb.mono HB.o.size);clear hb;clear c4 c5;rw[rootB_el];obtain⟨re,hre⟩:∃re,decide (elP x=(0,0))=re:=⟨_,rfl⟩
    rw[hre];have HRE:=Hi hre;clear hre;go_upto_if 64 with fail
    go_cut [] (fun wc=>Hid (dA x K=true)∧Hid (Blk wc w.heap.size 115 #[.int .i64 x.1.k,.int .i64 x.1.on,.int .i64 x.1.oa,.string x.1.key,.int .i64 x.1.en,.int .i64 x.1.ea,.bool x.1.ins,.int .i64 x.1.vk,.int .i64 x.1.vn,.string x.1.vt,.int .i64 x.1.va,.int .i64 x.1.vb,.slice x.1.A nx x.1.c,.int .i64 x.2.1,.int .i64 x.2.2])∧Hid (Below w.heap.size w wc))
    case first =>
     cases re with
     |true =>
      have HD:Hid (dA x K=true):=by show _=_;unfold dA;rw[tA (of_decide_eq_true HRE.o)]
      go_wp2_with fail
      go_meet
      case rel=>exact⟨HD,HQ,HB⟩
     |false =>
      have HR:=Hi (of_decide_eq_false HRE.o);have c4:=cZ HQ.o 4 rfl;have c5:=cZ HQ.o 5 rfl;have C:=H1 w3 (elP x) (by rw[←HN.o];exact aA HK.o HB.o);go_wp2_with fail
      go_at_call 62;refine C.mono ?_;rintro e w4 ⟨i,rfl,hi,hb⟩;replace HQ:=Hi (HQ.o.keep (hb.block _ HQ.o.lt));replace HB:Hid (Below w.heap.size w w4):=HB.o.trans (hb.mono HB.o.size);clear hb;clear c4 c5;clear C;rcases hi with⟨rfl,hno⟩|⟨kk,y,rfl,hy,hlk⟩
      ·have HF:Hid (cY x K=false):=by show _=_;unfold cY;rw[HKD.o];simp only[dA,sT HR.o,hno,Bool.and_false,vN]
       clear hno;go_wp2_with fail
       go_quiet (fail)
       change Exit.then _ _ _ _ (w4.drewN nq);replace HB:Hid (Below w.heap.size w (w4.drewN nq)):=aH HB.o nq;generalize w4.drewN nq=w5 at HB ⊢;go_wp2_with fail
       go_ret;exact⟨by rw[HF.o];rfl,HB.o⟩
      ·have hK2:=aA HK.o HB.o;rw[HN.o]at hK2;obtain⟨b,o,hA,-,key⟩:=gJ hK2 HN.o hy
       subst hA;have hkn:kk<n:=by rw[←HN.o];exact(sE.1 hy).1
       have d1:w4.cell? ⟨b,o+kk*15+1,none⟩=some (.int .i64 y.1.on):=key 1 _ (by omega) rfl;have d2:w4.cell? ⟨b,o+kk*15+2,none⟩=some (.int .i64 y.1.oa):=key 2 _ (by omega) rfl;have d6:w4.cell? ⟨b,o+kk*15+6,none⟩=some (.bool y.1.ins):=key 6 _ (by omega) rfl;have c1:=cZ HQ.o 1 rfl;have c2:=cZ HQ.o 2 rfl;clear key hK2;have hk0:decide ((kk:Int)<0)=false:=sI (by omega);have E:=fun w=>kC y.1.on y.1.oa x.1.on x.1.oa w
       have HE:Hid (dA x K=(y.1.ins&&(y.1.on == x.1.on&&y.1.oa == x.1.oa))):=by
        show _=_;unfold dA;rw[sT HR.o,hlk];show(y.1.ins&&decide (fQ y=fQ x))=_
        rw[show decide (fQ y=fQ x)=_ from gR ..]
       generalize (y.1.on == x.1.on&&y.1.oa == x.1.oa)=bo at E HE;generalize y.1.ins=bi at d6 HE;clear hlk hy;cases bi with
       |false =>
        have HF:Hid (cY x K=false):=by show _=_;unfold cY;rw[HKD.o];simp only[HE.o,vN,Bool.and_false]
        go_wp2_with fail
        go_quiet (fail)
        change Exit.then _ _ _ _ (w4.drewN nq);replace HB:Hid (Below w.heap.size w (w4.drewN nq)):=aH HB.o nq;replace HQ:Hid (Blk (w4.drewN nq) w.heap.size 115 #[.int .i64 x.1.k,.int .i64 x.1.on,.int .i64 x.1.oa,.string x.1.key,.int .i64 x.1.en,.int .i64 x.1.ea,.bool x.1.ins,.int .i64 x.1.vk,.int .i64 x.1.vn,.string x.1.vt,.int .i64 x.1.va,.int .i64 x.1.vb,.slice x.1.A nx x.1.c,.int .i64 x.2.1,.int .i64 x.2.2]):=HQ.o;generalize w4.drewN nq=w5 at HB HQ ⊢;clear c1 c2 d1 d2 d6;go_wp2_with fail
        go_ret;exact⟨by rw[HF.o];rfl,HB.o⟩
       |true =>
        cases bo with
        |false =>
         have HF:Hid (cY x K=false):=by show _=_;unfold cY;rw[HKD.o];simp only[HE.o,vN,Bool.and_false]
         go_wp2_with fail
         go_quiet (fail)
         change Exit.then _ _ _ _ (w4.drewN nq);replace HB:Hid (Below w.heap.size w (w4.drewN nq)):=aH HB.o nq;replace HQ:Hid (Blk (w4.drewN nq) w.heap.size 115 #[.int .i64 x.1.k,.int .i64 x.1.on,.int .i64 x.1.oa,.string x.1.key,.int .i64 x.1.en,.int .i64 x.1.ea,.bool x.1.ins,.int .i64 x.1.vk,.int .i64 x.1.vn,.string x.1.vt,.int .i64 x.1.va,.int .i64 x.1.vb,.slice x.1.A nx x.1.c,.int .i64 x.2.1,.int .i64 x.2.2]):=HQ.o;generalize w4.drewN nq=w5 at HB HQ ⊢;clear c1 c2 d1 d2 d6;go_wp2_with fail
         go_ret;exact⟨by rw[HF.o];rfl,HB.o⟩
        |true =>
         go_wp2_with fail
         go_quiet (fail)
         change Exit.then _ _ _ _ (w4.drewN nq);replace HB:Hid (Below w.heap.size w (w4.drewN nq)):=aH HB.o nq;replace HQ:Hid (Blk (w4.drewN nq) w.heap.size 115 #[.int .i64 x.1.k,.int .i64 x.1.on,.int .i64 x.1.oa,.string x.1.key,.int .i64 x.1.en,.int .i64 x.1.ea,.bool x.1.ins,.int .i64 x.1.vk,.int .i64 x.1.vn,.string x.1.vt,.int .i64 x.1.va,.int .i64 x.1.vb,.slice x.1.A nx x.1.c,.int .i64 x.2.1,.int .i64 x.2.2]):=HQ.o;generalize w4.drewN nq=w5 at HB HQ ⊢;clear c1 c2 d1 d2 d6;go_wp2_with fail
         go_meet
         case rel=>exact⟨HE.o,HQ,HB⟩
    case rest =>
     clear HQ HB;obtain⟨HEO,HQ,HB⟩:=hcut
     have HMAY:Hid (cY x K=x.1.l.all (bJ x K)):=by show _=_;unfold cY;rw[HKD.o];simp only[HKO.o,HEO.o,vL]
     clear HKD HKO HEO HRB HRE;go_wp2_with fail
     go_loopw [9,10,11] (fun s9 _ _ wr=>∃k:Nat,s9=.int .i64 k∧k≤nx∧Hid ((x.1.l.take k).all (bJ x K)=true)∧Hid (Blk wr w.heap.size 115 #[.int .i64 x.1.k,.int .i64 x.1.on,.int .i64 x.1.oa,.string x.1.key,.int .i64 x.1.en,.int .i64 x.1.ea,.bool x.1.ins,.int .i64 x.1.vk,.int .i64 x.1.vn,.string x.1.vt,.int .i64 x.1.va,.int .i64 x.1.vb,.slice x.1.A nx x.1.c,.int .i64 x.2.1,.int .i64 x.2.2])∧Hid (Below w.heap.size w wr)) (fun s9 _ _ _=>nx-(intOf s9).toNat)
     case atStart=>exact⟨0,rfl,by omega,by show _=_;simp,HQ,HB⟩
     case round =>
      clear HQ HB;obtain⟨k,rfl,hk,HI,HQ,HB⟩:=hrel
      have c12:=cZ HQ.o 12 rfl;by_cases hlt:k<nx
      ·obtain⟨p,hp⟩:∃p,x.1.l[k]?=some p:=⟨_,sC (by rw[HNX.o];exact hlt)⟩
       obtain⟨bp,op,hA,-,hcp⟩:=(aA HX.o HB.o).at_ (by rw[HNX.o];omega) (by omega)
       have p1:wr.cell? ⟨bp,op+k*2,none⟩=some (.int .i64 p.1):=hcp _ _ (aN hp).1;have p2:wr.cell? ⟨bp,op+k*2+1,none⟩=some (.int .i64 p.2):=hcp _ _ (aN hp).2;rw[hA]at c12;have HP:Hid ((x.1.l.take (k+1)).all (bJ x K)=((x.1.l.take k).all (bJ x K)&&bJ x K p)):=by
        show _=_;rw[sQ,hp];simp
       have HPA:Hid (bJ x K p=false→cY x K=false):=by
        intro h;rw[HMAY.o];cases hh:x.1.l.all (bJ x K) with
        |false=>rfl
        |true=>rw[tR.1 hh p (sJ hp)]at h;cases h
       have C:=H1 wr p (by rw[←HN.o];exact aA HK.o HB.o);clear hcp hp hA;go_wp2_with fail
       go_at_call 62;refine C.mono ?_;rintro e w4 ⟨i,rfl,hi,hb⟩;replace HQ:=Hi (HQ.o.keep (hb.block _ HQ.o.lt));replace HB:Hid (Below w.heap.size w w4):=HB.o.trans (hb.mono HB.o.size);clear hb;clear C p1 p2 c12;rcases hi with⟨rfl,hno⟩|⟨kk,y,rfl,hy,hlk⟩
       ·have HF:Hid (cY x K=false):=HPA.o (by unfold bJ;rw[hno]);clear hno;go_wp2_with fail
        go_ret;exact⟨by rw[HF.o];rfl,HB.o⟩
       ·have hK2:=aA HK.o HB.o;rw[HN.o]at hK2;obtain⟨b,o,hA,-,key⟩:=gJ hK2 HN.o hy
        subst hA;have hkn:kk<n:=by rw[←HN.o];exact(sE.1 hy).1
        have hk0:decide ((kk:Int)<0)=false:=sI (by omega);have HPE:Hid (bJ x K p=(!decide (2<y.1.k)&&fY y x&&!((x.1.k == 4)&&((y.1.k != 1)||(y.1.vk != 4))))):=by
         show _=_;unfold bJ;rw[hlk];have e1:decide (x.1.k=4)=(x.1.k == 4):=by by_cases h:x.1.k=4<;>simp[h]
         have e2:decide (y.1.k≠1)=(y.1.k != 1):=by by_cases h:y.1.k=1<;>simp[h]
         have e3:decide (y.1.vk≠4)=(y.1.vk != 4):=by by_cases h:y.1.vk=4<;>simp[h]
         simp only[e1,e2,e3]
        have d0:w4.cell? ⟨b,o+kk*15,none⟩=some (.int .i64 y.1.k):=key 0 _ (by omega) rfl;have d1:w4.cell? ⟨b,o+kk*15+1,none⟩=some (.int .i64 y.1.on):=key 1 _ (by omega) rfl;have d2:w4.cell? ⟨b,o+kk*15+2,none⟩=some (.int .i64 y.1.oa):=key 2 _ (by omega) rfl;have d3:w4.cell? ⟨b,o+kk*15+3,none⟩=some (.string y.1.key):=key 3 _ (by omega) rfl;have d4:w4.cell? ⟨b,o+kk*15+4,none⟩=some (.int .i64 y.1.en):=key 4 _ (by omega) rfl;have d5:w4.cell? ⟨b,o+kk*15+5,none⟩=some (.int .i64 y.1.ea):=key 5 _ (by omega) rfl;have d6:w4.cell? ⟨b,o+kk*15+6,none⟩=some (.bool y.1.ins):=key 6 _ (by omega) rfl;have d7:w4.cell? ⟨b,o+kk*15+7,none⟩=some (.int .i64 y.1.vk):=key 7 _ (by omega) rfl;have d8:w4.cell? ⟨b,o+kk*15+8,none⟩=some (.int .i64 y.1.vn):=key 8 _ (by omega) rfl;have d9:w4.cell? ⟨b,o+kk*15+9,none⟩=some (.string y.1.vt):=key 9 _ (by omega) rfl;have d10:w4.cell? ⟨b,o+kk*15+10,none⟩=some (.int .i64 y.1.va):=key 10 _ (by omega) rfl;have d11:w4.cell? ⟨b,o+kk*15+11,none⟩=some (.int .i64 y.1.vb):=key 11 _ (by omega) rfl;have d12:w4.cell? ⟨b,o+kk*15+12,none⟩=some (.slice y.1.A y.1.l.length y.1.c):=key 12 _ (by omega) rfl;have d13:w4.cell? ⟨b,o+kk*15+13,none⟩=some (.int .i64 y.2.1):=key 13 _ (by omega) rfl;have d14:w4.cell? ⟨b,o+kk*15+14,none⟩=some (.int .i64 y.2.2):=key 14 _ (by omega) rfl;obtain⟨c0,c1,c2,c3,c4,c5,c6,c7,c8,c9,c10,c11,c12,c13,c14⟩:=ce15 HQ.o
        clear key hK2 hlk;by_cases h2:2<y.1.k
        ·have HF:Hid (cY x K=false):=HPA.o (by rw[HPE.o,sH h2];rfl);clear hy;go_wp2_with fail
         go_ret;exact⟨by rw[HF.o];rfl,HB.o⟩
        ·rw[sI h2]at HPE;have C:=fun W=>qS y x W
         unfold iH at C;rw[HNX.o]at C;go_wp2_with fail
         refine wp_region_still_tail 5 (by kernel_rfl) (by kernel_rfl) ?_;simp only[tE,tO,tG,tT];repeat (first|(refine aQ rfl (fun K hK=>?_);go_simp;refine hK _ ?_;clear hK K)|(refine wpStill_skip rfl ?_;go_frame))
         refine wpStill_nil ?_;change wpList _ _ _ _ _ w4.drew;replace HB:Hid (Below w.heap.size w w4.drew):=HB.o.drew;replace HQ:Hid (Blk w4.drew w.heap.size 115 #[.int .i64 x.1.k,.int .i64 x.1.on,.int .i64 x.1.oa,.string x.1.key,.int .i64 x.1.en,.int .i64 x.1.ea,.bool x.1.ins,.int .i64 x.1.vk,.int .i64 x.1.vn,.string x.1.vt,.int .i64 x.1.va,.int .i64 x.1.vb,.slice x.1.A nx x.1.c,.int .i64 x.2.1,.int .i64 x.2.2]):=HQ.o;generalize w4.drew=w5 at HB HQ ⊢;clear c0 c1 c2 c3 c4 c5 c6 c7 c8 c9 c10 c11 c12 c13 c14;clear d0 d1 d2 d3 d4 d5 d6 d7 d8 d9 d10 d11 d12 d13 d14;go_wp2_with fail
         go_at_call 102;refine(C w5).mono ?_
         rintro e w6 ⟨rfl,hb⟩;replace HQ:=Hi (HQ.o.keep (hb.block _ HQ.o.lt));replace HB:Hid (Below w.heap.size w w6):=HB.o.trans (hb.mono HB.o.size);clear hb;clear C;have hK2:=aA HK.o HB.o;rw[HN.o]at hK2;obtain⟨b',o',hA,-,key⟩:=gJ hK2 HN.o hy
         simp only[tW,Addr.mk.injEq,and_true]at hA;obtain⟨rfl,rfl⟩:=hA
         have d0:w6.cell? ⟨b,o+kk*15,none⟩=some (.int .i64 y.1.k):=key 0 _ (by omega) rfl;have d7:w6.cell? ⟨b,o+kk*15+7,none⟩=some (.int .i64 y.1.vk):=key 7 _ (by omega) rfl;have c0:=cZ HQ.o 0 rfl;clear key hK2 hy h2;generalize fY y x=pl at HPE ⊢;cases pl with
         |false =>
          have HF:Hid (cY x K=false):=HPA.o (by rw[HPE.o];rfl);go_wp2_with fail
          go_ret;exact⟨by rw[HF.o];rfl,HB.o⟩
         |true =>
          cases h4:(x.1.k == 4) with
          |false =>
           have HI2:Hid ((x.1.l.take (k+1)).all (bJ x K)=true):=by show _=_;rw[HP.o,HI.o,HPE.o,h4];rfl
           clear HPE HPA HP;go_wp2_with fail
           go_roundw
           case rel=>exact⟨k+1,by go_num,by omega,HI2,HQ,HB⟩
           case measure=>simp[intOf];omega
          |true =>
           cases h1:(y.1.k != 1) with
           |true =>
            have HF:Hid (cY x K=false):=HPA.o (by rw[HPE.o,h4,h1];rfl);go_wp2_with fail
            go_ret;exact⟨by rw[HF.o];rfl,HB.o⟩
           |false =>
            cases h7:(y.1.vk != 4) with
            |true =>
             have HF:Hid (cY x K=false):=HPA.o (by rw[HPE.o,h4,h1,h7];rfl);go_wp2_with fail
             go_ret;exact⟨by rw[HF.o];rfl,HB.o⟩
            |false =>
             have HI2:Hid ((x.1.l.take (k+1)).all (bJ x K)=true):=by show _=_;rw[HP.o,HI.o,HPE.o,h4,h1,h7];rfl
             clear HPE HPA HP;go_wp2_with fail
             go_roundw
             case rel=>exact⟨k+1,by go_num,by omega,HI2,HQ,HB⟩
             case measure=>simp[intOf];omega
      ·have HF:Hid (cY x K=true):=by have:=HI.o;rw[sL (by rw[HNX.o];omega)]at this;rw[HMAY.o,this];rfl
       go_wp2_with fail
       go_ret;exact⟨by rw[HF.o];rfl,HB.o⟩
end Go.Proofs.YtjhkcbideddlgaaGreat
