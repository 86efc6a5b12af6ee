/- Contracts of the document's books: may. -/
import Derived.Test.YtmpkejflgpodkaaGreatDoorP12
import Derived.Deep.DeepCutAuto
set_option maxHeartbeats 16000000
set_option maxRecDepth 20000
set_option linter.unusedVariables false
set_option linter.unusedSimpArgs false
namespace Go.Proofs.YtmpkejflgpodkaaGreatDoor
open Go.ChangeShapes Go.WideShapes Go.ChangeAt Go.RowKit
theorem rootB_obj(x:OpI):bK x.1.on x.1.oa=decide (eG x=(0,0)):=by
 unfold bK eG;by_cases h1:x.1.on=0<;>by_cases h2:x.1.oa=0<;>simp[h1,h2]
theorem rootB_el(x:OpI):bK x.1.en x.1.ea=decide (elP x=(0,0)):=by
 unfold bK elP;by_cases h1:x.1.en=0<;>by_cases h2:x.1.ea=0<;>simp[h1,h2]
theorem keyOkP_eq(x:OpI)(kd:Int):oQ x kd=!(decide (kd=5)&&x.1.key.toList.isEmpty||decide (kd=6)&&!x.1.key.toList.isEmpty):=by
 have e:decide (x.1.key=⟨#[]⟩)=x.1.key.toList.isEmpty:=by
  rw[dec_key];have:(⟨#[]⟩:ByteArray).toList=[]:=by rw[xL]
  rw[this];cases x.1.key.toList<;>simp
 have e2:decide (x.1.key≠⟨#[]⟩)=!x.1.key.toList.isEmpty:=by rw[←e];simp
 unfold oQ;rw[e,e2]
theorem iA{w:World}{D:Nat→Prop}{A:Option Addr}{K:List OpI}{n k:Nat}{y:OpI}(h:aC D w 15 A n (cN K))(hn:K.length=n)(hk:K[k]?=some y):
 ∃b o,A=some ⟨b,o,none⟩∧D b∧∀i v,i<15→(opIC y)[i]?=some v→w.cell? ⟨b,o+k*15+i,none⟩=some v:=by
 have hkl:=(sF.1 hk).1;obtain⟨b,o,e,hb,hc⟩:=h.at_ (by omega) (by omega)
 refine⟨b,o,e,hb,fun i v hi hv=>?_⟩
 have h3:=lV hk i hi;rw[hv]at h3;have:=hc _ _ h3
 rwa [←tL]at this
theorem smay_any(x:OpI)(K:List OpI)(A:Option Addr)(c:Nat)(w:World)(hK:aC (fun k=>k<w.heap.size) w 15 A K.length (cN K))(hx:aC (fun k=>k<w.heap.size) w 2 x.1.A x.1.l.length (aE x.1.l))
 (hl:K.length≤1000000000) (hxl:x.1.l.length≤1000000000) :
 Calls Tryz.prog 82 #[jK x,.slice A K.length c] w fun e w'=>e=.returned (.bool (cU x K))∧Below w.heap.size w w':=by
 obtain⟨n,hn⟩:∃n,K.length=n:=⟨_,rfl⟩
 obtain⟨nx,hnx⟩:∃n,x.1.l.length=n:=⟨_,rfl⟩
 have HN:=Hi hn;have HNX:=Hi hnx;have HK:=Hi hK;have HX:=Hi hx;have HQ:=Hi (Blk.new w 90 #[.int .i64 x.1.k,.int .i64 x.1.on,.int .i64 x.1.oa,.string x.1.key,.int .i64 x.1.en,.int .i64 x.1.ea,.bool x.1.ins,.int .i64 x.1.vk,.int .i64 x.1.vn,.string x.1.vt,.int .i64 x.1.va,.int .i64 x.1.vb,.slice x.1.A x.1.l.length x.1.c,.int .i64 x.2.1,.int .i64 x.2.2]);have HB:Hid (Below w.heap.size w (w.alloc (.cells #[.int .i64 x.1.k,.int .i64 x.1.on,.int .i64 x.1.oa,.string x.1.key,.int .i64 x.1.en,.int .i64 x.1.ea,.bool x.1.ins,.int .i64 x.1.vk,.int .i64 x.1.vn,.string x.1.vt,.int .i64 x.1.va,.int .i64 x.1.vb,.slice x.1.A x.1.l.length x.1.c,.int .i64 x.2.1,.int .i64 x.2.2] 90))):=(sB _ w).alloc (sC _) _;have hsz:(w.alloc (.cells #[.int .i64 x.1.k,.int .i64 x.1.on,.int .i64 x.1.oa,.string x.1.key,.int .i64 x.1.en,.int .i64 x.1.ea,.bool x.1.ins,.int .i64 x.1.vk,.int .i64 x.1.vn,.string x.1.vt,.int .i64 x.1.va,.int .i64 x.1.vb,.slice x.1.A x.1.l.length x.1.c,.int .i64 x.2.1,.int .i64 x.2.2] 90)).heap.size=w.heap.size+1:=by simp
 unfold jK;rw[hn]at hl ⊢;rw[hnx]at hxl HQ HB hsz ⊢;have H1:=fun W (r:Rf) h=>slook_any K r (fun k=>k<W.heap.size) A c W h (fun _ h=>h) (by rw[HN.o];omega)
 rw[hn]at H1;clear hn hnx hK hx;go_enter Tryz.func82,Tryz.ntmps82;go_wp2_with fail
 go_at_call 30;refine(cG _ _ _).mono ?_
 rintro e w1 ⟨rfl,hb⟩;replace HQ:=Hi (HQ.o.keep (hb.block _ HQ.o.lt));replace HB:Hid (Below w.heap.size w w1):=HB.o.trans (hb.mono HB.o.size);clear hb;clear hsz;rw[rootB_obj];obtain⟨rb,hrb⟩:∃rb,decide (eG x=(0,0))=rb:=⟨_,rfl⟩
 rw[hrb];have HRB:=Hi hrb;clear hrb;go_upto_if 17 with fail
 go_cut [5] (fun s5 wc=>∃kd:Int,s5=.int .i64 kd∧Hid (eR x K=some kd)∧Hid (Blk wc w.heap.size 90 #[.int .i64 x.1.k,.int .i64 x.1.on,.int .i64 x.1.oa,.string x.1.key,.int .i64 x.1.en,.int .i64 x.1.ea,.bool x.1.ins,.int .i64 x.1.vk,.int .i64 x.1.vn,.string x.1.vt,.int .i64 x.1.va,.int .i64 x.1.vb,.slice x.1.A nx x.1.c,.int .i64 x.2.1,.int .i64 x.2.2])∧Hid (Below w.heap.size w wc))
 case first =>
  cases rb with
  |true =>
   have HD:Hid (eR x K=some 5):=by show _=_;unfold eR;rw[if_pos (of_decide_eq_true HRB.o)]
   go_wp2_with fail
   go_meet
   case rel=>exact⟨5,rfl,HD,HQ,HB⟩
  |false =>
   have HR:=Hi (of_decide_eq_false HRB.o);have c1:=cZ HQ.o 1 rfl;have c2:=cZ HQ.o 2 rfl;have C:=H1 w1 (eG x) (by rw[←HN.o];exact aA HK.o HB.o);go_wp2_with fail
   go_at_call 31;refine C.mono ?_;rintro e w2 ⟨i,rfl,hi,hb⟩;replace HQ:=Hi (HQ.o.keep (hb.block _ HQ.o.lt));replace HB:Hid (Below w.heap.size w w2):=HB.o.trans (hb.mono HB.o.size);clear hb;clear c1 c2;clear C;rcases hi with⟨rfl,hno⟩|⟨kk,y,rfl,hy,hlk⟩
   ·have HF:Hid (cU x K=false):=by show _=_;unfold cU eR;rw[if_neg HR.o,hno]
    clear hno;go_wp2_with fail
    go_ret;exact⟨by rw[HF.o];rfl,HB.o⟩
   ·have hK2:=aA HK.o HB.o;rw[HN.o]at hK2;obtain⟨b,o,hA,-,key⟩:=iA hK2 HN.o hy
    subst hA;have hkn:kk<n:=by rw[←HN.o];exact(sF.1 hy).1
    have d0:w2.cell? ⟨b,o+kk*15,none⟩=some (.int .i64 y.1.k):=key 0 _ (by omega) rfl;have d7:w2.cell? ⟨b,o+kk*15+7,none⟩=some (.int .i64 y.1.vk):=key 7 _ (by omega) rfl;have hk0:decide ((kk:Int)<0)=false:=decide_eq_false (by omega);clear key hK2;by_cases h2:y.1.k=2
    ·have HD:Hid (eR x K=some y.1.vk):=by show _=_;unfold eR;rw[if_neg HR.o,hlk];simp only[h2,if_true]
     have e1:(y.1.k != 2)=false:=by simp[h2]
     clear hlk hy h2;go_wp2_with fail
     go_meet
     case rel=>exact⟨_,rfl,HD,HQ,HB⟩
    ·have HF:Hid (cU x K=false):=by show _=_;unfold cU eR;rw[if_neg HR.o,hlk];simp only[h2,if_false]
     have e1:(y.1.k != 2)=true:=by simp[h2]
     clear hlk hy h2;go_wp2_with fail
     go_ret;exact⟨by rw[HF.o];rfl,HB.o⟩
 case rest =>
  clear HQ HB;obtain⟨kd,rfl,HKD,HQ,HB⟩:=hcut
  have c3:=cZ HQ.o 3 rfl;go_upto_region 8 with fail
  go_cut [58] (fun s58 wd=>s58=.bool (!oQ x kd)∧Hid (Blk wd w.heap.size 90 #[.int .i64 x.1.k,.int .i64 x.1.on,.int .i64 x.1.oa,.string x.1.key,.int .i64 x.1.en,.int .i64 x.1.ea,.bool x.1.ins,.int .i64 x.1.vk,.int .i64 x.1.vn,.string x.1.vt,.int .i64 x.1.va,.int .i64 x.1.vb,.slice x.1.A nx x.1.c,.int .i64 x.2.1,.int .i64 x.2.2])∧Hid (Below w.heap.size w wd))
  case first =>
   have HKY:=Hi (keyOkP_eq x kd);by_cases h5:kd=5
   ·subst h5;cases hk:x.1.key.toList.isEmpty<;>rw[hk]at HKY;all_goals
     go_wp2_with fail
     go_meet
     case rel=>exact⟨by rw[HKY.o];rfl,HQ,HB⟩
   ·have e5:(kd == 5)=false:=by simp[h5]
    by_cases h6:kd=6
    ·subst h6;cases hk:x.1.key.toList.isEmpty<;>rw[hk]at HKY;all_goals
      go_wp2_with fail
      go_meet
      case rel=>exact⟨by rw[HKY.o];rfl,HQ,HB⟩
    ·have e6:(kd == 6)=false:=by simp[h6]
     rw[decide_eq_false h5,decide_eq_false h6]at HKY;clear h5 h6;go_wp2_with fail
     go_meet
     case rel=>exact⟨by rw[HKY.o];rfl,HQ,HB⟩
  case rest =>
   clear c3;clear HQ HB;obtain⟨rfl,HQ,HB⟩:=hcut
   obtain⟨wd,hwd⟩:∃wd,wd=wc:=⟨_,rfl⟩
   subst hwd;cases hko:oQ x kd with
   |false =>
    have HF:Hid (cU x K=false):=by show _=_;unfold cU;rw[HKD.o];simp only[hko,wI]
    clear hko;go_wp2_with fail
    go_ret;exact⟨by rw[HF.o];rfl,HB.o⟩
   |true =>
    have HKO:=Hi hko;clear hko;have c4:=cZ HQ.o 4 rfl;have c5:=cZ HQ.o 5 rfl;go_wp2_with fail
    go_at_call 30;refine(cG _ _ _).mono ?_
    rintro e w3 ⟨rfl,hb⟩;replace HQ:=Hi (HQ.o.keep (hb.block _ HQ.o.lt));replace HB:Hid (Below w.heap.size w w3):=HB.o.trans (hb.mono HB.o.size);clear hb;clear c4 c5;rw[rootB_el];obtain⟨re,hre⟩:∃re,decide (elP x=(0,0))=re:=⟨_,rfl⟩
    rw[hre];have HRE:=Hi hre;clear hre;go_upto_if 64 with fail
    go_cut [] (fun wc=>Hid (dA x K=true)∧Hid (Blk wc w.heap.size 90 #[.int .i64 x.1.k,.int .i64 x.1.on,.int .i64 x.1.oa,.string x.1.key,.int .i64 x.1.en,.int .i64 x.1.ea,.bool x.1.ins,.int .i64 x.1.vk,.int .i64 x.1.vn,.string x.1.vt,.int .i64 x.1.va,.int .i64 x.1.vb,.slice x.1.A nx x.1.c,.int .i64 x.2.1,.int .i64 x.2.2])∧Hid (Below w.heap.size w wc))
    case first =>
     cases re with
     |true =>
      have HD:Hid (dA x K=true):=by show _=_;unfold dA;rw[if_pos (of_decide_eq_true HRE.o)]
      go_wp2_with fail
      go_meet
      case rel=>exact⟨HD,HQ,HB⟩
     |false =>
      have HR:=Hi (of_decide_eq_false HRE.o);have c4:=cZ HQ.o 4 rfl;have c5:=cZ HQ.o 5 rfl;have C:=H1 w3 (elP x) (by rw[←HN.o];exact aA HK.o HB.o);go_wp2_with fail
      go_at_call 31;refine C.mono ?_;rintro e w4 ⟨i,rfl,hi,hb⟩;replace HQ:=Hi (HQ.o.keep (hb.block _ HQ.o.lt));replace HB:Hid (Below w.heap.size w w4):=HB.o.trans (hb.mono HB.o.size);clear hb;clear c4 c5;clear C;rcases hi with⟨rfl,hno⟩|⟨kk,y,rfl,hy,hlk⟩
      ·have HF:Hid (cU x K=false):=by show _=_;unfold cU;rw[HKD.o];simp only[dA,if_neg HR.o,hno,yD,wI]
       clear hno;go_wp2_with fail
       go_quiet (fail)
       change Exit.then _ _ _ _ (w4.drewN nq);replace HB:Hid (Below w.heap.size w (w4.drewN nq)):=aJ HB.o nq;generalize w4.drewN nq=w5 at HB ⊢;go_wp2_with fail
       go_ret;exact⟨by rw[HF.o];rfl,HB.o⟩
      ·have hK2:=aA HK.o HB.o;rw[HN.o]at hK2;obtain⟨b,o,hA,-,key⟩:=iA hK2 HN.o hy
       subst hA;have hkn:kk<n:=by rw[←HN.o];exact(sF.1 hy).1
       have d1:w4.cell? ⟨b,o+kk*15+1,none⟩=some (.int .i64 y.1.on):=key 1 _ (by omega) rfl;have d2:w4.cell? ⟨b,o+kk*15+2,none⟩=some (.int .i64 y.1.oa):=key 2 _ (by omega) rfl;have d6:w4.cell? ⟨b,o+kk*15+6,none⟩=some (.bool y.1.ins):=key 6 _ (by omega) rfl;have c1:=cZ HQ.o 1 rfl;have c2:=cZ HQ.o 2 rfl;clear key hK2;have hk0:decide ((kk:Int)<0)=false:=decide_eq_false (by omega);have E:=fun w=>iS y.1.on y.1.oa x.1.on x.1.oa w
       have HE:Hid (dA x K=(y.1.ins&&(y.1.on == x.1.on&&y.1.oa == x.1.oa))):=by
        show _=_;unfold dA;rw[if_neg HR.o,hlk];show(y.1.ins&&decide (eG y=eG x))=_
        rw[show decide (eG y=eG x)=_ from eN ..]
       generalize (y.1.on == x.1.on&&y.1.oa == x.1.oa)=bo at E HE;generalize y.1.ins=bi at d6 HE;clear hlk hy;cases bi with
       |false =>
        have HF:Hid (cU x K=false):=by show _=_;unfold cU;rw[HKD.o];simp only[HE.o,wI,yD]
        go_wp2_with fail
        go_quiet (fail)
        change Exit.then _ _ _ _ (w4.drewN nq);replace HB:Hid (Below w.heap.size w (w4.drewN nq)):=aJ HB.o nq;replace HQ:Hid (Blk (w4.drewN nq) w.heap.size 90 #[.int .i64 x.1.k,.int .i64 x.1.on,.int .i64 x.1.oa,.string x.1.key,.int .i64 x.1.en,.int .i64 x.1.ea,.bool x.1.ins,.int .i64 x.1.vk,.int .i64 x.1.vn,.string x.1.vt,.int .i64 x.1.va,.int .i64 x.1.vb,.slice x.1.A nx x.1.c,.int .i64 x.2.1,.int .i64 x.2.2]):=HQ.o;generalize w4.drewN nq=w5 at HB HQ ⊢;clear c1 c2 d1 d2 d6;go_wp2_with fail
        go_ret;exact⟨by rw[HF.o];rfl,HB.o⟩
       |true =>
        cases bo with
        |false =>
         have HF:Hid (cU x K=false):=by show _=_;unfold cU;rw[HKD.o];simp only[HE.o,wI,yD]
         go_wp2_with fail
         go_quiet (fail)
         change Exit.then _ _ _ _ (w4.drewN nq);replace HB:Hid (Below w.heap.size w (w4.drewN nq)):=aJ HB.o nq;replace HQ:Hid (Blk (w4.drewN nq) w.heap.size 90 #[.int .i64 x.1.k,.int .i64 x.1.on,.int .i64 x.1.oa,.string x.1.key,.int .i64 x.1.en,.int .i64 x.1.ea,.bool x.1.ins,.int .i64 x.1.vk,.int .i64 x.1.vn,.string x.1.vt,.int .i64 x.1.va,.int .i64 x.1.vb,.slice x.1.A nx x.1.c,.int .i64 x.2.1,.int .i64 x.2.2]):=HQ.o;generalize w4.drewN nq=w5 at HB HQ ⊢;clear c1 c2 d1 d2 d6;go_wp2_with fail
         go_ret;exact⟨by rw[HF.o];rfl,HB.o⟩
        |true =>
         go_wp2_with fail
         go_quiet (fail)
         change Exit.then _ _ _ _ (w4.drewN nq);replace HB:Hid (Below w.heap.size w (w4.drewN nq)):=aJ HB.o nq;replace HQ:Hid (Blk (w4.drewN nq) w.heap.size 90 #[.int .i64 x.1.k,.int .i64 x.1.on,.int .i64 x.1.oa,.string x.1.key,.int .i64 x.1.en,.int .i64 x.1.ea,.bool x.1.ins,.int .i64 x.1.vk,.int .i64 x.1.vn,.string x.1.vt,.int .i64 x.1.va,.int .i64 x.1.vb,.slice x.1.A nx x.1.c,.int .i64 x.2.1,.int .i64 x.2.2]):=HQ.o;generalize w4.drewN nq=w5 at HB HQ ⊢;clear c1 c2 d1 d2 d6;go_wp2_with fail
         go_meet
         case rel=>exact⟨HE.o,HQ,HB⟩
    case rest =>
     clear HQ HB;obtain⟨HEO,HQ,HB⟩:=hcut
     have HMAY:Hid (cU x K=x.1.l.all (bM x K)):=by show _=_;unfold cU;rw[HKD.o];simp only[HKO.o,HEO.o,wG]
     clear HKD HKO HEO HRB HRE;go_wp2_with fail
     go_loopw [9,10,11] (fun s9 _ _ wr=>∃k:Nat,s9=.int .i64 k∧k≤nx∧Hid ((x.1.l.take k).all (bM x K)=true)∧Hid (Blk wr w.heap.size 90 #[.int .i64 x.1.k,.int .i64 x.1.on,.int .i64 x.1.oa,.string x.1.key,.int .i64 x.1.en,.int .i64 x.1.ea,.bool x.1.ins,.int .i64 x.1.vk,.int .i64 x.1.vn,.string x.1.vt,.int .i64 x.1.va,.int .i64 x.1.vb,.slice x.1.A nx x.1.c,.int .i64 x.2.1,.int .i64 x.2.2])∧Hid (Below w.heap.size w wr)) (fun s9 _ _ _=>nx-(intOf s9).toNat)
     case atStart=>exact⟨0,rfl,by omega,by show _=_;simp,HQ,HB⟩
     case round =>
      clear HQ HB;obtain⟨k,rfl,hk,HI,HQ,HB⟩:=hrel
      have c12:=cZ HQ.o 12 rfl;by_cases hlt:k<nx
      ·obtain⟨p,hp⟩:∃p,x.1.l[k]?=some p:=⟨_,sD (by rw[HNX.o];exact hlt)⟩
       obtain⟨bp,op,hA,-,hcp⟩:=(aA HX.o HB.o).at_ (by rw[HNX.o];omega) (by omega)
       have p1:wr.cell? ⟨bp,op+k*2,none⟩=some (.int .i64 p.1):=hcp _ _ (aL hp).1;have p2:wr.cell? ⟨bp,op+k*2+1,none⟩=some (.int .i64 p.2):=hcp _ _ (aL hp).2;rw[hA]at c12;have HP:Hid ((x.1.l.take (k+1)).all (bM x K)=((x.1.l.take k).all (bM x K)&&bM x K p)):=by
        show _=_;rw[sS,hp];simp
       have HPA:Hid (bM x K p=false→cU x K=false):=by
        intro h;rw[HMAY.o];cases hh:x.1.l.all (bM x K) with
        |false=>rfl
        |true=>rw[tP.1 hh p (sJ hp)]at h;cases h
       have C:=H1 wr p (by rw[←HN.o];exact aA HK.o HB.o);clear hcp hp hA;go_wp2_with fail
       go_at_call 31;refine C.mono ?_;rintro e w4 ⟨i,rfl,hi,hb⟩;replace HQ:=Hi (HQ.o.keep (hb.block _ HQ.o.lt));replace HB:Hid (Below w.heap.size w w4):=HB.o.trans (hb.mono HB.o.size);clear hb;clear C p1 p2 c12;rcases hi with⟨rfl,hno⟩|⟨kk,y,rfl,hy,hlk⟩
       ·have HF:Hid (cU x K=false):=HPA.o (by unfold bM;rw[hno]);clear hno;go_wp2_with fail
        go_ret;exact⟨by rw[HF.o];rfl,HB.o⟩
       ·have hK2:=aA HK.o HB.o;rw[HN.o]at hK2;obtain⟨b,o,hA,-,key⟩:=iA hK2 HN.o hy
        subst hA;have hkn:kk<n:=by rw[←HN.o];exact(sF.1 hy).1
        have hk0:decide ((kk:Int)<0)=false:=decide_eq_false (by omega);have HPE:Hid (bM x K p=(!decide (2<y.1.k)&&gF y x&&!((x.1.k == 4)&&((y.1.k != 1)||(y.1.vk != 4))))):=by
         show _=_;unfold bM;rw[hlk];have e1:decide (x.1.k=4)=(x.1.k == 4):=by by_cases h:x.1.k=4<;>simp[h]
         have e2:decide (y.1.k≠1)=(y.1.k != 1):=by by_cases h:y.1.k=1<;>simp[h]
         have e3:decide (y.1.vk≠4)=(y.1.vk != 4):=by by_cases h:y.1.vk=4<;>simp[h]
         simp only[e1,e2,e3]
        have d0:w4.cell? ⟨b,o+kk*15,none⟩=some (.int .i64 y.1.k):=key 0 _ (by omega) rfl;have d1:w4.cell? ⟨b,o+kk*15+1,none⟩=some (.int .i64 y.1.on):=key 1 _ (by omega) rfl;have d2:w4.cell? ⟨b,o+kk*15+2,none⟩=some (.int .i64 y.1.oa):=key 2 _ (by omega) rfl;have d3:w4.cell? ⟨b,o+kk*15+3,none⟩=some (.string y.1.key):=key 3 _ (by omega) rfl;have d4:w4.cell? ⟨b,o+kk*15+4,none⟩=some (.int .i64 y.1.en):=key 4 _ (by omega) rfl;have d5:w4.cell? ⟨b,o+kk*15+5,none⟩=some (.int .i64 y.1.ea):=key 5 _ (by omega) rfl;have d6:w4.cell? ⟨b,o+kk*15+6,none⟩=some (.bool y.1.ins):=key 6 _ (by omega) rfl;have d7:w4.cell? ⟨b,o+kk*15+7,none⟩=some (.int .i64 y.1.vk):=key 7 _ (by omega) rfl;have d8:w4.cell? ⟨b,o+kk*15+8,none⟩=some (.int .i64 y.1.vn):=key 8 _ (by omega) rfl;have d9:w4.cell? ⟨b,o+kk*15+9,none⟩=some (.string y.1.vt):=key 9 _ (by omega) rfl;have d10:w4.cell? ⟨b,o+kk*15+10,none⟩=some (.int .i64 y.1.va):=key 10 _ (by omega) rfl;have d11:w4.cell? ⟨b,o+kk*15+11,none⟩=some (.int .i64 y.1.vb):=key 11 _ (by omega) rfl;have d12:w4.cell? ⟨b,o+kk*15+12,none⟩=some (.slice y.1.A y.1.l.length y.1.c):=key 12 _ (by omega) rfl;have d13:w4.cell? ⟨b,o+kk*15+13,none⟩=some (.int .i64 y.2.1):=key 13 _ (by omega) rfl;have d14:w4.cell? ⟨b,o+kk*15+14,none⟩=some (.int .i64 y.2.2):=key 14 _ (by omega) rfl;obtain⟨c0,c1,c2,c3,c4,c5,c6,c7,c8,c9,c10,c11,c12,c13,c14⟩:=ce15 HQ.o
        clear key hK2 hlk;by_cases h2:2<y.1.k
        ·have HF:Hid (cU x K=false):=HPA.o (by rw[HPE.o,decide_eq_true h2];rfl);clear hy;go_wp2_with fail
         go_ret;exact⟨by rw[HF.o];rfl,HB.o⟩
        ·rw[decide_eq_false h2]at HPE;have C:=fun W=>splace_any y x W
         unfold jK at C;rw[HNX.o]at C;go_wp2_with fail
         refine wp_region_still_tail 5 (by kernel_rfl) (by kernel_rfl) ?_;simp only[sV,tG,sY,tH];repeat (first|(refine aK rfl (fun K hK=>?_);go_simp;refine hK _ ?_;clear hK K)|(refine aO rfl ?_;go_frame))
         refine wpStill_nil ?_;change wpList _ _ _ _ _ w4.drew;replace HB:Hid (Below w.heap.size w w4.drew):=HB.o.drew;replace HQ:Hid (Blk w4.drew w.heap.size 90 #[.int .i64 x.1.k,.int .i64 x.1.on,.int .i64 x.1.oa,.string x.1.key,.int .i64 x.1.en,.int .i64 x.1.ea,.bool x.1.ins,.int .i64 x.1.vk,.int .i64 x.1.vn,.string x.1.vt,.int .i64 x.1.va,.int .i64 x.1.vb,.slice x.1.A nx x.1.c,.int .i64 x.2.1,.int .i64 x.2.2]):=HQ.o;generalize w4.drew=w5 at HB HQ ⊢;clear c0 c1 c2 c3 c4 c5 c6 c7 c8 c9 c10 c11 c12 c13 c14;clear d0 d1 d2 d3 d4 d5 d6 d7 d8 d9 d10 d11 d12 d13 d14;go_wp2_with fail
         go_at_call 36;refine(C w5).mono ?_
         rintro e w6 ⟨rfl,hb⟩;replace HQ:=Hi (HQ.o.keep (hb.block _ HQ.o.lt));replace HB:Hid (Below w.heap.size w w6):=HB.o.trans (hb.mono HB.o.size);clear hb;clear C;have hK2:=aA HK.o HB.o;rw[HN.o]at hK2;obtain⟨b',o',hA,-,key⟩:=iA hK2 HN.o hy
         simp only[uA,Addr.mk.injEq,and_true]at hA;obtain⟨rfl,rfl⟩:=hA
         have d0:w6.cell? ⟨b,o+kk*15,none⟩=some (.int .i64 y.1.k):=key 0 _ (by omega) rfl;have d7:w6.cell? ⟨b,o+kk*15+7,none⟩=some (.int .i64 y.1.vk):=key 7 _ (by omega) rfl;have c0:=cZ HQ.o 0 rfl;clear key hK2 hy h2;generalize gF y x=pl at HPE ⊢;cases pl with
         |false =>
          have HF:Hid (cU x K=false):=HPA.o (by rw[HPE.o];rfl);go_wp2_with fail
          go_ret;exact⟨by rw[HF.o];rfl,HB.o⟩
         |true =>
          cases h4:(x.1.k == 4) with
          |false =>
           have HI2:Hid ((x.1.l.take (k+1)).all (bM x K)=true):=by show _=_;rw[HP.o,HI.o,HPE.o,h4];rfl
           clear HPE HPA HP;go_wp2_with fail
           go_roundw
           case rel=>exact⟨k+1,by go_num,by omega,HI2,HQ,HB⟩
           case measure=>simp[intOf];omega
          |true =>
           cases h1:(y.1.k != 1) with
           |true =>
            have HF:Hid (cU x K=false):=HPA.o (by rw[HPE.o,h4,h1];rfl);go_wp2_with fail
            go_ret;exact⟨by rw[HF.o];rfl,HB.o⟩
           |false =>
            cases h7:(y.1.vk != 4) with
            |true =>
             have HF:Hid (cU x K=false):=HPA.o (by rw[HPE.o,h4,h1,h7];rfl);go_wp2_with fail
             go_ret;exact⟨by rw[HF.o];rfl,HB.o⟩
            |false =>
             have HI2:Hid ((x.1.l.take (k+1)).all (bM x K)=true):=by show _=_;rw[HP.o,HI.o,HPE.o,h4,h1,h7];rfl
             clear HPE HPA HP;go_wp2_with fail
             go_roundw
             case rel=>exact⟨k+1,by go_num,by omega,HI2,HQ,HB⟩
             case measure=>simp[intOf];omega
      ·have HF:Hid (cU x K=true):=by have:=HI.o;rw[sL (by rw[HNX.o];omega)]at this;rw[HMAY.o,this];rfl
       go_wp2_with fail
       go_ret;exact⟨by rw[HF.o];rfl,HB.o⟩
end Go.Proofs.YtmpkejflgpodkaaGreatDoor
