/- Contracts of the program's books: may an op be? -/
import Derived.Test.YtjhkcbideddlgaaGreatP17
import Derived.Deep.RegionHeld3
set_option maxHeartbeats 16000000
set_option maxRecDepth 20000
set_option linter.unusedVariables false
set_option linter.unusedSimpArgs false
namespace Go.Proofs.YtjhkcbideddlgaaGreat
open Go.ChangeShapes Go.WideShapes Go.ChangeAt Go.RowKit
theorem oB{l:List Oper}{i:Nat}{o:Oper}{rest:List Oper}(h:l.drop i=o::rest):l.toArray[i]?=some o:=by
 have h2:(l.drop i)[0]?=some o:=by rw[h];rfl
 rw[wC]at h2;simpa using h2
section
variable{P:Program}{l:List Oper}{Q:Exit→Act→World→Prop}{md:Region.Mode}{S:World→Prop}
theorem aK{i:Nat}{oi:Oper}{rest:List Oper}{v:Value}{fuel:Nat}{listed:Array Bool}{a:Act}{w:World}(hl:l.drop i=oi::rest)
 (hs:Region.noSelect l.toArray=true) (hf:Region.free md l.toArray listed i=true) (hr:(Region.ready md l.toArray listed).contains i=true)
 (hQ:∀c a w,Q (.panic c) (a.put oi.dst v) w→Q (.panic c) a w) (hy:YieldsIf P l.toArray S oi v a) (hS:S w)
 (h:wpAnyH P md l.toArray Q S fuel (listed.setIfInBounds i true) (a.put oi.dst v) w):wpAnyH P md l.toArray Q S (fuel+1) listed a w :=
 wpAnyH_take (oB hl) hs hf hr hQ hy hS h
theorem bK{fuel:Nat}{listed:Array Bool}{a:Act}{w:World}{i:Nat}{o:Oper}{rs:List Nat}{rest:List Oper}(hl:l.drop i=o::rest)
 (h:∀K':Act→World→Prop,Shut (∀a w,S w→(S w→wpAnyH P md l.toArray Q S fuel (listed.setIfInBounds i true) a w)→K' a w)→if Region.wanted o (yielded l.toArray a.tmps)=true then Oper.wp P o a w K' Q else K' (a.put o.dst undef) w)
 (hs:AllReadyH P md l.toArray Q S fuel listed a w rs):AllReadyH P md l.toArray Q S fuel listed a w (i::rs):=AllReadyH.cons (oB hl) h hs
end
theorem opfits_any(x:OpI)(K:List OpI)(b:Nat)(w:World)(hM:fU w b K)(hx:aC (fun k=>k<w.heap.size) w 2 x.1.A x.1.l.length (aF x.1.l))(hxl:x.1.l.length≤1000000000)
 (hr1:eL (fQ x)) (hr2:eL (elP x)) (hr3:∀p∈x.1.l,eL p) (hk:∀y∈K,1≤y.1.k∧(y.1.k=2→y.1.vk=5∨y.1.vk=6)) :
 Calls Tryz.prog 91 #[iH x,.map (some b)] w fun e w'=>e=.returned (.bool (cY x K))∧Below w.heap.size w w':=by
 obtain⟨nx,hnx⟩:∃n,x.1.l.length=n:=⟨_,rfl⟩
 have HNX:=Hi hnx;have HX:=Hi hx;have HK:=Hi hk;have HR3:=Hi hr3;have HQ:=Hi (Blk.new w 143 #[.int .i64 x.1.k,.int .i64 x.1.on,.int .i64 x.1.oa,.string x.1.key,.int .i64 x.1.en,.int .i64 x.1.ea,.bool x.1.ins,.int .i64 x.1.vk,.int .i64 x.1.vn,.string x.1.vt,.int .i64 x.1.va,.int .i64 x.1.vb,.slice x.1.A x.1.l.length x.1.c,.int .i64 x.2.1,.int .i64 x.2.2]);have HB:Hid (Below w.heap.size w (w.alloc (.cells #[.int .i64 x.1.k,.int .i64 x.1.on,.int .i64 x.1.oa,.string x.1.key,.int .i64 x.1.en,.int .i64 x.1.ea,.bool x.1.ins,.int .i64 x.1.vk,.int .i64 x.1.vn,.string x.1.vt,.int .i64 x.1.va,.int .i64 x.1.vb,.slice x.1.A x.1.l.length x.1.c,.int .i64 x.2.1,.int .i64 x.2.2] 143))):=(sA _ w).alloc (sB _) _;have HM:=Hi hM;unfold iH;rw[hnx]at hxl HQ HB ⊢;clear hnx hx hk hr3 hM;obtain⟨rb,hrb⟩:∃rb,decide (fQ x=(0,0))=rb:=⟨_,rfl⟩
 have E:=fun w=>eq_idD x.1.on x.1.oa 0 0 w
 rw[show decide ((x.1.on,x.1.oa)=((0:Int),(0:Int)))=rb from hrb]at E;have HRB:=Hi hrb;clear hrb;go_enter Tryz.func91,Tryz.ntmps91;go_upto_if 18 with fail
 generalize w.alloc (.cells #[.int .i64 x.1.k,.int .i64 x.1.on,.int .i64 x.1.oa,.string x.1.key,.int .i64 x.1.en,.int .i64 x.1.ea,.bool x.1.ins,.int .i64 x.1.vk,.int .i64 x.1.vn,.string x.1.vt,.int .i64 x.1.va,.int .i64 x.1.vb,.slice x.1.A nx x.1.c,.int .i64 x.2.1,.int .i64 x.2.2] 143)=V at HQ HB ⊢;go_cut [5] (fun s5 wc=>∃kd:Int,s5=.int .i64 kd∧Hid (eS x K=some kd)∧Hid (kd=5∨kd=6)∧Hid (Blk wc w.heap.size 143 #[.int .i64 x.1.k,.int .i64 x.1.on,.int .i64 x.1.oa,.string x.1.key,.int .i64 x.1.en,.int .i64 x.1.ea,.bool x.1.ins,.int .i64 x.1.vk,.int .i64 x.1.vn,.string x.1.vt,.int .i64 x.1.va,.int .i64 x.1.vb,.slice x.1.A nx x.1.c,.int .i64 x.2.1,.int .i64 x.2.2])∧Hid (Below w.heap.size w wc))
 case first =>
  cases rb with
  |true =>
   have HD:Hid (eS x K=some 5):=by show _=_;unfold eS;rw[tA (of_decide_eq_true HRB.o)]
   go_wp2_with fail
   go_meet
   case rel=>exact⟨5,rfl,HD,.inl rfl,HQ,HB⟩
  |false =>
   have HR:=Hi (of_decide_eq_false HRB.o);have c1:=cZ HQ.o 1 rfl;have c2:=cZ HQ.o 2 rfl;have hlk:=fU.look (show fU V b K from aJ.keep HM.o (HB.o.block _ (aJ.lt HM.o))) hr1;have HQA:=fun o=>Hi (HQ.o.keep (w':=V.alloc o) (((sA _ V).alloc (sB _) o).block _ HQ.o.lt))
   have HBA:=fun o=>Hi (HB.o.alloc HB.o.size o)
   cases hf:cX K (fQ x) with
   |none =>
    have HF:Hid (cY x K=false):=by show _=_;unfold cY eS;rw[sT HR.o,hf]
    unfold kT at hlk;rw[hf]at hlk;simp only[fQ,mS,Option.isSome_none]at hlk;clear hf;go_wp2_with fail
    go_ret;exact⟨by rw[HF.o];rfl,(HBA _).out⟩
   |some y =>
    obtain⟨hy,_⟩:=rM hf
    unfold kT at hlk;rw[hf]at hlk;simp only[fQ,iH,Option.isSome_some]at hlk;by_cases h2:y.1.k=2
    ·have HD:Hid (eS x K=some y.1.vk):=by show _=_;unfold eS;rw[sT HR.o,hf];simp only[h2,if_true]
     have HKY:=Hi ((HK.o y hy).2 h2);have e1:(y.1.k != 2)=false:=by simp[h2]
     clear hf hy h2;go_wp2_with fail
     go_meet
     case rel=>exact⟨_,rfl,HD,HKY,HQA _,HBA _⟩
    ·have HF:Hid (cY x K=false):=by show _=_;unfold cY eS;rw[sT HR.o,hf];simp only[h2,if_false]
     have e1:(y.1.k != 2)=true:=by simp[h2]
     clear hf hy h2;go_wp2_with fail
     go_ret;exact⟨by rw[HF.o];rfl,(HBA _).out⟩
 case rest =>
  clear HQ HB;obtain⟨kd,rfl,HKD,HK56,HQ,HB⟩:=hcut
  have c3:=cZ HQ.o 3 rfl;go_upto_region 7 with fail
  go_cut [45] (fun s45 wd=>s45=.bool (!kW x kd)∧Hid (Blk wd w.heap.size 143 #[.int .i64 x.1.k,.int .i64 x.1.on,.int .i64 x.1.oa,.string x.1.key,.int .i64 x.1.en,.int .i64 x.1.ea,.bool x.1.ins,.int .i64 x.1.vk,.int .i64 x.1.vn,.string x.1.vt,.int .i64 x.1.va,.int .i64 x.1.vb,.slice x.1.A nx x.1.c,.int .i64 x.2.1,.int .i64 x.2.2])∧Hid (Below w.heap.size w wd))
  case first =>
   have HKY:=Hi (keyOkP_eq x kd);rcases HK56.o with h5|h6
   ·subst h5;cases hk:x.1.key.toList.isEmpty<;>rw[hk]at HKY;all_goals
     go_wp2_with fail
     go_meet
     case rel=>exact⟨by rw[HKY.o];rfl,HQ,HB⟩
   ·subst h6;cases hk:x.1.key.toList.isEmpty<;>rw[hk]at HKY;all_goals
     go_wp2_with fail
     go_meet
     case rel=>exact⟨by rw[HKY.o];rfl,HQ,HB⟩
  case rest =>
   clear c3;clear HQ HB;obtain⟨rfl,HQ,HB⟩:=hcut
   obtain⟨wd,hwd⟩:∃wd,wd=wc:=⟨_,rfl⟩
   subst hwd;cases hko:kW x kd with
   |false =>
    have HF:Hid (cY x K=false):=by show _=_;unfold cY;rw[HKD.o];simp only[hko,vN]
    clear hko;go_wp2_with fail
    go_ret;exact⟨by rw[HF.o];rfl,HB.o⟩
   |true =>
    have HKO:=Hi hko;clear hko;have c1:=cZ HQ.o 1 rfl;have c2:=cZ HQ.o 2 rfl;have c4:=cZ HQ.o 4 rfl;have c5:=cZ HQ.o 5 rfl;obtain⟨re,hre⟩:∃re,decide (elP x=(0,0))=re:=⟨_,rfl⟩
    have E2:=fun w=>eq_idD x.1.en x.1.ea 0 0 w
    rw[show decide ((x.1.en,x.1.ea)=((0:Int),(0:Int)))=re from hre]at E2;have HRE:=Hi hre;clear hre E;go_upto_if 50 with fail
    go_cut [] (fun wc=>Hid (dA x K=true)∧Hid (Blk wc w.heap.size 143 #[.int .i64 x.1.k,.int .i64 x.1.on,.int .i64 x.1.oa,.string x.1.key,.int .i64 x.1.en,.int .i64 x.1.ea,.bool x.1.ins,.int .i64 x.1.vk,.int .i64 x.1.vn,.string x.1.vt,.int .i64 x.1.va,.int .i64 x.1.vb,.slice x.1.A nx x.1.c,.int .i64 x.2.1,.int .i64 x.2.2])∧Hid (Below w.heap.size w wc))
    case first =>
     have hlk:=fU.look (show fU wd b K from aJ.keep HM.o (HB.o.block _ (aJ.lt HM.o))) hr2;have HQA:=fun o=>Hi (HQ.o.keep (w':=wd.alloc o) (((sA _ wd).alloc (sB _) o).block _ HQ.o.lt))
     have HBA:=fun o=>Hi (HB.o.alloc HB.o.size o)
     have HFF:Hid (dA x K=false→cY x K=false):=fun h=>by unfold cY;rw[HKD.o];simp only[HKO.o,h,vL,vN]
     have hql:w.heap.size<wd.heap.size:=HQ.o.lt;cases re with
     |true =>
      have HD:Hid (dA x K=true):=by show _=_;unfold dA;rw[tA (of_decide_eq_true HRE.o)]
      clear hlk;go_wp2_with fail
      go_meet
      case rel=>exact⟨HD,HQ,HB⟩
     |false =>
      have HR:=Hi (of_decide_eq_false HRE.o);cases hf:cX K (elP x) with
      |none =>
       have HF:Hid (cY x K=false):=HFF.o (by unfold dA;rw[sT HR.o,hf]);unfold kT at hlk;rw[hf]at hlk;simp only[elP,mS,Option.isSome_none]at hlk;clear hf;go_wp2_with fail
       go_ret;exact⟨by rw[HF.o];rfl,(HBA _).out⟩
      |some y =>
       unfold kT at hlk;rw[hf]at hlk;simp only[elP,iH,Option.isSome_some]at hlk;obtain⟨bo,hbo⟩:∃bo,decide (fQ y=fQ x)=bo:=⟨_,rfl⟩
       have HEL:Hid (dA x K=(y.1.ins&&bo)):=by show _=_;unfold dA;rw[sT HR.o,hf,←hbo]
       have E3:=fun w=>eq_idD y.1.on y.1.oa x.1.on x.1.oa w
       rw[show decide ((y.1.on,y.1.oa)=(x.1.on,x.1.oa))=bo from hbo]at E3;clear hf hbo;cases hins:y.1.ins<;>rw[hins]at hlk HEL
       ·have HF:Hid (cY x K=false):=HFF.o (by rw[HEL.o];rfl);go_wp2_with fail
        go_ret;exact⟨by rw[HF.o];rfl,(HBA _).out⟩
       ·cases bo with
        |false =>
         have HF:Hid (cY x K=false):=HFF.o (by rw[HEL.o];rfl);go_wp2_with fail
         go_ret;exact⟨by rw[HF.o];rfl,(HBA _).out⟩
        |true =>
         go_wp2_with fail
         go_meet
         case rel=>exact⟨HEL.o,HQA _,HBA _⟩
    case rest =>
     clear HQ HB;obtain⟨HEO,HQ,HB⟩:=hcut
     have HMAY:Hid (cY x K=x.1.l.all (bJ x K)):=by show _=_;unfold cY;rw[HKD.o];simp only[HKO.o,HEO.o,vL]
     clear HKD HKO HEO HRB HRE;have c12:=cZ HQ.o 12 rfl;go_wp2_with fail
     clear c12;go_loopw [11,12,13,80] (fun _ _ _ s80 wr=>∃k:Nat,s80=.int .i64 k∧k≤nx∧Hid ((x.1.l.take k).all (bJ x K)=true)∧Hid (Blk wr w.heap.size 143 #[.int .i64 x.1.k,.int .i64 x.1.on,.int .i64 x.1.oa,.string x.1.key,.int .i64 x.1.en,.int .i64 x.1.ea,.bool x.1.ins,.int .i64 x.1.vk,.int .i64 x.1.vn,.string x.1.vt,.int .i64 x.1.va,.int .i64 x.1.vb,.slice x.1.A nx x.1.c,.int .i64 x.2.1,.int .i64 x.2.2])∧Hid (Below w.heap.size w wr)) (fun _ _ _ s80 _=>nx-(intOf s80).toNat)
     case atStart=>exact⟨0,rfl,by omega,by show _=_;simp,HQ,HB⟩
     case round =>
      clear HQ HB;obtain⟨k,rfl,hk,HI,HQ,HB⟩:=hrel
      by_cases hlt:k<nx
      ·obtain⟨p,hp⟩:∃p,x.1.l[k]?=some p:=⟨_,sC (by rw[HNX.o];exact hlt)⟩
       obtain⟨bp,op,hA,hbl,hcp⟩:=(aA HX.o HB.o).at_ (by rw[HNX.o];omega) (by omega)
       have p1:wr.cell? ⟨bp,op+k*2,none⟩=some (.int .i64 p.1):=hcp _ _ (aN hp).1;have p2:wr.cell? ⟨bp,op+k*2+1,none⟩=some (.int .i64 p.2):=hcp _ _ (aN hp).2;have HP:Hid ((x.1.l.take (k+1)).all (bJ x K)=((x.1.l.take k).all (bJ x K)&&bJ x K p)):=by
        show _=_;rw[sQ,hp];simp
       have HPA:Hid (bJ x K p=false→cY x K=false):=by
        intro h;rw[HMAY.o];cases hh:x.1.l.all (bJ x K) with
        |false=>rfl
        |true=>rw[tR.1 hh p (sJ hp)]at h;cases h
       have hrp:=HR3.o p (sJ hp);have HA:=Hi hA;rw[hA];clear hcp hp hA;go_upto_region 16 with fail
       have hbP:Below wr.heap.size wr (wr.alloc (.cells #[.int .i64 p.1,.int .i64 p.2] 48)):=(sA _ wr).alloc (sB _) _;have HPB:=Hi (Blk.new wr 48 #[.int .i64 p.1,.int .i64 p.2]);replace HQ:=Hi (HQ.o.keep (hbP.block _ HQ.o.lt));replace HB:Hid (Below w.heap.size w (wr.alloc (.cells #[.int .i64 p.1,.int .i64 p.2] 48))):=HB.o.trans (hbP.mono HB.o.size);clear hbP p1 p2;generalize wr.alloc (.cells #[.int .i64 p.1,.int .i64 p.2] 48)=w2 at HPB HQ HB ⊢;generalize wr.heap.size=bq at HPB ⊢;obtain⟨p1,p2⟩:=ce2 HPB.o
       have hlk:=fU.look (show fU w2 b K from aJ.keep HM.o (HB.o.block _ (aJ.lt HM.o))) hrp;have HBA:=fun o=>Hi (HB.o.alloc HB.o.size o)
       have HQA:=fun o=>Hi (HQ.o.keep (w':=w2.alloc o) (((sA _ w2).alloc (sB _) o).block _ HQ.o.lt))
       have hql:w.heap.size<w2.heap.size:=HQ.o.lt;cases hf:cX K p with
       |none =>
        have HF:Hid (cY x K=false):=HPA.o (by unfold bJ;rw[hf]);unfold kT at hlk;rw[hf]at hlk;simp only[mS,Option.isSome_none]at hlk;clear hf;go_upto_region 17 with fail
        replace HB:=HBA (.cells #[.int .i64 0,.int .i64 0,.int .i64 0,.string ⟨#[]⟩,.int .i64 0,.int .i64 0,.bool false,.int .i64 0,.int .i64 0,.string ⟨#[]⟩,.int .i64 0,.int .i64 0,.slice none 0 0,.int .i64 0,.int .i64 0] 143);generalize w2.alloc (.cells #[.int .i64 0,.int .i64 0,.int .i64 0,.string ⟨#[]⟩,.int .i64 0,.int .i64 0,.bool false,.int .i64 0,.int .i64 0,.string ⟨#[]⟩,.int .i64 0,.int .i64 0,.slice none 0 0,.int .i64 0,.int .i64 0] 143)=w3 at HB ⊢;clear HBA HQA p1 p2 hlk;go_quiet (fail)
        change Exit.then _ _ _ _ (w3.drewN nq);replace HB:Hid (Below w.heap.size w (w3.drewN nq)):=aH HB.o nq;generalize w3.drewN nq=w4 at HB ⊢;go_wp2_with fail
        go_ret;exact⟨by rw[HF.o];rfl,HB.o⟩
       |some y =>
        obtain⟨hy,hyp⟩:=rM hf
        subst hyp;have HPE:Hid (bJ x K y.2=(!decide (2<y.1.k)&&fY y x&&!((x.1.k == 4)&&((y.1.k != 1)||(y.1.vk != 4))))):=by
         show _=_;unfold bJ;rw[hf];have e1:decide (x.1.k=4)=(x.1.k == 4):=by by_cases h:x.1.k=4<;>simp[h]
         have e2:decide (y.1.k≠1)=(y.1.k != 1):=by by_cases h:y.1.k=1<;>simp[h]
         have e3:decide (y.1.vk≠4)=(y.1.vk != 4):=by by_cases h:y.1.vk=4<;>simp[h]
         simp only[e1,e2,e3]
        unfold kT at hlk;rw[hf]at hlk;simp only[iH,Option.isSome_some]at hlk;have hk1:=(HK.o y hy).1;clear hf;go_upto_region 17 with fail
        have HY:Hid (Blk (w2.alloc (.cells #[.int .i64 y.1.k,.int .i64 y.1.on,.int .i64 y.1.oa,.string y.1.key,.int .i64 y.1.en,.int .i64 y.1.ea,.bool y.1.ins,.int .i64 y.1.vk,.int .i64 y.1.vn,.string y.1.vt,.int .i64 y.1.va,.int .i64 y.1.vb,.slice y.1.A y.1.l.length y.1.c,.int .i64 y.2.1,.int .i64 y.2.2] 143)) w2.heap.size 143 #[.int .i64 y.1.k,.int .i64 y.1.on,.int .i64 y.1.oa,.string y.1.key,.int .i64 y.1.en,.int .i64 y.1.ea,.bool y.1.ins,.int .i64 y.1.vk,.int .i64 y.1.vn,.string y.1.vt,.int .i64 y.1.va,.int .i64 y.1.vb,.slice y.1.A y.1.l.length y.1.c,.int .i64 y.2.1,.int .i64 y.2.2]):=Blk.new w2 _ _;replace HB:=HBA (.cells #[.int .i64 y.1.k,.int .i64 y.1.on,.int .i64 y.1.oa,.string y.1.key,.int .i64 y.1.en,.int .i64 y.1.ea,.bool y.1.ins,.int .i64 y.1.vk,.int .i64 y.1.vn,.string y.1.vt,.int .i64 y.1.va,.int .i64 y.1.vb,.slice y.1.A y.1.l.length y.1.c,.int .i64 y.2.1,.int .i64 y.2.2] 143);replace HQ:=HQA (.cells #[.int .i64 y.1.k,.int .i64 y.1.on,.int .i64 y.1.oa,.string y.1.key,.int .i64 y.1.en,.int .i64 y.1.ea,.bool y.1.ins,.int .i64 y.1.vk,.int .i64 y.1.vn,.string y.1.vt,.int .i64 y.1.va,.int .i64 y.1.vb,.slice y.1.A y.1.l.length y.1.c,.int .i64 y.2.1,.int .i64 y.2.2] 143);clear HBA HQA p1 p2 hlk;generalize w2.alloc (.cells #[.int .i64 y.1.k,.int .i64 y.1.on,.int .i64 y.1.oa,.string y.1.key,.int .i64 y.1.en,.int .i64 y.1.ea,.bool y.1.ins,.int .i64 y.1.vk,.int .i64 y.1.vn,.string y.1.vt,.int .i64 y.1.va,.int .i64 y.1.vb,.slice y.1.A y.1.l.length y.1.c,.int .i64 y.2.1,.int .i64 y.2.2] 143)=w3 at HB HQ HY ⊢;generalize w2.heap.size=by_ at HY hql ⊢;obtain⟨ny,hny⟩:∃n,y.1.l.length=n:=⟨_,rfl⟩
        have HNY:=Hi hny;rw[hny]at HY;clear hny;obtain⟨d0,d1,d2,d3,d4,d5,d6,d7,d8,d9,d10,d11,d12,d13,d14⟩:=ce15 HY.o
        obtain⟨c0,c1,c2,c3,c4,c5,c6,c7,c8,c9,c10,c11,c12,c13,c14⟩:=ce15 HQ.o
        cases e1:(y.1.k != 1) with
        |true =>
         cases e2:(y.1.k != 2) with
         |true =>
          have HF:Hid (cY x K=false):=HPA.o (by rw[HPE.o,sH (by simp at e1 e2;omega)];rfl);go_quiet (fail)
          change Exit.then _ _ _ _ (w3.drewN nq);replace HB:Hid (Below w.heap.size w (w3.drewN nq)):=aH HB.o nq;clear d0 d1 d2 d3 d4 d5 d6 d7 d8 d9 d10 d11 d12 d13 d14;clear c0 c1 c2 c3 c4 c5 c6 c7 c8 c9 c10 c11 c12 c13 c14;generalize w3.drewN nq=w4 at HB ⊢;go_wp2_with fail
          go_ret;exact⟨by rw[HF.o];rfl,HB.o⟩
         |false =>
          rw[sI (show ¬2<y.1.k by simp at e2;omega),e1]at HPE
          as_aux_lemma =>
           have KS:∀V:World,Below w3.heap.size w3 V→V.cell? ⟨by_,0,none⟩=some (.int .i64 y.1.k)∧V.cell? ⟨by_,1,none⟩=some (.int .i64 y.1.on)∧V.cell? ⟨by_,2,none⟩=some (.int .i64 y.1.oa)∧V.cell? ⟨by_,3,none⟩=some (.string y.1.key)∧V.cell? ⟨by_,4,none⟩=some (.int .i64 y.1.en)∧V.cell? ⟨by_,5,none⟩=some (.int .i64 y.1.ea)∧V.cell? ⟨by_,6,none⟩=some (.bool y.1.ins)∧V.cell? ⟨by_,7,none⟩=some (.int .i64 y.1.vk)∧V.cell? ⟨by_,8,none⟩=some (.int .i64 y.1.vn)∧V.cell? ⟨by_,9,none⟩=some (.string y.1.vt)∧V.cell? ⟨by_,10,none⟩=some (.int .i64 y.1.va)∧V.cell? ⟨by_,11,none⟩=some (.int .i64 y.1.vb)∧V.cell? ⟨by_,12,none⟩=some (.slice y.1.A ny y.1.c)∧V.cell? ⟨by_,13,none⟩=some (.int .i64 y.2.1)∧V.cell? ⟨by_,14,none⟩=some (.int .i64 y.2.2)∧V.cell? ⟨w.heap.size,0,none⟩=some (.int .i64 x.1.k)∧V.cell? ⟨w.heap.size,1,none⟩=some (.int .i64 x.1.on)∧V.cell? ⟨w.heap.size,2,none⟩=some (.int .i64 x.1.oa)∧V.cell? ⟨w.heap.size,3,none⟩=some (.string x.1.key)∧V.cell? ⟨w.heap.size,4,none⟩=some (.int .i64 x.1.en)∧V.cell? ⟨w.heap.size,5,none⟩=some (.int .i64 x.1.ea)∧V.cell? ⟨w.heap.size,6,none⟩=some (.bool x.1.ins)∧V.cell? ⟨w.heap.size,7,none⟩=some (.int .i64 x.1.vk)∧V.cell? ⟨w.heap.size,8,none⟩=some (.int .i64 x.1.vn)∧V.cell? ⟨w.heap.size,9,none⟩=some (.string x.1.vt)∧V.cell? ⟨w.heap.size,10,none⟩=some (.int .i64 x.1.va)∧V.cell? ⟨w.heap.size,11,none⟩=some (.int .i64 x.1.vb)∧V.cell? ⟨w.heap.size,12,none⟩=some (.slice x.1.A nx x.1.c)∧V.cell? ⟨w.heap.size,13,none⟩=some (.int .i64 x.2.1)∧V.cell? ⟨w.heap.size,14,none⟩=some (.int .i64 x.2.2):=fun V hv=>by
            have e1:∀i,V.cell? ⟨by_,i,none⟩=w3.cell? ⟨by_,i,none⟩:=fun i=>sK (hv.block _ HY.o.lt)
            have e2:∀i,V.cell? ⟨w.heap.size,i,none⟩=w3.cell? ⟨w.heap.size,i,none⟩:=fun i=>sK (hv.block _ HQ.o.lt)
            simp only[e1,e2];exact⟨d0,d1,d2,d3,d4,d5,d6,d7,d8,d9,d10,d11,d12,d13,d14,c0,c1,c2,c3,c4,c5,c6,c7,c8,c9,c10,c11,c12,c13,c14⟩
           have EP:=fun w=>eq_places y x w
           have CX:=fun V=>lI x V
           have CY:=fun V=>lI y V
           obtain⟨pl,hpl⟩:∃pl,fY y x=pl:=⟨_,rfl⟩
           rw[hpl]at HPE EP;clear hpl;unfold mJ at EP CX CY;unfold iH at CX CY;rw[HNX.o]at CX;rw[HNY.o]at CY;generalize (eV x).1=ex1 at EP CX;generalize (eV x).2=ex2 at EP CX;generalize (eV y).1=ey1 at EP CY;generalize (eV y).2=ey2 at EP CY;obtain⟨SS,hSS⟩:∃SS:World→Prop,SS=fun V=>V.cell? ⟨by_,0,none⟩=some (.int .i64 y.1.k)∧V.cell? ⟨by_,1,none⟩=some (.int .i64 y.1.on)∧V.cell? ⟨by_,2,none⟩=some (.int .i64 y.1.oa)∧V.cell? ⟨by_,3,none⟩=some (.string y.1.key)∧V.cell? ⟨by_,4,none⟩=some (.int .i64 y.1.en)∧V.cell? ⟨by_,5,none⟩=some (.int .i64 y.1.ea)∧V.cell? ⟨by_,6,none⟩=some (.bool y.1.ins)∧V.cell? ⟨by_,7,none⟩=some (.int .i64 y.1.vk)∧V.cell? ⟨by_,8,none⟩=some (.int .i64 y.1.vn)∧V.cell? ⟨by_,9,none⟩=some (.string y.1.vt)∧V.cell? ⟨by_,10,none⟩=some (.int .i64 y.1.va)∧V.cell? ⟨by_,11,none⟩=some (.int .i64 y.1.vb)∧V.cell? ⟨by_,12,none⟩=some (.slice y.1.A ny y.1.c)∧V.cell? ⟨by_,13,none⟩=some (.int .i64 y.2.1)∧V.cell? ⟨by_,14,none⟩=some (.int .i64 y.2.2)∧V.cell? ⟨w.heap.size,0,none⟩=some (.int .i64 x.1.k)∧V.cell? ⟨w.heap.size,1,none⟩=some (.int .i64 x.1.on)∧V.cell? ⟨w.heap.size,2,none⟩=some (.int .i64 x.1.oa)∧V.cell? ⟨w.heap.size,3,none⟩=some (.string x.1.key)∧V.cell? ⟨w.heap.size,4,none⟩=some (.int .i64 x.1.en)∧V.cell? ⟨w.heap.size,5,none⟩=some (.int .i64 x.1.ea)∧V.cell? ⟨w.heap.size,6,none⟩=some (.bool x.1.ins)∧V.cell? ⟨w.heap.size,7,none⟩=some (.int .i64 x.1.vk)∧V.cell? ⟨w.heap.size,8,none⟩=some (.int .i64 x.1.vn)∧V.cell? ⟨w.heap.size,9,none⟩=some (.string x.1.vt)∧V.cell? ⟨w.heap.size,10,none⟩=some (.int .i64 x.1.va)∧V.cell? ⟨w.heap.size,11,none⟩=some (.int .i64 x.1.vb)∧V.cell? ⟨w.heap.size,12,none⟩=some (.slice x.1.A nx x.1.c)∧V.cell? ⟨w.heap.size,13,none⟩=some (.int .i64 x.2.1)∧V.cell? ⟨w.heap.size,14,none⟩=some (.int .i64 x.2.2):=⟨_,rfl⟩
           have HSI:∀V,(V.cell? ⟨by_,0,none⟩=some (.int .i64 y.1.k)∧V.cell? ⟨by_,1,none⟩=some (.int .i64 y.1.on)∧V.cell? ⟨by_,2,none⟩=some (.int .i64 y.1.oa)∧V.cell? ⟨by_,3,none⟩=some (.string y.1.key)∧V.cell? ⟨by_,4,none⟩=some (.int .i64 y.1.en)∧V.cell? ⟨by_,5,none⟩=some (.int .i64 y.1.ea)∧V.cell? ⟨by_,6,none⟩=some (.bool y.1.ins)∧V.cell? ⟨by_,7,none⟩=some (.int .i64 y.1.vk)∧V.cell? ⟨by_,8,none⟩=some (.int .i64 y.1.vn)∧V.cell? ⟨by_,9,none⟩=some (.string y.1.vt)∧V.cell? ⟨by_,10,none⟩=some (.int .i64 y.1.va)∧V.cell? ⟨by_,11,none⟩=some (.int .i64 y.1.vb)∧V.cell? ⟨by_,12,none⟩=some (.slice y.1.A ny y.1.c)∧V.cell? ⟨by_,13,none⟩=some (.int .i64 y.2.1)∧V.cell? ⟨by_,14,none⟩=some (.int .i64 y.2.2)∧V.cell? ⟨w.heap.size,0,none⟩=some (.int .i64 x.1.k)∧V.cell? ⟨w.heap.size,1,none⟩=some (.int .i64 x.1.on)∧V.cell? ⟨w.heap.size,2,none⟩=some (.int .i64 x.1.oa)∧V.cell? ⟨w.heap.size,3,none⟩=some (.string x.1.key)∧V.cell? ⟨w.heap.size,4,none⟩=some (.int .i64 x.1.en)∧V.cell? ⟨w.heap.size,5,none⟩=some (.int .i64 x.1.ea)∧V.cell? ⟨w.heap.size,6,none⟩=some (.bool x.1.ins)∧V.cell? ⟨w.heap.size,7,none⟩=some (.int .i64 x.1.vk)∧V.cell? ⟨w.heap.size,8,none⟩=some (.int .i64 x.1.vn)∧V.cell? ⟨w.heap.size,9,none⟩=some (.string x.1.vt)∧V.cell? ⟨w.heap.size,10,none⟩=some (.int .i64 x.1.va)∧V.cell? ⟨w.heap.size,11,none⟩=some (.int .i64 x.1.vb)∧V.cell? ⟨w.heap.size,12,none⟩=some (.slice x.1.A nx x.1.c)∧V.cell? ⟨w.heap.size,13,none⟩=some (.int .i64 x.2.1)∧V.cell? ⟨w.heap.size,14,none⟩=some (.int .i64 x.2.2))→SS V:=fun V h=>by rw[hSS];exact h
           have HSO:∀V,SS V→(V.cell? ⟨by_,0,none⟩=some (.int .i64 y.1.k)∧V.cell? ⟨by_,1,none⟩=some (.int .i64 y.1.on)∧V.cell? ⟨by_,2,none⟩=some (.int .i64 y.1.oa)∧V.cell? ⟨by_,3,none⟩=some (.string y.1.key)∧V.cell? ⟨by_,4,none⟩=some (.int .i64 y.1.en)∧V.cell? ⟨by_,5,none⟩=some (.int .i64 y.1.ea)∧V.cell? ⟨by_,6,none⟩=some (.bool y.1.ins)∧V.cell? ⟨by_,7,none⟩=some (.int .i64 y.1.vk)∧V.cell? ⟨by_,8,none⟩=some (.int .i64 y.1.vn)∧V.cell? ⟨by_,9,none⟩=some (.string y.1.vt)∧V.cell? ⟨by_,10,none⟩=some (.int .i64 y.1.va)∧V.cell? ⟨by_,11,none⟩=some (.int .i64 y.1.vb)∧V.cell? ⟨by_,12,none⟩=some (.slice y.1.A ny y.1.c)∧V.cell? ⟨by_,13,none⟩=some (.int .i64 y.2.1)∧V.cell? ⟨by_,14,none⟩=some (.int .i64 y.2.2)∧V.cell? ⟨w.heap.size,0,none⟩=some (.int .i64 x.1.k)∧V.cell? ⟨w.heap.size,1,none⟩=some (.int .i64 x.1.on)∧V.cell? ⟨w.heap.size,2,none⟩=some (.int .i64 x.1.oa)∧V.cell? ⟨w.heap.size,3,none⟩=some (.string x.1.key)∧V.cell? ⟨w.heap.size,4,none⟩=some (.int .i64 x.1.en)∧V.cell? ⟨w.heap.size,5,none⟩=some (.int .i64 x.1.ea)∧V.cell? ⟨w.heap.size,6,none⟩=some (.bool x.1.ins)∧V.cell? ⟨w.heap.size,7,none⟩=some (.int .i64 x.1.vk)∧V.cell? ⟨w.heap.size,8,none⟩=some (.int .i64 x.1.vn)∧V.cell? ⟨w.heap.size,9,none⟩=some (.string x.1.vt)∧V.cell? ⟨w.heap.size,10,none⟩=some (.int .i64 x.1.va)∧V.cell? ⟨w.heap.size,11,none⟩=some (.int .i64 x.1.vb)∧V.cell? ⟨w.heap.size,12,none⟩=some (.slice x.1.A nx x.1.c)∧V.cell? ⟨w.heap.size,13,none⟩=some (.int .i64 x.2.1)∧V.cell? ⟨w.heap.size,14,none⟩=some (.int .i64 x.2.2)):=fun V h=>by rw[hSS]at h;exact h
           have HSI:=Hi HSI;have HSO:=Hi HSO;clear hSS;refine wp_region_held_drew (S:=SS) (by kernel_rfl) (HSI.o _ (KS _ (sA _ w3).drew)) (fun hHeld=>?_);clear d0 d1 d2 d3 d4 d5 d6 d7 d8 d9 d10 d11 d12 d13 d14 c0 c1 c2 c3 c4 c5 c6 c7 c8 c9 c10 c11 c12 c13 c14;refine aK (i:=0) (v:=?_) rfl (by kernel_rfl) (by kernel_rfl) (by kernel_rfl) (fun _ _ _ h=>h) (Or.inl ⟨by rfl,?_⟩) hHeld ?_
           rotate_left
           ·(intro w _;go_simp;try with_reducible rfl)
           try simp only[Act.put,zA,zB,zC]
           refine aK (i:=1) (v:=?_) rfl (by kernel_rfl) (by kernel_rfl) (by kernel_rfl) (fun _ _ _ h=>h) (Or.inl ⟨by rfl,?_⟩) hHeld ?_
           rotate_left
           ·(intro w _;go_simp;try with_reducible rfl)
           try simp only[Act.put,zA,zB,zC]
           refine aK (i:=2) (v:=?_) rfl (by kernel_rfl) (by kernel_rfl) (by kernel_rfl) (fun _ _ _ h=>h) (Or.inl ⟨by rfl,?_⟩) hHeld ?_
           rotate_left
           ·(intro w _;go_simp;try with_reducible rfl)
           try simp only[Act.put,zA,zB,zC]
           refine aK (i:=3) (v:=?_) rfl (by kernel_rfl) (by kernel_rfl) (by kernel_rfl) (fun _ _ _ h=>h) (Or.inl ⟨by rfl,?_⟩) hHeld ?_
           rotate_left
           ·(intro w _;go_simp;try with_reducible rfl)
           try simp only[Act.put,zA,zB,zC]
           refine aK (i:=4) (v:=?_) rfl (by kernel_rfl) (by kernel_rfl) (by kernel_rfl) (fun _ _ _ h=>h) (Or.inl ⟨by rfl,?_⟩) hHeld ?_
           rotate_left
           ·(intro w _;go_simp;try with_reducible rfl)
           try simp only[Act.put,zA,zB,zC]
           refine aK (i:=5) (v:=?_) rfl (by kernel_rfl) (by kernel_rfl) (by kernel_rfl) (fun _ _ _ h=>h) (Or.inl ⟨by rfl,?_⟩) hHeld ?_
           rotate_left
           ·(intro w hSw;obtain⟨d0,-,-,-,-,-,-,-,-,-,-,-,-,-,-,-,-,-,-,-,-,-,-,-,-,-,-,-,-,-⟩:=HSO.o _ hSw;go_simp;try with_reducible rfl)
           try simp only[Act.put,zA,zB,zC]
           refine aK (i:=6) (v:=?_) rfl (by kernel_rfl) (by kernel_rfl) (by kernel_rfl) (fun _ _ _ h=>h) (Or.inl ⟨by rfl,?_⟩) hHeld ?_
           rotate_left
           ·(intro w _;go_simp;try with_reducible rfl)
           try simp only[Act.put,zA,zB,zC]
           refine aK (i:=7) (v:=?_) rfl (by kernel_rfl) (by kernel_rfl) (by kernel_rfl) (fun _ _ _ h=>h) (Or.inl ⟨by rfl,?_⟩) hHeld ?_
           rotate_left
           ·(intro w _;go_simp;try with_reducible rfl)
           try simp only[Act.put,zA,zB,zC]
           refine aK (i:=8) (v:=?_) rfl (by kernel_rfl) (by kernel_rfl) (by kernel_rfl) (fun _ _ _ h=>h) (Or.inl ⟨by rfl,?_⟩) hHeld ?_
           rotate_left
           ·(intro w _;go_simp;try with_reducible rfl)
           try simp only[Act.put,zA,zB,zC]
           refine aK (i:=9) (v:=?_) rfl (by kernel_rfl) (by kernel_rfl) (by kernel_rfl) (fun _ _ _ h=>h) (Or.inl ⟨by rfl,?_⟩) hHeld ?_
           rotate_left
           ·(intro w _;go_simp;try with_reducible rfl)
           try simp only[Act.put,zA,zB,zC]
           refine aK (i:=10) (v:=?_) rfl (by kernel_rfl) (by kernel_rfl) (by kernel_rfl) (fun _ _ _ h=>h) (Or.inl ⟨by rfl,?_⟩) hHeld ?_
           rotate_left
           ·(intro w hSw;obtain⟨d0,-,-,-,-,-,-,-,-,-,-,-,-,-,-,-,-,-,-,-,-,-,-,-,-,-,-,-,-,-⟩:=HSO.o _ hSw;go_simp;try with_reducible rfl)
           try simp only[Act.put,zA,zB,zC]
           refine aK (i:=11) (v:=?_) rfl (by kernel_rfl) (by kernel_rfl) (by kernel_rfl) (fun _ _ _ h=>h) (Or.inl ⟨by rfl,?_⟩) hHeld ?_
           rotate_left
           ·(intro w _;go_simp;try with_reducible rfl)
           try simp only[Act.put,zA,zB,zC]
           refine aK (i:=12) (v:=?_) rfl (by kernel_rfl) (by kernel_rfl) (by kernel_rfl) (fun _ _ _ h=>h) (Or.inl ⟨by rfl,?_⟩) hHeld ?_
           rotate_left
           ·(intro w _;go_simp;try with_reducible rfl)
           try simp only[Act.put,zA,zB,zC]
           refine aK (i:=13) (v:=?_) rfl (by kernel_rfl) (by kernel_rfl) (by kernel_rfl) (fun _ _ _ h=>h) (Or.inl ⟨by rfl,?_⟩) hHeld ?_
           rotate_left
           ·(intro w _;go_simp;try with_reducible rfl)
           try simp only[Act.put,zA,zB,zC]
           refine aK (i:=14) (v:=?_) rfl (by kernel_rfl) (by kernel_rfl) (by kernel_rfl) (fun _ _ _ h=>h) (Or.inl ⟨by rfl,?_⟩) hHeld ?_
           rotate_left
           ·(intro w _;go_simp;try with_reducible rfl)
           try simp only[Act.put,zA,zB,zC]
           refine aK (i:=15) (v:=?_) rfl (by kernel_rfl) (by kernel_rfl) (by kernel_rfl) (fun _ _ _ h=>h) (Or.inl ⟨by rfl,?_⟩) hHeld ?_
           rotate_left
           ·(intro w hSw;obtain⟨d0,d1,d2,d3,d4,d5,d6,d7,d8,d9,d10,d11,d12,d13,d14,-,-,-,-,-,-,-,-,-,-,-,-,-,-,-⟩:=HSO.o _ hSw;go_simp;try with_reducible rfl)
           try simp only[Act.put,zA,zB,zC]
           refine aK (i:=17) (v:=?_) rfl (by kernel_rfl) (by kernel_rfl) (by kernel_rfl) (fun _ _ _ h=>h) (Or.inl ⟨by rfl,?_⟩) hHeld ?_
           rotate_left
           ·(intro w hSw;obtain⟨-,-,-,-,-,-,-,-,-,-,-,-,-,-,-,c0,c1,c2,c3,c4,c5,c6,c7,c8,c9,c10,c11,c12,c13,c14⟩:=HSO.o _ hSw;go_simp;try with_reducible rfl)
           try simp only[Act.put,zA,zB,zC]
           refine wpAnyH_ready (rs:=[16]) (by kernel_rfl) (by simp) ?_;refine bK (i:=16) rfl (fun K hK=>?_) sZ;go_simp;refine Calls.mono (CY _) ?_;rintro e w7 ⟨rfl,hb7⟩;have hv7:Below w3.heap.size w3 w7:=(sA _ w3).drew.trans hb7;have hS7:=KS w7 hv7;refine hK.out _ _ (HSI.o _ hS7) (fun hHeld=>?_);clear hK K;try simp only[Act.put,zA,zB,zC]
           clear hS7;refine wpAnyH_ready (rs:=[18]) (by kernel_rfl) (by simp) ?_;refine bK (i:=18) rfl (fun K hK=>?_) sZ;go_simp;refine Calls.mono (CX _) ?_;rintro e w8 ⟨rfl,hb8⟩;have hv8:Below w3.heap.size w3 w8:=hv7.trans (hb8.mono hv7.size);have hS8:=KS w8 hv8;refine hK.out _ _ (HSI.o _ hS8) (fun hHeld=>?_);clear hK K;try simp only[Act.put,zA,zB,zC]
           clear hS8;refine aK (i:=19) (v:=?_) rfl (by kernel_rfl) (by kernel_rfl) (by kernel_rfl) (fun _ _ _ h=>h) (Or.inl ⟨by rfl,?_⟩) hHeld ?_
           rotate_left
           ·(intro w _;go_simp;try with_reducible rfl)
           try simp only[Act.put,zA,zB,zC]
           refine aK (i:=20) (v:=?_) rfl (by kernel_rfl) (by kernel_rfl) (by kernel_rfl) (fun _ _ _ h=>h) (Or.inl ⟨by rfl,?_⟩) hHeld ?_
           rotate_left
           ·(intro w _;go_simp;try with_reducible rfl)
           try simp only[Act.put,zA,zB,zC]
           refine wpAnyH_done (by kernel_rfl) ?_ _;clear hHeld HSI HSO hb7 hb8 hv7;have HB8:Hid (Below w.heap.size w w8):=HB.o.trans (hv8.mono HB.o.size);have HQ8:Hid (Blk w8 w.heap.size 143 #[.int .i64 x.1.k,.int .i64 x.1.on,.int .i64 x.1.oa,.string x.1.key,.int .i64 x.1.en,.int .i64 x.1.ea,.bool x.1.ins,.int .i64 x.1.vk,.int .i64 x.1.vn,.string x.1.vt,.int .i64 x.1.va,.int .i64 x.1.vb,.slice x.1.A nx x.1.c,.int .i64 x.2.1,.int .i64 x.2.2]):=HQ.o.keep (hv8.block _ HQ.o.lt);have c0:=cZ HQ8.o 0 rfl;have d0:=cZ (HY.o.keep (hv8.block _ HY.o.lt)) 0 rfl;have d7:=cZ (HY.o.keep (hv8.block _ HY.o.lt)) 7 rfl;rw[HA.o]at HQ8;clear hv8 KS CX CY EP HB HQ HY;cases pl with
           |false =>
            have HF:Hid (cY x K=false):=HPA.o (by rw[HPE.o];rfl);go_wp2_with fail
            go_ret;exact⟨by rw[HF.o];rfl,HB8.o⟩
           |true =>
            cases h4:(x.1.k == 4) with
            |false =>
             have HI2:Hid ((x.1.l.take (k+1)).all (bJ x K)=true):=by show _=_;rw[HP.o,HI.o,HPE.o,h4];rfl
             go_wp2_with fail
             go_roundw
             case rel=>exact⟨k+1,by go_num,by omega,HI2,HQ8,HB8⟩
             case measure=>simp[intOf];omega
            |true =>
             have HF:Hid (cY x K=false):=HPA.o (by rw[HPE.o,h4];rfl);go_wp2_with fail
             go_ret;exact⟨by rw[HF.o];rfl,HB8.o⟩
        |false =>
         rw[sI (show ¬2<y.1.k by simp at e1;omega),e1]at HPE
         as_aux_lemma =>
          have KS:∀V:World,Below w3.heap.size w3 V→V.cell? ⟨by_,0,none⟩=some (.int .i64 y.1.k)∧V.cell? ⟨by_,1,none⟩=some (.int .i64 y.1.on)∧V.cell? ⟨by_,2,none⟩=some (.int .i64 y.1.oa)∧V.cell? ⟨by_,3,none⟩=some (.string y.1.key)∧V.cell? ⟨by_,4,none⟩=some (.int .i64 y.1.en)∧V.cell? ⟨by_,5,none⟩=some (.int .i64 y.1.ea)∧V.cell? ⟨by_,6,none⟩=some (.bool y.1.ins)∧V.cell? ⟨by_,7,none⟩=some (.int .i64 y.1.vk)∧V.cell? ⟨by_,8,none⟩=some (.int .i64 y.1.vn)∧V.cell? ⟨by_,9,none⟩=some (.string y.1.vt)∧V.cell? ⟨by_,10,none⟩=some (.int .i64 y.1.va)∧V.cell? ⟨by_,11,none⟩=some (.int .i64 y.1.vb)∧V.cell? ⟨by_,12,none⟩=some (.slice y.1.A ny y.1.c)∧V.cell? ⟨by_,13,none⟩=some (.int .i64 y.2.1)∧V.cell? ⟨by_,14,none⟩=some (.int .i64 y.2.2)∧V.cell? ⟨w.heap.size,0,none⟩=some (.int .i64 x.1.k)∧V.cell? ⟨w.heap.size,1,none⟩=some (.int .i64 x.1.on)∧V.cell? ⟨w.heap.size,2,none⟩=some (.int .i64 x.1.oa)∧V.cell? ⟨w.heap.size,3,none⟩=some (.string x.1.key)∧V.cell? ⟨w.heap.size,4,none⟩=some (.int .i64 x.1.en)∧V.cell? ⟨w.heap.size,5,none⟩=some (.int .i64 x.1.ea)∧V.cell? ⟨w.heap.size,6,none⟩=some (.bool x.1.ins)∧V.cell? ⟨w.heap.size,7,none⟩=some (.int .i64 x.1.vk)∧V.cell? ⟨w.heap.size,8,none⟩=some (.int .i64 x.1.vn)∧V.cell? ⟨w.heap.size,9,none⟩=some (.string x.1.vt)∧V.cell? ⟨w.heap.size,10,none⟩=some (.int .i64 x.1.va)∧V.cell? ⟨w.heap.size,11,none⟩=some (.int .i64 x.1.vb)∧V.cell? ⟨w.heap.size,12,none⟩=some (.slice x.1.A nx x.1.c)∧V.cell? ⟨w.heap.size,13,none⟩=some (.int .i64 x.2.1)∧V.cell? ⟨w.heap.size,14,none⟩=some (.int .i64 x.2.2):=fun V hv=>by
           have e1:∀i,V.cell? ⟨by_,i,none⟩=w3.cell? ⟨by_,i,none⟩:=fun i=>sK (hv.block _ HY.o.lt)
           have e2:∀i,V.cell? ⟨w.heap.size,i,none⟩=w3.cell? ⟨w.heap.size,i,none⟩:=fun i=>sK (hv.block _ HQ.o.lt)
           simp only[e1,e2];exact⟨d0,d1,d2,d3,d4,d5,d6,d7,d8,d9,d10,d11,d12,d13,d14,c0,c1,c2,c3,c4,c5,c6,c7,c8,c9,c10,c11,c12,c13,c14⟩
          have EP:=fun w=>eq_places y x w
          have CX:=fun V=>lI x V
          have CY:=fun V=>lI y V
          obtain⟨pl,hpl⟩:∃pl,fY y x=pl:=⟨_,rfl⟩
          rw[hpl]at HPE EP;clear hpl;unfold mJ at EP CX CY;unfold iH at CX CY;rw[HNX.o]at CX;rw[HNY.o]at CY;generalize (eV x).1=ex1 at EP CX;generalize (eV x).2=ex2 at EP CX;generalize (eV y).1=ey1 at EP CY;generalize (eV y).2=ey2 at EP CY;obtain⟨SS,hSS⟩:∃SS:World→Prop,SS=fun V=>V.cell? ⟨by_,0,none⟩=some (.int .i64 y.1.k)∧V.cell? ⟨by_,1,none⟩=some (.int .i64 y.1.on)∧V.cell? ⟨by_,2,none⟩=some (.int .i64 y.1.oa)∧V.cell? ⟨by_,3,none⟩=some (.string y.1.key)∧V.cell? ⟨by_,4,none⟩=some (.int .i64 y.1.en)∧V.cell? ⟨by_,5,none⟩=some (.int .i64 y.1.ea)∧V.cell? ⟨by_,6,none⟩=some (.bool y.1.ins)∧V.cell? ⟨by_,7,none⟩=some (.int .i64 y.1.vk)∧V.cell? ⟨by_,8,none⟩=some (.int .i64 y.1.vn)∧V.cell? ⟨by_,9,none⟩=some (.string y.1.vt)∧V.cell? ⟨by_,10,none⟩=some (.int .i64 y.1.va)∧V.cell? ⟨by_,11,none⟩=some (.int .i64 y.1.vb)∧V.cell? ⟨by_,12,none⟩=some (.slice y.1.A ny y.1.c)∧V.cell? ⟨by_,13,none⟩=some (.int .i64 y.2.1)∧V.cell? ⟨by_,14,none⟩=some (.int .i64 y.2.2)∧V.cell? ⟨w.heap.size,0,none⟩=some (.int .i64 x.1.k)∧V.cell? ⟨w.heap.size,1,none⟩=some (.int .i64 x.1.on)∧V.cell? ⟨w.heap.size,2,none⟩=some (.int .i64 x.1.oa)∧V.cell? ⟨w.heap.size,3,none⟩=some (.string x.1.key)∧V.cell? ⟨w.heap.size,4,none⟩=some (.int .i64 x.1.en)∧V.cell? ⟨w.heap.size,5,none⟩=some (.int .i64 x.1.ea)∧V.cell? ⟨w.heap.size,6,none⟩=some (.bool x.1.ins)∧V.cell? ⟨w.heap.size,7,none⟩=some (.int .i64 x.1.vk)∧V.cell? ⟨w.heap.size,8,none⟩=some (.int .i64 x.1.vn)∧V.cell? ⟨w.heap.size,9,none⟩=some (.string x.1.vt)∧V.cell? ⟨w.heap.size,10,none⟩=some (.int .i64 x.1.va)∧V.cell? ⟨w.heap.size,11,none⟩=some (.int .i64 x.1.vb)∧V.cell? ⟨w.heap.size,12,none⟩=some (.slice x.1.A nx x.1.c)∧V.cell? ⟨w.heap.size,13,none⟩=some (.int .i64 x.2.1)∧V.cell? ⟨w.heap.size,14,none⟩=some (.int .i64 x.2.2):=⟨_,rfl⟩
          have HSI:∀V,(V.cell? ⟨by_,0,none⟩=some (.int .i64 y.1.k)∧V.cell? ⟨by_,1,none⟩=some (.int .i64 y.1.on)∧V.cell? ⟨by_,2,none⟩=some (.int .i64 y.1.oa)∧V.cell? ⟨by_,3,none⟩=some (.string y.1.key)∧V.cell? ⟨by_,4,none⟩=some (.int .i64 y.1.en)∧V.cell? ⟨by_,5,none⟩=some (.int .i64 y.1.ea)∧V.cell? ⟨by_,6,none⟩=some (.bool y.1.ins)∧V.cell? ⟨by_,7,none⟩=some (.int .i64 y.1.vk)∧V.cell? ⟨by_,8,none⟩=some (.int .i64 y.1.vn)∧V.cell? ⟨by_,9,none⟩=some (.string y.1.vt)∧V.cell? ⟨by_,10,none⟩=some (.int .i64 y.1.va)∧V.cell? ⟨by_,11,none⟩=some (.int .i64 y.1.vb)∧V.cell? ⟨by_,12,none⟩=some (.slice y.1.A ny y.1.c)∧V.cell? ⟨by_,13,none⟩=some (.int .i64 y.2.1)∧V.cell? ⟨by_,14,none⟩=some (.int .i64 y.2.2)∧V.cell? ⟨w.heap.size,0,none⟩=some (.int .i64 x.1.k)∧V.cell? ⟨w.heap.size,1,none⟩=some (.int .i64 x.1.on)∧V.cell? ⟨w.heap.size,2,none⟩=some (.int .i64 x.1.oa)∧V.cell? ⟨w.heap.size,3,none⟩=some (.string x.1.key)∧V.cell? ⟨w.heap.size,4,none⟩=some (.int .i64 x.1.en)∧V.cell? ⟨w.heap.size,5,none⟩=some (.int .i64 x.1.ea)∧V.cell? ⟨w.heap.size,6,none⟩=some (.bool x.1.ins)∧V.cell? ⟨w.heap.size,7,none⟩=some (.int .i64 x.1.vk)∧V.cell? ⟨w.heap.size,8,none⟩=some (.int .i64 x.1.vn)∧V.cell? ⟨w.heap.size,9,none⟩=some (.string x.1.vt)∧V.cell? ⟨w.heap.size,10,none⟩=some (.int .i64 x.1.va)∧V.cell? ⟨w.heap.size,11,none⟩=some (.int .i64 x.1.vb)∧V.cell? ⟨w.heap.size,12,none⟩=some (.slice x.1.A nx x.1.c)∧V.cell? ⟨w.heap.size,13,none⟩=some (.int .i64 x.2.1)∧V.cell? ⟨w.heap.size,14,none⟩=some (.int .i64 x.2.2))→SS V:=fun V h=>by rw[hSS];exact h
          have HSO:∀V,SS V→(V.cell? ⟨by_,0,none⟩=some (.int .i64 y.1.k)∧V.cell? ⟨by_,1,none⟩=some (.int .i64 y.1.on)∧V.cell? ⟨by_,2,none⟩=some (.int .i64 y.1.oa)∧V.cell? ⟨by_,3,none⟩=some (.string y.1.key)∧V.cell? ⟨by_,4,none⟩=some (.int .i64 y.1.en)∧V.cell? ⟨by_,5,none⟩=some (.int .i64 y.1.ea)∧V.cell? ⟨by_,6,none⟩=some (.bool y.1.ins)∧V.cell? ⟨by_,7,none⟩=some (.int .i64 y.1.vk)∧V.cell? ⟨by_,8,none⟩=some (.int .i64 y.1.vn)∧V.cell? ⟨by_,9,none⟩=some (.string y.1.vt)∧V.cell? ⟨by_,10,none⟩=some (.int .i64 y.1.va)∧V.cell? ⟨by_,11,none⟩=some (.int .i64 y.1.vb)∧V.cell? ⟨by_,12,none⟩=some (.slice y.1.A ny y.1.c)∧V.cell? ⟨by_,13,none⟩=some (.int .i64 y.2.1)∧V.cell? ⟨by_,14,none⟩=some (.int .i64 y.2.2)∧V.cell? ⟨w.heap.size,0,none⟩=some (.int .i64 x.1.k)∧V.cell? ⟨w.heap.size,1,none⟩=some (.int .i64 x.1.on)∧V.cell? ⟨w.heap.size,2,none⟩=some (.int .i64 x.1.oa)∧V.cell? ⟨w.heap.size,3,none⟩=some (.string x.1.key)∧V.cell? ⟨w.heap.size,4,none⟩=some (.int .i64 x.1.en)∧V.cell? ⟨w.heap.size,5,none⟩=some (.int .i64 x.1.ea)∧V.cell? ⟨w.heap.size,6,none⟩=some (.bool x.1.ins)∧V.cell? ⟨w.heap.size,7,none⟩=some (.int .i64 x.1.vk)∧V.cell? ⟨w.heap.size,8,none⟩=some (.int .i64 x.1.vn)∧V.cell? ⟨w.heap.size,9,none⟩=some (.string x.1.vt)∧V.cell? ⟨w.heap.size,10,none⟩=some (.int .i64 x.1.va)∧V.cell? ⟨w.heap.size,11,none⟩=some (.int .i64 x.1.vb)∧V.cell? ⟨w.heap.size,12,none⟩=some (.slice x.1.A nx x.1.c)∧V.cell? ⟨w.heap.size,13,none⟩=some (.int .i64 x.2.1)∧V.cell? ⟨w.heap.size,14,none⟩=some (.int .i64 x.2.2)):=fun V h=>by rw[hSS]at h;exact h
          have HSI:=Hi HSI;have HSO:=Hi HSO;clear hSS;refine wp_region_held_drew (S:=SS) (by kernel_rfl) (HSI.o _ (KS _ (sA _ w3).drew)) (fun hHeld=>?_);clear d0 d1 d2 d3 d4 d5 d6 d7 d8 d9 d10 d11 d12 d13 d14 c0 c1 c2 c3 c4 c5 c6 c7 c8 c9 c10 c11 c12 c13 c14;refine aK (i:=0) (v:=?_) rfl (by kernel_rfl) (by kernel_rfl) (by kernel_rfl) (fun _ _ _ h=>h) (Or.inl ⟨by rfl,?_⟩) hHeld ?_
          rotate_left
          ·(intro w _;go_simp;try with_reducible rfl)
          try simp only[Act.put,zA,zB,zC]
          refine aK (i:=1) (v:=?_) rfl (by kernel_rfl) (by kernel_rfl) (by kernel_rfl) (fun _ _ _ h=>h) (Or.inl ⟨by rfl,?_⟩) hHeld ?_
          rotate_left
          ·(intro w _;go_simp;try with_reducible rfl)
          try simp only[Act.put,zA,zB,zC]
          refine aK (i:=2) (v:=?_) rfl (by kernel_rfl) (by kernel_rfl) (by kernel_rfl) (fun _ _ _ h=>h) (Or.inl ⟨by rfl,?_⟩) hHeld ?_
          rotate_left
          ·(intro w _;go_simp;try with_reducible rfl)
          try simp only[Act.put,zA,zB,zC]
          refine aK (i:=3) (v:=?_) rfl (by kernel_rfl) (by kernel_rfl) (by kernel_rfl) (fun _ _ _ h=>h) (Or.inl ⟨by rfl,?_⟩) hHeld ?_
          rotate_left
          ·(intro w _;go_simp;try with_reducible rfl)
          try simp only[Act.put,zA,zB,zC]
          refine aK (i:=4) (v:=?_) rfl (by kernel_rfl) (by kernel_rfl) (by kernel_rfl) (fun _ _ _ h=>h) (Or.inl ⟨by rfl,?_⟩) hHeld ?_
          rotate_left
          ·(intro w _;go_simp;try with_reducible rfl)
          try simp only[Act.put,zA,zB,zC]
          refine aK (i:=5) (v:=?_) rfl (by kernel_rfl) (by kernel_rfl) (by kernel_rfl) (fun _ _ _ h=>h) (Or.inl ⟨by rfl,?_⟩) hHeld ?_
          rotate_left
          ·(intro w hSw;obtain⟨d0,-,-,-,-,-,-,-,-,-,-,-,-,-,-,-,-,-,-,-,-,-,-,-,-,-,-,-,-,-⟩:=HSO.o _ hSw;go_simp;try with_reducible rfl)
          try simp only[Act.put,zA,zB,zC]
          refine aK (i:=6) (v:=?_) rfl (by kernel_rfl) (by kernel_rfl) (by kernel_rfl) (fun _ _ _ h=>h) (Or.inl ⟨by rfl,?_⟩) hHeld ?_
          rotate_left
          ·(intro w _;go_simp;try with_reducible rfl)
          try simp only[Act.put,zA,zB,zC]
          refine aK (i:=7) (v:=?_) rfl (by kernel_rfl) (by kernel_rfl) (by kernel_rfl) (fun _ _ _ h=>h) (Or.inl ⟨by rfl,?_⟩) hHeld ?_
          rotate_left
          ·(intro w _;go_simp;try with_reducible rfl)
          try simp only[Act.put,zA,zB,zC]
          refine aK (i:=8) (v:=undef) rfl (by kernel_rfl) (by kernel_rfl) (by kernel_rfl) (fun _ _ _ h=>h) (Or.inr ⟨by rfl,rfl⟩) hHeld ?_;try simp only[Act.put,zA,zB,zC]
          refine aK (i:=9) (v:=undef) rfl (by kernel_rfl) (by kernel_rfl) (by kernel_rfl) (fun _ _ _ h=>h) (Or.inr ⟨by rfl,rfl⟩) hHeld ?_;try simp only[Act.put,zA,zB,zC]
          refine aK (i:=10) (v:=undef) rfl (by kernel_rfl) (by kernel_rfl) (by kernel_rfl) (fun _ _ _ h=>h) (Or.inr ⟨by rfl,rfl⟩) hHeld ?_;try simp only[Act.put,zA,zB,zC]
          refine aK (i:=11) (v:=undef) rfl (by kernel_rfl) (by kernel_rfl) (by kernel_rfl) (fun _ _ _ h=>h) (Or.inr ⟨by rfl,rfl⟩) hHeld ?_;try simp only[Act.put,zA,zB,zC]
          refine aK (i:=12) (v:=?_) rfl (by kernel_rfl) (by kernel_rfl) (by kernel_rfl) (fun _ _ _ h=>h) (Or.inl ⟨by rfl,?_⟩) hHeld ?_
          rotate_left
          ·(intro w _;go_simp;try with_reducible rfl)
          try simp only[Act.put,zA,zB,zC]
          refine aK (i:=13) (v:=?_) rfl (by kernel_rfl) (by kernel_rfl) (by kernel_rfl) (fun _ _ _ h=>h) (Or.inl ⟨by rfl,?_⟩) hHeld ?_
          rotate_left
          ·(intro w _;go_simp;try with_reducible rfl)
          try simp only[Act.put,zA,zB,zC]
          refine aK (i:=14) (v:=?_) rfl (by kernel_rfl) (by kernel_rfl) (by kernel_rfl) (fun _ _ _ h=>h) (Or.inl ⟨by rfl,?_⟩) hHeld ?_
          rotate_left
          ·(intro w _;go_simp;try with_reducible rfl)
          try simp only[Act.put,zA,zB,zC]
          refine aK (i:=15) (v:=?_) rfl (by kernel_rfl) (by kernel_rfl) (by kernel_rfl) (fun _ _ _ h=>h) (Or.inl ⟨by rfl,?_⟩) hHeld ?_
          rotate_left
          ·(intro w hSw;obtain⟨d0,d1,d2,d3,d4,d5,d6,d7,d8,d9,d10,d11,d12,d13,d14,-,-,-,-,-,-,-,-,-,-,-,-,-,-,-⟩:=HSO.o _ hSw;go_simp;try with_reducible rfl)
          try simp only[Act.put,zA,zB,zC]
          refine aK (i:=17) (v:=?_) rfl (by kernel_rfl) (by kernel_rfl) (by kernel_rfl) (fun _ _ _ h=>h) (Or.inl ⟨by rfl,?_⟩) hHeld ?_
          rotate_left
          ·(intro w hSw;obtain⟨-,-,-,-,-,-,-,-,-,-,-,-,-,-,-,c0,c1,c2,c3,c4,c5,c6,c7,c8,c9,c10,c11,c12,c13,c14⟩:=HSO.o _ hSw;go_simp;try with_reducible rfl)
          try simp only[Act.put,zA,zB,zC]
          refine wpAnyH_ready (rs:=[16]) (by kernel_rfl) (by simp) ?_;refine bK (i:=16) rfl (fun K hK=>?_) sZ;go_simp;refine Calls.mono (CY _) ?_;rintro e w7 ⟨rfl,hb7⟩;have hv7:Below w3.heap.size w3 w7:=(sA _ w3).drew.trans hb7;have hS7:=KS w7 hv7;refine hK.out _ _ (HSI.o _ hS7) (fun hHeld=>?_);clear hK K;try simp only[Act.put,zA,zB,zC]
          clear hS7;refine wpAnyH_ready (rs:=[18]) (by kernel_rfl) (by simp) ?_;refine bK (i:=18) rfl (fun K hK=>?_) sZ;go_simp;refine Calls.mono (CX _) ?_;rintro e w8 ⟨rfl,hb8⟩;have hv8:Below w3.heap.size w3 w8:=hv7.trans (hb8.mono hv7.size);have hS8:=KS w8 hv8;refine hK.out _ _ (HSI.o _ hS8) (fun hHeld=>?_);clear hK K;try simp only[Act.put,zA,zB,zC]
          clear hS8;refine aK (i:=19) (v:=?_) rfl (by kernel_rfl) (by kernel_rfl) (by kernel_rfl) (fun _ _ _ h=>h) (Or.inl ⟨by rfl,?_⟩) hHeld ?_
          rotate_left
          ·(intro w _;go_simp;try with_reducible rfl)
          try simp only[Act.put,zA,zB,zC]
          refine aK (i:=20) (v:=?_) rfl (by kernel_rfl) (by kernel_rfl) (by kernel_rfl) (fun _ _ _ h=>h) (Or.inl ⟨by rfl,?_⟩) hHeld ?_
          rotate_left
          ·(intro w _;go_simp;try with_reducible rfl)
          try simp only[Act.put,zA,zB,zC]
          refine wpAnyH_done (by kernel_rfl) ?_ _;clear hHeld HSI HSO hb7 hb8 hv7;have HB8:Hid (Below w.heap.size w w8):=HB.o.trans (hv8.mono HB.o.size);have HQ8:Hid (Blk w8 w.heap.size 143 #[.int .i64 x.1.k,.int .i64 x.1.on,.int .i64 x.1.oa,.string x.1.key,.int .i64 x.1.en,.int .i64 x.1.ea,.bool x.1.ins,.int .i64 x.1.vk,.int .i64 x.1.vn,.string x.1.vt,.int .i64 x.1.va,.int .i64 x.1.vb,.slice x.1.A nx x.1.c,.int .i64 x.2.1,.int .i64 x.2.2]):=HQ.o.keep (hv8.block _ HQ.o.lt);have c0:=cZ HQ8.o 0 rfl;have d0:=cZ (HY.o.keep (hv8.block _ HY.o.lt)) 0 rfl;have d7:=cZ (HY.o.keep (hv8.block _ HY.o.lt)) 7 rfl;rw[HA.o]at HQ8;clear hv8 KS CX CY EP HB HQ HY;cases pl with
          |false =>
           have HF:Hid (cY x K=false):=HPA.o (by rw[HPE.o];rfl);go_wp2_with fail
           go_ret;exact⟨by rw[HF.o];rfl,HB8.o⟩
          |true =>
           cases h4:(x.1.k == 4) with
           |false =>
            have HI2:Hid ((x.1.l.take (k+1)).all (bJ x K)=true):=by show _=_;rw[HP.o,HI.o,HPE.o,h4];rfl
            go_wp2_with fail
            go_roundw
            case rel=>exact⟨k+1,by go_num,by omega,HI2,HQ8,HB8⟩
            case measure=>simp[intOf];omega
           |true =>
            cases h7:(y.1.vk != 4) with
            |true =>
             have HF:Hid (cY x K=false):=HPA.o (by rw[HPE.o,h4,h7];rfl);go_wp2_with fail
             go_ret;exact⟨by rw[HF.o];rfl,HB8.o⟩
            |false =>
             have HI2:Hid ((x.1.l.take (k+1)).all (bJ x K)=true):=by show _=_;rw[HP.o,HI.o,HPE.o,h4,h7];rfl
             go_wp2_with fail
             go_roundw
             case rel=>exact⟨k+1,by go_num,by omega,HI2,HQ8,HB8⟩
             case measure=>simp[intOf];omega
      ·have HF:Hid (cY x K=true):=by have:=HI.o;rw[sL (by rw[HNX.o];omega)]at this;rw[HMAY.o,this];rfl
       go_wp2_with fail
       go_ret;exact⟨by rw[HF.o];rfl,HB.o⟩
end Go.Proofs.YtjhkcbideddlgaaGreat
