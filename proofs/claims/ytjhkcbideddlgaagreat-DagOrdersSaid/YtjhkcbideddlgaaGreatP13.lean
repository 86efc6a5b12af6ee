/- Contracts of the document's books: fits, ready. -/
import Derived.Test.YtjhkcbideddlgaaGreatP12
import Derived.Deep.CutBlock
import Derived.Deep.RegionHeld3
set_option maxHeartbeats 16000000
set_option maxRecDepth 20000
set_option linter.unusedVariables false
set_option linter.unusedSimpArgs false
namespace Go.Proofs.YtjhkcbideddlgaaGreat
open Go.ChangeShapes Go.WideShapes Go.ChangeAt Go.RowKit
def BR(w:World)(g:Nat)(L W:List ChD):Prop :=
 ∃A c A' c',Blk w g 88 #[.slice A L.length c,.slice A' W.length c']∧ChsIn (fun k=>k<w.heap.size) w A L∧ChsIn (fun k=>k<w.heap.size) w A' W
theorem BR.below{w w':World}{g:Nat}{L W:List ChD}(h:BR w g L W)(hb:Below w.heap.size w w'):BR w' g L W:=by
 obtain⟨A,c,A',c',h1,h2,h3⟩:=h
 exact⟨A,c,A',c',h1.keep (hb.block _ h1.lt),h2.below hb,h3.below hb⟩
theorem opsE_each:∀ {l:List OpD},eR l=0→∀o∈l,eP o=0
 | [],_,_,h=>by cases h
 |x::l,h,o,ho=>by
  by_cases hx:eP x=0
  ·rcases sO.1 ho with rfl|ho
   ·exact hx
   ·exact opsE_each (by simpa[eR,hx] using h) o ho
  ·simp only[eR,sT hx]at h;exact absurd h hx
theorem opE_ll{o:OpD}(h:eP o=0):o.l.length≤12:=by
 unfold eP opE at h;obtain⟨_,h⟩:=aR h (by omega)
 obtain⟨_,h⟩:=aR h (by omega)
 obtain⟨_,h⟩:=aR h (by omega)
 by_cases h4:eQ o.l≠0
 ·rw[tA h4]at h;exact absurd h h4
 ·have h5:eQ o.l=0:=by omega
  unfold eQ at h5;obtain⟨h6,_⟩:=aR h5 (by omega)
  omega
theorem nV{c:ChD}(h:c.err=0):∀o∈c.ops,eP o=0:=by
 unfold ChD.err dK at h;obtain⟨h1,h⟩:=aR h (by omega)
 obtain⟨h2,h⟩:=aR h (by omega)
 by_cases h3:cF 0 c.deps≠0
 ·rw[tA h3]at h;exact absurd h h3
 rw[sT h3]at h;obtain⟨h4,h⟩:=aR h (by omega)
 obtain⟨h5,h⟩:=aR h (by omega)
 exact opsE_each h
theorem err_ll{c:ChD}(h:c.err=0):∀o∈c.ops,o.l.length≤12:=fun o ho=>opE_ll (nV h o ho)
theorem seqOk_snoc{c:ChD}{out:List Rf}{k:Nat}{r:Rf}(h:out[k]?=some r):eN c (out.take (k+1))=(eN c (out.take k)&&!((r.1 == c.a)&&decide (c.s≤r.2))):=by
 unfold eN;rw[sQ,h,uH,List.all_append];have:decide (r.1=c.a)=(r.1 == c.a):=by by_cases h:r.1=c.a<;>simp[h]
 simp[this]
def jH(c:ChD)(out:List Rf):Bool:=out.any fun r=>decide (r.1=c.a)&&decide (r.2=c.s-1)
theorem prevB_snoc{c:ChD}{out:List Rf}{k:Nat}{r:Rf}(h:out[k]?=some r):jH c (out.take (k+1))=(jH c (out.take k)||((r.1 == c.a)&&(r.2 == c.s-1))):=by
 unfold jH;rw[sQ,h,uH,List.any_append];have e1:decide (r.1=c.a)=(r.1 == c.a):=by by_cases h:r.1=c.a<;>simp[h]
 have e2:decide (r.2=c.s-1)=(r.2 == c.s-1):=by by_cases h:r.2=c.s-1<;>simp[h]
 simp[e1,e2]
theorem seqOk_all{c:ChD}{out:List Rf}{k:Nat}{r:Rf}(h:out[k]?=some r)(hb:((r.1 == c.a)&&decide (c.s≤r.2))=true):eN c out=false:=by
 unfold eN;rw[←Bool.not_eq_true,tR];intro hh;have:=hh r (sJ h)
 have e1:decide (r.1=c.a)=(r.1 == c.a):=by by_cases h:r.1=c.a<;>simp[h]
 rw[e1,hb]at this;cases this
theorem hX{L:List ChD}{c:ChD}{B B':List Rf}(h:∀r,r∈B↔r∈B'):eO L c B=eO L c B':=by
 have h1:eN c B=eN c B':=by
  unfold eN;rw[Bool.eq_iff_iff,tR,tR];exact⟨fun hh r hr=>hh r ((h r).2 hr),fun hh r hr=>hh r ((h r).1 hr)⟩
 have h2:fX c B=fX c B':=by
  unfold fX;have:(B.any fun r=>decide (r.1=c.a)&&decide (r.2=c.s-1))=(B'.any fun r=>decide (r.1=c.a)&&decide (r.2=c.s-1)):=by
   rw[Bool.eq_iff_iff,wM,wM];exact⟨fun⟨r,hr,hh⟩=>⟨r,(h r).1 hr,hh⟩,fun⟨r,hr,hh⟩=>⟨r,(h r).2 hr,hh⟩⟩
  rw[this]
 have h3:bV L B=bV L B':=by
  unfold bV;congr 1;refine List.filter_congr fun c _=>?_
  simp only[h]
 unfold eO;rw[h1,h2,h3]
theorem fitOps_at{l K:List OpI}{k:Nat}{x:OpI}(h:l[k]?=some x):dD (l.drop k) (K++l.take k)=(cY x (K++l.take k)&&dD (l.drop (k+1)) (K++l.take (k+1))):=by
 obtain⟨hk,hx⟩:=sE.1 h
 rw[uE hk,hx,dD,sQ,h,uH,sX]
theorem sfits_any(L W:List ChD)(c:ChD)(g:Nat)(w:World)(hB:BR w g L W)(hc:ChIn (fun k=>k<w.heap.size) w c)(ht:TopR L.reverse)(hn:(aB L).Nodup)(hok:∀c∈L,ChOk c)(hl:L.length≤120)(he:c.err=0):
 Calls Tryz.prog 80 #[.pointer (some ⟨g,0,none⟩),c.v] w fun e w'=>e=.returned (.bool (bR L c))∧Below w.heap.size w w':=by
 have hco:=eE he;have hrf:=(eU (iX he).1).2;have hcs1:1≤c.s∧c.s≤1000000:=hrf;obtain⟨hst1,hst2,hop,hdp⟩:=hco
 have HLL:=Hi (err_ll he);have HB:=Hi hB;have HC:=Hi hc;have HOK:=Hi hok;have HW:Hid (Below w.heap.size w (w.alloc (.cells #[.int .i64 c.a,.int .i64 c.s,.int .i64 c.st,.slice c.DA c.deps.length c.DC,.slice c.OA c.ops.length c.OC] 33))):=(sA _ w).alloc (sB _) _;have HQ:=Hi (Blk.new w 33 #[.int .i64 c.a,.int .i64 c.s,.int .i64 c.st,.slice c.DA c.deps.length c.DC,.slice c.OA c.ops.length c.OC]);have C1:=fun(V:World) A cc h1 h2=>sBehind_any L c.deps A cc c.DA c.DC V h1 h2 ht hn (fun x hx=>(hok x hx).2.2.2) hl (by omega)
 clear hB hc hok he hrf ht hn;unfold ChD.v;go_enter Tryz.func80,Tryz.ntmps80;go_wp2_with fail
 generalize w.alloc (.cells #[.int .i64 c.a,.int .i64 c.s,.int .i64 c.st,.slice c.DA c.deps.length c.DC,.slice c.OA c.ops.length c.OC] 33)=V at *;obtain⟨A,cc,A',cc',hg,hL,hW⟩:=HB.o.below HW.o
 replace C1:=C1 V.drew A cc (hL.below (sA _ V).drew) (aA HC.o.hd HW.o.drew);have g0:=cZ hg 0 rfl;have c3:=cZ HQ.o 3 rfl;clear hg hL hW;go_wp2_with fail
 refine wp_region_still_tail 6 (by kernel_rfl) (by kernel_rfl) ?_;simp only[tE,tO,tG,tT];repeat (first|(refine aQ rfl (fun K hK=>?_);go_simp;refine hK _ ?_;clear hK K)|(refine wpStill_skip rfl ?_;go_frame))
 refine wpStill_nil ?_;change wpList _ _ _ _ _ V.drew;replace HW:Hid (Below w.heap.size w V.drew):=HW.o.drew;replace HQ:Hid (Blk V.drew w.heap.size 33 #[.int .i64 c.a,.int .i64 c.s,.int .i64 c.st,.slice c.DA c.deps.length c.DC,.slice c.OA c.ops.length c.OC]):=HQ.o;generalize V.drew=V1 at *;clear g0 c3;go_wp2_with fail
 go_at_call 110;refine C1.mono ?_;rintro e w2 ⟨v,out,rfl,ho,hasc,hmem,hol,hb⟩;obtain⟨Ao,co,rfl,-,-,hro⟩:=aC.of_own ho
 have HRO:=Hi (hro.more (fun k hk=>(aD ho hk).2));replace HQ:=Hi (HQ.o.keep (hb.block _ HQ.o.lt));replace HW:Hid (Below w.heap.size w w2):=HW.o.trans (hb.mono HW.o.size);clear hb;have HFI:=Hi (hX (L:=L) (c:=c) hmem);clear C1 ho hro hmem hasc;obtain⟨no,hno⟩:∃no,out.length=no:=⟨_,rfl⟩
 have HNO:=Hi hno;rw[hno]at hol HRO ⊢;clear hno;go_wp2_with fail
 go_loopw [6,7] (fun s6 s7 wr=>∃k:Nat,s7=.int .i64 k∧k≤no∧s6=.bool (jH c (out.take k))∧Hid (eN c (out.take k)=true)∧∃m,wr=w2.drewN m) (fun _ s7 _=>no-(intOf s7).toNat)
 case atStart=>exact⟨0,rfl,by omega,by simp[jH],by show _=_;simp[eN],0,rfl⟩
 case round =>
  obtain⟨k,rfl,hk,rfl,HI,m,rfl⟩:=hrel
  by_cases hlt:k<no
  ·obtain⟨r,hr⟩:∃r,out[k]?=some r:=⟨_,sC (by rw[HNO.o];exact hlt)⟩
   obtain⟨b1,o1,rfl,-,hc1⟩:=HRO.o.at_ (by omega) (by omega)
   have x1:w2.cell? ⟨b1,o1+k*2,none⟩=some (.int .i64 r.1):=hc1 _ _ (aN hr).1;have x2:w2.cell? ⟨b1,o1+k*2+1,none⟩=some (.int .i64 r.2):=hc1 _ _ (aN hr).2;obtain⟨c0,c1⟩:=ce2 HQ.o
   have HS:=Hi (seqOk_snoc (c:=c) hr);have HP:=Hi (prevB_snoc (c:=c) hr);have HSF:=Hi (seqOk_all (c:=c) hr);generalize jH c (out.take k)=pb at HP ⊢;have hws:IntKind.i64.wrap (c.s-1)=c.s-1:=tH _ (by omega);clear hc1 hr;cases ea:(r.1 == c.a) with
   |false =>
    have HS2:Hid (eN c (out.take (k+1))=true):=by show _=_;rw[HS.o,HI.o,ea];rfl
    have HP2:Hid (jH c (out.take (k+1))=pb):=by show _=_;rw[HP.o,ea];simp
    go_wp2_with fail
    go_quiet (fail)
    change Exit.then _ _ _ _ ((w2.drewN m).drewN nq);have HD:Hid ((w2.drewN m).drewN nq=w2.drewN (m+nq)):=by show _=_;rw[tV]
    generalize hm9:m+nq=m9 at HD;rw[HD.o];clear HD hm9;clear x1 x2 c0 c1 ea;go_wp2_with fail
    go_roundw
    case rel=>exact⟨k+1,by go_num,by omega,by rw[HP2.o],HS2,_,rfl⟩
    case measure=>simp[intOf];omega
   |true =>
    by_cases hsl:c.s≤r.2
    ·have HF:Hid (bR L c=false):=by
      show _=_;rw[bR,←HFI.o,eO,HSF.o (by rw[ea,sH hsl];rfl)];rfl
     go_wp2_with fail
     go_quiet (fail)
     change Exit.then _ _ _ _ ((w2.drewN m).drewN nq);have HD:Hid ((w2.drewN m).drewN nq=w2.drewN (m+nq)):=by show _=_;rw[tV]
     generalize hm9:m+nq=m9 at HD;rw[HD.o];clear HD hm9;go_wp2_with fail
     go_quiet (fail)
     change Exit.then _ _ _ _ ((w2.drewN m9).drewN nq);have HD:Hid ((w2.drewN m9).drewN nq=w2.drewN (m9+nq)):=by show _=_;rw[tV]
     generalize hm9:m9+nq=m9 at HD;rw[HD.o];clear HD hm9;go_wp2_with fail
     go_ret;exact⟨by rw[HF.o];rfl,aH HW.o _⟩
    ·have HS2:Hid (eN c (out.take (k+1))=true):=by show _=_;rw[HS.o,HI.o,ea,sI hsl];rfl
     cases eb:(r.2 == c.s-1) with
     |true =>
      have HP2:Hid (jH c (out.take (k+1))=true):=by show _=_;rw[HP.o,ea,eb];simp
      go_wp2_with fail
      go_quiet (fail)
      change Exit.then _ _ _ _ ((w2.drewN m).drewN nq);have HD:Hid ((w2.drewN m).drewN nq=w2.drewN (m+nq)):=by show _=_;rw[tV]
      generalize hm9:m+nq=m9 at HD;rw[HD.o];clear HD hm9;go_wp2_with fail
      go_quiet (fail)
      change Exit.then _ _ _ _ ((w2.drewN m9).drewN nq);have HD:Hid ((w2.drewN m9).drewN nq=w2.drewN (m9+nq)):=by show _=_;rw[tV]
      generalize hm9:m9+nq=m9 at HD;rw[HD.o];clear HD hm9;go_wp2_with fail
      go_quiet (fail)
      change Exit.then _ _ _ _ ((w2.drewN m9).drewN nq);have HD:Hid ((w2.drewN m9).drewN nq=w2.drewN (m9+nq)):=by show _=_;rw[tV]
      generalize hm9:m9+nq=m9 at HD;rw[HD.o];clear HD hm9;clear x1 x2 c0 c1 ea eb hsl;go_wp2_with fail
      go_roundw
      case rel=>exact⟨k+1,by go_num,by omega,by rw[HP2.o],HS2,_,rfl⟩
      case measure=>simp[intOf];omega
     |false =>
      have HP2:Hid (jH c (out.take (k+1))=pb):=by show _=_;rw[HP.o,ea,eb];simp
      go_wp2_with fail
      go_quiet (fail)
      change Exit.then _ _ _ _ ((w2.drewN m).drewN nq);have HD:Hid ((w2.drewN m).drewN nq=w2.drewN (m+nq)):=by show _=_;rw[tV]
      generalize hm9:m+nq=m9 at HD;rw[HD.o];clear HD hm9;go_wp2_with fail
      go_quiet (fail)
      change Exit.then _ _ _ _ ((w2.drewN m9).drewN nq);have HD:Hid ((w2.drewN m9).drewN nq=w2.drewN (m9+nq)):=by show _=_;rw[tV]
      generalize hm9:m9+nq=m9 at HD;rw[HD.o];clear HD hm9;go_wp2_with fail
      go_quiet (fail)
      change Exit.then _ _ _ _ ((w2.drewN m9).drewN nq);have HD:Hid ((w2.drewN m9).drewN nq=w2.drewN (m9+nq)):=by show _=_;rw[tV]
      generalize hm9:m9+nq=m9 at HD;rw[HD.o];clear HD hm9;clear x1 x2 c0 c1 ea eb hsl;go_wp2_with fail
      go_roundw
      case rel=>exact⟨k+1,by go_num,by omega,by rw[HP2.o],HS2,_,rfl⟩
      case measure=>simp[intOf];omega
  ·have hkn:k=no:=by omega
   have HS:Hid (eN c out=true):=by have:=HI.o;rwa [sL (by rw[HNO.o];omega)]at this
   have HPB:Hid (jH c (out.take k)=jH c out):=by show _=_;rw[sL (by rw[HNO.o];omega)]
   rw[HPB.o];clear HPB HI hkn;have HPO:Hid (fX c out=!(decide (1<c.s)&&!jH c out)):=rfl;generalize jH c out=pb at HPO ⊢;have c1:=cZ HQ.o 1 rfl;go_upto_region 11 with fail
   go_cut [57] (fun s57 wc=>s57=.bool (!fX c out)∧wc=w2.drewN m)
   case first =>
    by_cases h1:1<c.s
    ·rw[sH h1]at HPO;cases pb;all_goals
      go_wp2_with fail
      go_meet
      case rel=>exact⟨by rw[HPO.o];rfl,rfl⟩
    ·rw[sI h1]at HPO;go_wp2_with fail
     go_meet
     case rel=>exact⟨by rw[HPO.o];rfl,rfl⟩
   case rest =>
    obtain⟨rfl,rfl⟩:=hcut
    clear c1;cases hpo:fX c out with
    |false =>
     have HF:Hid (bR L c=false):=by
      show _=_;rw[bR,←HFI.o,eO,HS.o,hpo];rfl
     clear hpo HPO;go_wp2_with fail
     go_ret;exact⟨by rw[HF.o];rfl,aH HW.o _⟩
    |true =>
     have HPT:=Hi hpo;clear hpo HPO;have hb23:Below w2.heap.size w2 (w2.drewN m):=aH (sA _ w2) m;replace HW:Hid (Below w.heap.size w (w2.drewN m)):=aH HW.o m;replace HQ:Hid (Blk (w2.drewN m) w.heap.size 33 #[.int .i64 c.a,.int .i64 c.s,.int .i64 c.st,.slice c.DA c.deps.length c.DC,.slice c.OA c.ops.length c.OC]):=HQ.o;replace HRO:=Hi (aA HRO.o hb23);clear hb23;generalize w2.drewN m=w3 at HW HQ HRO ⊢;obtain⟨A2,cc2,A2',cc2',hg,hL,hW2⟩:=HB.o.below HW.o
     have g0:=cZ hg 0 rfl;have C2:=sOps_any L out A2 cc2 Ao co w3 hL (by rw[HNO.o];exact HRO.o) HOK.o hl (by rw[HNO.o];omega);rw[HNO.o]at C2;clear hg hL hW2;go_wp2_with fail
     go_at_call 60;refine C2.mono ?_;rintro e w4 ⟨v4,rfl,ho4,hb⟩;have hbase:w.heap.size≤w3.heap.size:=HW.o.size;have ho4':=bG ho4 (base':=w.heap.size) (fun g hg=>sY hbase (aD ho4 hg).1);replace HQ:=Hi (HQ.o.keep (hb.block _ HQ.o.lt));replace HW:Hid (Below w.heap.size w w4):=HW.o.trans (hb.mono HW.o.size);clear hb;have HKL:Hid ((bV L out).length≤4800):=by
      have:=rQ out (L:=L) (fun x hx=>(HOK.o x hx).2.2.1)
      show _≤_;omega
     have HFK:Hid (bR L c=((bV L out).all (fun x=>decide (x.2.1<c.st))&&dD c.opsI (bV L out))):=by
      show _=_;rw[bR,←HFI.o,eO,HS.o,HPT.o,vL,vL]
     clear C2 ho4 g0 hbase HFI HS HPT HRO HNO;generalize bV L out=K at ho4' HKL HFK;have HO:=Hi ho4';obtain⟨Ak,ck,rfl,hck,-,hrk⟩:=aC.of_own ho4'
     have HRK:=Hi (hrk.more (fun k hk=>(aD ho4' hk).2));obtain⟨nk,hnk⟩:∃nk,K.length=nk:=⟨_,rfl⟩
     have HNK:=Hi hnk;have hkl:nk≤4800:=by rw[←hnk];exact HKL.o
     rw[hnk]at HRK HO ⊢;clear hnk hrk ho4' hck HKL;go_wp2_with fail
     go_loopw [9] (fun s9 wr=>∃j:Nat,s9=.int .i64 j∧j≤nk∧Hid ((K.take j).all (fun x=>decide (x.2.1<c.st))=true)∧∃m,wr=w4.drewN m) (fun s9 _=>nk-(intOf s9).toNat)
     case atStart=>exact⟨0,rfl,by omega,by show _=_;simp,0,rfl⟩
     case round =>
      obtain⟨j,rfl,hj,HI,m,rfl⟩:=hrel
      by_cases hjl:j<nk
      ·obtain⟨y,hy⟩:∃y,K[j]?=some y:=⟨_,sC (by rw[HNK.o];exact hjl)⟩
       obtain⟨b,o,hA,-,key⟩:=gJ HRK.o HNK.o hy
       subst hA;have d13:w4.cell? ⟨b,o+j*15+13,none⟩=some (.int .i64 y.2.1):=key 13 _ (by omega) rfl;have c2:=cZ HQ.o 2 rfl;have HY:Hid ((K.take (j+1)).all (fun x=>decide (x.2.1<c.st))=((K.take j).all (fun x=>decide (x.2.1<c.st))&&decide (y.2.1<c.st))):=by
        show _=_;rw[sQ,hy];simp
       have HYL:=Hi (sJ hy);clear key hy;by_cases hge:c.st≤y.2.1
       ·have HF:Hid (bR L c=false):=by
         show _=_;rw[HFK.o];cases hh:K.all (fun x=>decide (x.2.1<c.st)) with
         |false=>rfl
         |true=>have:=tR.1 hh y HYL.o;simp at this;omega
        go_wp2_with fail
        go_quiet (fail)
        change Exit.then _ _ _ _ ((w4.drewN m).drewN nq);have HD:Hid ((w4.drewN m).drewN nq=w4.drewN (m+nq)):=by show _=_;rw[tV]
        generalize hm9:m+nq=m9 at HD;rw[HD.o];clear HD hm9;go_wp2_with fail
        go_ret;exact⟨by rw[HF.o];rfl,aH HW.o _⟩
       ·have HI2:Hid ((K.take (j+1)).all (fun x=>decide (x.2.1<c.st))=true):=by show _=_;rw[HY.o,HI.o,sH (by omega)];rfl
        go_wp2_with fail
        go_quiet (fail)
        change Exit.then _ _ _ _ ((w4.drewN m).drewN nq);have HD:Hid ((w4.drewN m).drewN nq=w4.drewN (m+nq)):=by show _=_;rw[tV]
        generalize hm9:m+nq=m9 at HD;rw[HD.o];clear HD hm9;go_wp2_with fail
        exact⟨⟨j+1,by go_num,by omega,HI2,_,rfl⟩,by simp[intOf];omega⟩
      ·have HFO:Hid (bR L c=dD c.opsI K):=by
        have:=HI.o
        rw[sL (by rw[HNK.o];omega)]at this;show _=_;rw[HFK.o,this];rfl
       have hb44:Below w4.heap.size w4 (w4.drewN m):=aH (sA _ w4) m;replace HW:Hid (Below w.heap.size w (w4.drewN m)):=aH HW.o m;replace HQ:Hid (Blk (w4.drewN m) w.heap.size 33 #[.int .i64 c.a,.int .i64 c.s,.int .i64 c.st,.slice c.DA c.deps.length c.DC,.slice c.OA c.ops.length c.OC]):=HQ.o;replace HO:=Hi (aO HO.o hb44);clear hb44 HI HFK HRK;generalize w4.drewN m=w5 at HW HQ HO ⊢;obtain⟨nops,hno⟩:∃n,c.ops.length=n:=⟨_,rfl⟩
       have HNO:=Hi hno;rw[hno]at hop;clear hno;go_wp2_with fail
       go_loopw [8,10,11,12] (fun s8 s10 _ _ wr=>∃i:Nat,s10=.int .i64 i∧i≤nops∧Hid (wr.ownsRow w.heap.size 115 15 s8 (nk+i) (bS (K++c.opsI.take i)))∧Hid (dD c.opsI K=dD (c.opsI.drop i) (K++c.opsI.take i)) ∧
        Hid (Blk wr w.heap.size 33 #[.int .i64 c.a,.int .i64 c.s,.int .i64 c.st,.slice c.DA c.deps.length c.DC,.slice c.OA c.ops.length c.OC])∧Hid (Below w.heap.size w wr)) (fun _ s10 _ _ _=>nops-(intOf s10).toNat)
       case atStart=>exact⟨0,rfl,by omega,by show w5.ownsRow _ _ _ _ _ _;simpa using HO.o,by show _=_;simp,HQ,HW⟩
       case round =>
        clear HO HQ HW;obtain⟨i,rfl,hi,HO,HFI,HQ,HW⟩:=hrel
        obtain⟨Ak,ck,rfl,hck,-,hrk⟩:=aC.of_own HO.o
        have HRK:=Hi (hrk.more (fun k hk=>(aD HO.o hk).2));have c4:=cZ HQ.o 4 rfl;rw[HNO.o]at c4;clear hrk;by_cases hil:i<nops
        ·obtain⟨ox,hox⟩:∃ox,c.ops[i]?=some ox:=⟨_,sC (by rw[HNO.o];exact hil)⟩
         obtain⟨b3,o3,hA3,hl3',hc3⟩:=(aA HC.o.ho HW.o).at_ (by rw[HNO.o];omega) (by omega)
         have key:∀i' v,i'<13→(opC ox)[i']?=some v→wr.cell? ⟨b3,o3+i*13+i',none⟩=some v:=fun i' v h1 h2=>by
          have h3:=bM hox i' h1;rw[h2]at h3;have:=hc3 _ _ h3
          rw[←tY]at this;exact this
         rw[hA3]at c4;have q0:wr.cell? ⟨b3,o3+i*13,none⟩=some (.int .i64 ox.k):=key 0 _ (by omega) rfl;have q1:wr.cell? ⟨b3,o3+i*13+1,none⟩=some (.int .i64 ox.on):=key 1 _ (by omega) rfl;have q2:wr.cell? ⟨b3,o3+i*13+2,none⟩=some (.int .i64 ox.oa):=key 2 _ (by omega) rfl;have q3:wr.cell? ⟨b3,o3+i*13+3,none⟩=some (.string ox.key):=key 3 _ (by omega) rfl;have q4:wr.cell? ⟨b3,o3+i*13+4,none⟩=some (.int .i64 ox.en):=key 4 _ (by omega) rfl;have q5:wr.cell? ⟨b3,o3+i*13+5,none⟩=some (.int .i64 ox.ea):=key 5 _ (by omega) rfl;have q6:wr.cell? ⟨b3,o3+i*13+6,none⟩=some (.bool ox.ins):=key 6 _ (by omega) rfl;have q7:wr.cell? ⟨b3,o3+i*13+7,none⟩=some (.int .i64 ox.vk):=key 7 _ (by omega) rfl;have q8:wr.cell? ⟨b3,o3+i*13+8,none⟩=some (.int .i64 ox.vn):=key 8 _ (by omega) rfl;have q9:wr.cell? ⟨b3,o3+i*13+9,none⟩=some (.string ox.vt):=key 9 _ (by omega) rfl;have q10:wr.cell? ⟨b3,o3+i*13+10,none⟩=some (.int .i64 ox.va):=key 10 _ (by omega) rfl;have q11:wr.cell? ⟨b3,o3+i*13+11,none⟩=some (.int .i64 ox.vb):=key 11 _ (by omega) rfl;have q12:wr.cell? ⟨b3,o3+i*13+12,none⟩=some (.slice ox.A ox.l.length ox.c):=key 12 _ (by omega) rfl;have c0:=cZ HQ.o 0 rfl;have c2:=cZ HQ.o 2 rfl;have hwst:IntKind.i64.wrap (c.st+(i:Int))=c.st+(i:Int):=tH _ (by omega);have hoi:c.opsI[i]?=some (ox,(c.st+(i:Int),c.a)):=gL _ _ _ _ _ hox;have HFA:=Hi (fitOps_at (K:=K) hoi);have HTK:Hid (c.opsI.take (i+1)=c.opsI.take i++[(ox,(c.st+(i:Int),c.a))]):=by show _=_;rw[sQ,hoi];rfl
         have HPR:=Hi (HC.o.hp ox (sJ hox));have HOX:=Hi (sJ hox);have HKL:Hid ((K++c.opsI.take i).length=nk+i):=by show _=_;rw[sF,HNK.o,tD,fG,HNO.o];omega
         generalize hke:K++c.opsI.take i=K' at HO HFI HFA HRK HKL;have HKE:=Hi hke;clear hke;clear key hc3 hox hA3 hoi;go_wp2_with fail
         have hlA:∀(o:Obj) (p:Addr),p.block<wr.heap.size→(wr.alloc o).cell? p=wr.cell? p:=fun o p h=>tP _ _ p h
         have hl1:w.heap.size<wr.heap.size:=HQ.o.lt;have hl3:b3<wr.heap.size:=by assumption
         have KS:∀o,(wr.alloc o).cell? ⟨w.heap.size,0,none⟩=some (.int .i64 c.a)∧(wr.alloc o).cell? ⟨w.heap.size,2,none⟩=some (.int .i64 c.st)∧(wr.alloc o).cell? ⟨w.heap.size,4,none⟩=some (.slice (some ⟨b3,o3,none⟩) nops c.OC)∧(wr.alloc o).cell? ⟨b3,o3+i*13,none⟩=some (.int .i64 ox.k)∧(wr.alloc o).cell? ⟨b3,o3+i*13+1,none⟩=some (.int .i64 ox.on)∧(wr.alloc o).cell? ⟨b3,o3+i*13+2,none⟩=some (.int .i64 ox.oa)∧(wr.alloc o).cell? ⟨b3,o3+i*13+3,none⟩=some (.string ox.key)∧(wr.alloc o).cell? ⟨b3,o3+i*13+4,none⟩=some (.int .i64 ox.en)∧(wr.alloc o).cell? ⟨b3,o3+i*13+5,none⟩=some (.int .i64 ox.ea)∧(wr.alloc o).cell? ⟨b3,o3+i*13+6,none⟩=some (.bool ox.ins)∧(wr.alloc o).cell? ⟨b3,o3+i*13+7,none⟩=some (.int .i64 ox.vk)∧(wr.alloc o).cell? ⟨b3,o3+i*13+8,none⟩=some (.int .i64 ox.vn)∧(wr.alloc o).cell? ⟨b3,o3+i*13+9,none⟩=some (.string ox.vt)∧(wr.alloc o).cell? ⟨b3,o3+i*13+10,none⟩=some (.int .i64 ox.va)∧(wr.alloc o).cell? ⟨b3,o3+i*13+11,none⟩=some (.int .i64 ox.vb)∧(wr.alloc o).cell? ⟨b3,o3+i*13+12,none⟩=some (.slice ox.A ox.l.length ox.c):=fun o=>by
          refine⟨?_,?_,?_,?_,?_,?_,?_,?_,?_,?_,?_,?_,?_,?_,?_,?_⟩<;>(rw[hlA _ _ (by assumption)];assumption)
         clear hlA;go_region_held3 (fun w'=>w'.cell? ⟨w.heap.size,0,none⟩=some (.int .i64 c.a)∧w'.cell? ⟨w.heap.size,2,none⟩=some (.int .i64 c.st)∧w'.cell? ⟨w.heap.size,4,none⟩=some (.slice (some ⟨b3,o3,none⟩) nops c.OC)∧w'.cell? ⟨b3,o3+i*13,none⟩=some (.int .i64 ox.k)∧w'.cell? ⟨b3,o3+i*13+1,none⟩=some (.int .i64 ox.on)∧w'.cell? ⟨b3,o3+i*13+2,none⟩=some (.int .i64 ox.oa)∧w'.cell? ⟨b3,o3+i*13+3,none⟩=some (.string ox.key)∧w'.cell? ⟨b3,o3+i*13+4,none⟩=some (.int .i64 ox.en)∧w'.cell? ⟨b3,o3+i*13+5,none⟩=some (.int .i64 ox.ea)∧w'.cell? ⟨b3,o3+i*13+6,none⟩=some (.bool ox.ins)∧w'.cell? ⟨b3,o3+i*13+7,none⟩=some (.int .i64 ox.vk)∧w'.cell? ⟨b3,o3+i*13+8,none⟩=some (.int .i64 ox.vn)∧w'.cell? ⟨b3,o3+i*13+9,none⟩=some (.string ox.vt)∧w'.cell? ⟨b3,o3+i*13+10,none⟩=some (.int .i64 ox.va)∧w'.cell? ⟨b3,o3+i*13+11,none⟩=some (.int .i64 ox.vb)∧w'.cell? ⟨b3,o3+i*13+12,none⟩=some (.slice ox.A ox.l.length ox.c)) (first|exact⟨c0,c2,c4,q0,q1,q2,q3,q4,q5,q6,q7,q8,q9,q10,q11,q12⟩|exact KS _|go_keep) (fail)
         have hbA:Below wr.heap.size wr ((wr.alloc (.cells #[.int .i64 ox.k,.int .i64 ox.on,.int .i64 ox.oa,.string ox.key,.int .i64 ox.en,.int .i64 ox.ea,.bool ox.ins,.int .i64 ox.vk,.int .i64 ox.vn,.string ox.vt,.int .i64 ox.va,.int .i64 ox.vb,.slice ox.A ox.l.length ox.c,.int .i64 (c.st+(i:Int)),.int .i64 c.a] 115)).drew):=((sA _ wr).alloc (sB _) _).drew;have HOB:Hid (Blk ((wr.alloc (.cells #[.int .i64 ox.k,.int .i64 ox.on,.int .i64 ox.oa,.string ox.key,.int .i64 ox.en,.int .i64 ox.ea,.bool ox.ins,.int .i64 ox.vk,.int .i64 ox.vn,.string ox.vt,.int .i64 ox.va,.int .i64 ox.vb,.slice ox.A ox.l.length ox.c,.int .i64 (c.st+(i:Int)),.int .i64 c.a] 115)).drew) wr.heap.size 115 #[.int .i64 ox.k,.int .i64 ox.on,.int .i64 ox.oa,.string ox.key,.int .i64 ox.en,.int .i64 ox.ea,.bool ox.ins,.int .i64 ox.vk,.int .i64 ox.vn,.string ox.vt,.int .i64 ox.va,.int .i64 ox.vb,.slice ox.A ox.l.length ox.c,.int .i64 (c.st+(i:Int)),.int .i64 c.a]):=Blk.new wr _ _;clear q0 q1 q2 q3 q4 q5 q6 q7 q8 q9 q10 q11 q12;clear KS c0 c2 c4;generalize (wr.alloc (.cells #[.int .i64 ox.k,.int .i64 ox.on,.int .i64 ox.oa,.string ox.key,.int .i64 ox.en,.int .i64 ox.ea,.bool ox.ins,.int .i64 ox.vk,.int .i64 ox.vn,.string ox.vt,.int .i64 ox.va,.int .i64 ox.vb,.slice ox.A ox.l.length ox.c,.int .i64 (c.st+(i:Int)),.int .i64 c.a] 115)).drew=wd at hbA HOB ⊢;replace HQ:=Hi (HQ.o.keep (hbA.block _ HQ.o.lt));replace HW:Hid (Below w.heap.size w wd):=HW.o.trans (hbA.mono HW.o.size);replace HO:=Hi (aO HO.o hbA);replace HRK:=Hi (aA HRK.o hbA);clear hbA;have C3:=smay_any (ox,(c.st+(i:Int),c.a)) K' Ak ck wd (by rw[HKL.o];exact HRK.o) (aA HPR.o.1 HW.o) (by rw[HKL.o];omega) (by have:=HLL.o ox HOX.o;show ox.l.length≤_;omega);unfold iH at C3;rw[HKL.o]at C3;generalize hB0:wr.heap.size=B0 at HOB ⊢;obtain⟨z0,z1,z2,z3,z4,z5,z6,z7,z8,z9,z10,z11,z12,z13,z14⟩:=ce15 HOB.o
         clear hB0;go_wp2_with fail
         go_at_call 111;refine C3.mono ?_;rintro e w7 ⟨rfl,hb⟩;clear z0 z1 z2 z3 z4 z5 z6 z7 z8 z9 z10 z11 z12 z13 z14;replace HOB:=Hi (HOB.o.keep (hb.block _ HOB.o.lt));replace HO:=Hi (aO HO.o hb);replace HQ:=Hi (HQ.o.keep (hb.block _ HQ.o.lt));replace HW:Hid (Below w.heap.size w w7):=HW.o.trans (hb.mono HW.o.size);clear hb;clear C3 HRK;cases hmy:cY (ox,(c.st+(i:Int),c.a)) K' with
         |false =>
          have HF:Hid (bR L c=false):=by
           show _=_;rw[HFO.o,HFI.o,HFA.o,hmy];rfl
          clear hmy;go_wp2_with fail
          go_ret;exact⟨by rw[HF.o];rfl,HW.o⟩
         |true =>
          have HFI2:=HFA.o;rw[hmy,vL]at HFI2;have HFI3:Hid (dD c.opsI K=dD (c.opsI.drop (i+1)) (K++c.opsI.take (i+1))):=HFI.o.trans HFI2;clear hmy HFI2;obtain⟨z0,z1,z2,z3,z4,z5,z6,z7,z8,z9,z10,z11,z12,z13,z14⟩:=ce15 HOB.o
          go_wp2_with (at_builtin;refine aX 56 115 (mS) 15 152 Tryz.underlying56 infoO rfl (by omega) rfl (.tmp 104) (.tmp 106) rfl (w.heap.size) (.slice Ak (nk+i) ck) (nk+i) (bS K') rfl (HO.o.alloc _) (w7.heap.size) 1 (qC (ox,(c.st+(i:Int),c.a))) rfl ?c1 ?c2 ?c3 ?c4 ?c5 ?c6 ?_)
          try case c1=>rfl
          try case c2=>intro j u hj;exact dN _ _ _ hj
          try case c3=>first|exact jK [(ox,(c.st+(i:Int),c.a))]|exact⟨rfl,rfl⟩|rfl
          try case c4=>omega
          try case c5=>omega
          try case c6=>first|(have:=HW.o.size;simp;omega)|(simp;done)
          intro v1 w1 hown1 hg1 hat1;have hb1:Below (w.heap.size) w w1:=(HW.o.alloc HW.o.size _).grown hg1 (by have:=HW.o.size;first|(simp;omega)|(simp;done)) (fun g hg=>(aD (HO.o) hg).1);have HO1:Hid (w1.ownsRow w.heap.size 115 15 v1 (nk+(i+1)) (bS (K++c.opsI.take (i+1)))):=by
           show w1.ownsRow _ _ _ _ _ _;rw[HTK.o,←sX,HKE.o,fZ,←tY];simpa[bS] using hown1
          have HQ1:=Hi (HQ.o.keep ((sM w7 (.cells (qC (ox,(c.st+(i:Int),c.a))).toArray 115) _ HQ.o.lt)));have HQ2:Hid (Blk w1 w.heap.size 33 #[.int .i64 c.a,.int .i64 c.s,.int .i64 c.st,.slice c.DA c.deps.length c.DC,.slice c.OA c.ops.length c.OC]):=HQ1.o.grown hg1 (dI (HO.o.alloc _) HQ1.o (by decide));have HW2:=Hi hb1;clear hown1 hat1 hg1 hb1 HO HQ HW HQ1 HOB;clear z0 z1 z2 z3 z4 z5 z6 z7 z8 z9 z10 z11 z12 z13 z14;go_wp2_with fail
          go_roundw
          case rel=>exact⟨i+1,by go_num,by omega,HO1,HFI3,HQ2,HW2⟩
          case measure=>simp[intOf];omega
        ·have HF:Hid (bR L c=true):=by
          have:=HFI.o
          show _=_;rw[HFO.o,this,uR (by rw[fG,HNO.o];omega)];rfl
         go_wp2_with fail
         go_ret;exact⟨by rw[HF.o];rfl,HW.o⟩
end Go.Proofs.YtjhkcbideddlgaaGreat
