/- Contracts: booksame.Refs, booksame.Changes. -/
import Derived.Test.YtjhkcbideddlgaaGreatP11
import Derived.Test.YtjhkcbideddlgaaGreatP14
import Derived.Test.YtjhkcbideddlgaaGreatP17
set_option maxHeartbeats 4000000
set_option maxRecDepth 20000
set_option linter.unusedVariables false
set_option linter.unusedSimpArgs false
namespace Go.Proofs.YtjhkcbideddlgaaGreat
open Go.ChangeShapes Go.WideShapes Go.ChangeAt Go.RowKit
section
theorem chs_base_at{La Lb:List ChD}(he:La.map ChD.base=Lb.map ChD.base){k:Nat}{x:ChD}(hx:La[k]?=some x):∃y,Lb[k]?=some y∧x.base=y.base:=by
 have h1:(La.map ChD.base)[k]?=some x.base:=by rw[uQ,hx];rfl
 rw[he,uQ]at h1;cases hy:Lb[k]? with
 |none=>rw[hy]at h1;cases h1
 |some y=>rw[hy]at h1;exact⟨y,rfl,(tK h1).symm⟩
theorem base_parts{x y:ChD}(h:x.base=y.base):x.a=y.a∧x.s=y.s∧x.st=y.st∧x.enc=y.enc∧x.err=y.err:=by
 have e1:x.base.a=y.base.a:=by rw[h]
 have e2:x.base.s=y.base.s:=by rw[h]
 have e3:x.base.st=y.base.st:=by rw[h]
 exact⟨e1,e2,e3,by rw[←nY x,←nY y,h],by rw[←iJ x,←iJ y,h]⟩
theorem same_ch(x y:ChD)(w:World)(hx:ChIn (fun k=>k<w.heap.size) w x)(hy:ChIn (fun k=>k<w.heap.size) w y)(gx:EncG x.a x.s x.st x.deps x.ops)(gy:EncG y.a y.s y.st y.deps y.ops)(h:x.base=y.base):
 Calls Tryz.prog 50 #[x.v,y.v] w fun e w'=>e=.returned (.bool true)∧Below w.heap.size w w':=by
 obtain⟨e1,e2,e3,e4,_⟩:=base_parts h
 unfold ChD.v;unfold ChD.enc at e4;rw[←e1,←e2,←e3]at gy e4 ⊢;exact same_change x.a x.s x.st x.deps x.DA x.deps.length x.DC x.ops x.OA x.ops.length x.OC y.deps y.DA y.deps.length y.DC y.ops y.OA y.ops.length y.OC w (hx.chm fun _ h=>h) (hy.chm fun _ h=>h) rfl rfl rfl rfl gx gy e4
theorem sameChs_any(La Lb:List ChD)(A B:Option Addr)(ca cb:Nat)(w:World)(ha:ChsIn (fun k=>k<w.heap.size) w A La)(hb:ChsIn (fun k=>k<w.heap.size) w B Lb)(he:La.map ChD.base=Lb.map ChD.base)
 (ga:∀c∈La,EncG c.a c.s c.st c.deps c.ops) (gb:∀c∈Lb,EncG c.a c.s c.st c.deps c.ops) (hl:La.length≤1000000) :
 Calls Tryz.prog 11 #[.slice A La.length ca,.slice B Lb.length cb] w fun e w'=>e=.returned (.bool true)∧Below w.heap.size w w':=by
 have hlen:Lb.length=La.length:=by have:=congrArg List.length he;simpa using this.symm
 obtain⟨n,hn⟩:∃n,La.length=n:=⟨_,rfl⟩
 have HN:=Hi hn;have HN':Hid (Lb.length=n):=hlen.trans hn;have HA:=Hi ha;have HB:=Hi hb;have HE:=Hi he;have HGA:=Hi ga;have HGB:=Hi gb;rw[hlen,hn];rw[hn]at hl;clear ha hb he ga gb hlen hn;go_enter Tryz.func11,Tryz.ntmps11;go_wp2_with fail
 go_loopw [5,6] (fun s5 _ wr=>∃k:Nat,s5=.int .i64 k∧k≤n∧Hid (Below w.heap.size w wr)) (fun s5 _ _=>n-(intOf s5).toNat)
 case atStart=>exact⟨0,rfl,by omega,sA _ w⟩
 case round =>
  obtain⟨k,rfl,hk,HW⟩:=hrel
  by_cases hlt:k<n
  ·obtain⟨x,hx⟩:∃x,La[k]?=some x:=⟨_,sC (by rw[HN.o];exact hlt)⟩
   obtain⟨y,hy,hxy⟩:=chs_base_at HE.o hx
   obtain⟨b1,o1,hA1,hl1,hc1⟩:=(aA HA.o.row HW.o).at_ (by rw[HN.o];omega) (by omega)
   obtain⟨b2,o2,hA2,hl2,hc2⟩:=(aA HB.o.row HW.o).at_ (by rw[HN'.o];omega) (by omega)
   subst hA1 hA2;have x10:wr.cell? ⟨b1,o1+k*5,none⟩=some (.int .i64 x.a):=hc1 _ _ (aI hx 0 (by omega));have x11:wr.cell? ⟨b1,o1+k*5+1,none⟩=some (.int .i64 x.s):=hc1 _ _ (aI hx 1 (by omega));have x12:wr.cell? ⟨b1,o1+k*5+2,none⟩=some (.int .i64 x.st):=hc1 _ _ (aI hx 2 (by omega));have x13:wr.cell? ⟨b1,o1+k*5+3,none⟩=some (.slice x.DA x.deps.length x.DC):=hc1 _ _ (aI hx 3 (by omega));have x14:wr.cell? ⟨b1,o1+k*5+4,none⟩=some (.slice x.OA x.ops.length x.OC):=hc1 _ _ (aI hx 4 (by omega));have y10:wr.cell? ⟨b2,o2+k*5,none⟩=some (.int .i64 y.a):=hc2 _ _ (aI hy 0 (by omega));have y11:wr.cell? ⟨b2,o2+k*5+1,none⟩=some (.int .i64 y.s):=hc2 _ _ (aI hy 1 (by omega));have y12:wr.cell? ⟨b2,o2+k*5+2,none⟩=some (.int .i64 y.st):=hc2 _ _ (aI hy 2 (by omega));have y13:wr.cell? ⟨b2,o2+k*5+3,none⟩=some (.slice y.DA y.deps.length y.DC):=hc2 _ _ (aI hy 3 (by omega));have y14:wr.cell? ⟨b2,o2+k*5+4,none⟩=some (.slice y.OA y.ops.length y.OC):=hc2 _ _ (aI hy 4 (by omega));have HX:=sJ hx;have HY:=sJ hy;have C:=same_ch x y wr.drew ((HA.o.below HW.o.drew).each x HX) ((HB.o.below HW.o.drew).each y HY) (HGA.o x HX) (HGB.o y HY) hxy;unfold ChD.v at C;clear hc1 hc2 hx hy HX HY hxy;go_wp2_with fail
   refine wp_region_still_tail 8 (by kernel_rfl) (by kernel_rfl) ?_;simp only[tE,tO,tG,tT];repeat (first|(refine aQ rfl (fun K hK=>?_);go_simp;refine hK _ ?_;clear hK K)|(refine wpStill_skip rfl ?_;go_frame))
   refine wpStill_nil ?_;change wpList _ _ _ _ _ wr.drew;go_wp2_with fail
   go_at_call 50;refine C.mono ?_;rintro e w2 ⟨rfl,hb⟩;have HW2:Hid (Below w.heap.size w w2):=HW.o.drew.trans (hb.mono HW.o.size);clear x10 x11 x12 x13 x14 y10 y11 y12 y13 y14 C hb;go_wp2_with fail
   go_roundw
   case rel=>exact⟨k+1,by go_num,by omega,HW2⟩
   case measure=>simp[intOf];omega
  ·go_wp2_with fail
   go_ret;exact⟨rfl,HW.o⟩
end
section
open Go.RowKit
theorem allGo_perm{L L':List ChD}(hb:Bk L)(hb':Bk L')(hp:L'.Perm L):∀(n:Nat) (out:List ChD),fJ L' n out=fJ L n out
 |0,_=>rfl
 |n+1,out=>by
  rw[fJ,fJ];cases hl:bN (dG L out) L with
  |none =>
   have h0:bN (dG L' out) L'=none:=by
    cases h1:bN (dG L' out) L' with
    |none=>rfl
    |some b =>
     obtain⟨i,r⟩:=b
     obtain⟨c,hc,-,hpc,-⟩:=dL h1
     have h2:=gC hl c (hp.mem_iff.1 (sJ hc));have h3:dG L out c=true:=hpc;rw[h2]at h3;cases h3
   rw[h0]
  |some b =>
   obtain⟨i,r⟩:=b
   obtain⟨c,hc,hr,hpc,hle⟩:=dL hl
   obtain⟨j,hj,e⟩:=wB (hp.mem_iff.2 (sJ hc))
   have hjc:L'[j]?=some c:=sE.2 ⟨hj,e⟩;have h1:bN (dG L' out) L'=some (j,c.rf):=mM hb'.nodup hjc hpc fun d hd hpd=>by rw[hr];exact hle d (hp.mem_iff.1 hd) hpd
   rw[h1];simp only[hc,hjc];exact allGo_perm hb hb' hp n _
theorem allP_perm{L L':List ChD}(hb:Bk L)(hb':Bk L')(hp:L'.Perm L):dU L'=dU L:=by
 unfold dU;rw[hp.length_eq];exact allGo_perm hb hb' hp _ _
theorem allP_idem{L:List ChD}(hb:Bk L):dU (dU L)=dU L:=allP_perm hb hb.all (gU hb)
def fV(l:List ChD):List ChD×List ChD:=l.foldl (fun s c=>(aS s.1 s.2 c).1) ([],[])
theorem oO{l:List ChD}{i:Nat}{c:ChD}(h:l[i]?=some c):fV (l.take (i+1))=(aS (fV (l.take i)).1 (fV (l.take i)).2 c).1:=by
 unfold fV;rw[sQ,h,uH,wJ];rfl
structure Und(P L W:List ChD):Prop where
 inv:Inv L W
 perm:(L++W).Perm P
 late:∀c∈W,aU L c=false
theorem fits_sub{l L:List ChD}(hl:Bk l)(hL:Bk L)(hs:∀x∈L,x∈l){c:ChD}(hc:c∈l)(hr:aU L c=true):bR L c=true:=by
 obtain⟨A,a1,a2,a3,a4⟩:=hl.split c hc
 exact fits_part a1 hL hl a2 hs a3 hr a4
theorem erase_perm{α:Type}{l:List α}{i:Nat}(h:i<l.length):(l[i]::l.eraseIdx i).Perm l:=by
 rw[vV];have h1:l=l.take i++l[i]::l.drop (i+1):=by rw[wO,uL]
 conv=>rhs;rw[h1]
 exact wL.symm
theorem qU{l:List ChD}(hl:Bk l):∀(n:Nat) {L W:List ChD},Inv L W→(∀x∈L++W,x∈l)→W.length≤n →
 ((bO n L W).1++(bO n L W).2).Perm (L++W)∧∀c∈(bO n L W).2,aU (bO n L W).1 c=false
 |0,L,W,_,_,hn=>by
  have:W=[]:=vD (by omega)
  subst this;exact⟨vF _,fun c hc=>by cases hc⟩
 |n+1,L,W,h,hs,hn=>by
  rw[bO];cases ha:bN (aU L) W with
  |none=>exact⟨vF _,gC ha⟩
  |some b =>
   obtain⟨i,r⟩:=b
   obtain⟨x,hi,-,hr,-⟩:=dL ha
   have hx:=sJ hi;have hf:=fits_sub hl h.bk (fun y hy=>hs y (tI _ hy)) (hs x (tX _ hx)) hr;simp only[hi];rw[tA hf];obtain⟨hil,hix⟩:=sE.1 hi
   have hp:(L++[x]++W.eraseIdx i).Perm (L++W):=by
    rw[sX,List.singleton_append,←hix];exact(erase_perm hil).append_left L
   obtain⟨h1,h2⟩:=qU hl n (h.move hi hr hf) (fun y hy=>hs y (hp.mem_iff.1 hy)) (by have:=uP hil;omega)
   exact⟨h1.trans hp,h2⟩
theorem Und.step{l P L W:List ChD}{c:ChD}(hl:Bk l)(h:Und P L W)(hs:∀x∈P++[c],x∈l)(hn:(aB (P++[c])).Nodup)(hk:P.length<120):
 (aS L W c).2=0∧Und (P++[c]) (aS L W c).1.1 (aS L W c).1.2:=by
 have hc:c∈l:=hs c (by simp);obtain⟨he,hw⟩:=hl.err c hc
 have hnew:c.rf∉aB (L++W):=by
  rw[bZ,uM]at hn;intro hm;unfold aB at hm;exact hn.2.2 _ ((h.perm.map ChD.rf).mem_iff.1 hm) c.rf (by simp[aB]) rfl
 rw[bZ,sG,not_or]at hnew;have h1:=bW.2 hnew.1;have h2:=bW.2 hnew.2;have h3:¬120≤L.length+W.length:=by
  have:=h.perm.length_eq
  rw[sF]at this;omega
 have hLl:∀x∈L,x∈l:=fun x hx=>hs x (tI _ (h.perm.mem_iff.1 (tI _ hx)))
 have hWl:∀x∈W,x∈l:=fun x hx=>hs x (tI _ (h.perm.mem_iff.1 (tX _ hx)))
 have hinv:=jC h.inv (c:=c) hw;cases hr:aU L c with
 |false =>
  rw[qP he h1 h2 h3 hr]at hinv ⊢;refine⟨rfl,hinv,?_,fun x hx=>?_⟩
  ·rw[←sX];exact h.perm.append_right [c]
  ·rcases sG.1 hx with hx|hx
   ·exact h.late x hx
   ·rw[sP.1 hx];exact hr
 |true =>
  have hf:=fits_sub hl h.inv.bk hLl hc hr;rw[takeP_go he h1 h2 h3 hr hf]at hinv ⊢;have hst:=h.inv.start he hw h1 h2 hr hf (by omega);obtain⟨p1,p2⟩:=qU hl W.length hst (fun x hx=>by
   rw[sX,sG,List.singleton_append,sO]at hx;rcases hx with hx|rfl|hx
   ·exact hLl x hx
   ·exact hc
   ·exact hWl x hx) (sB _)
  refine⟨rfl,hinv,p1.trans ?_,p2⟩
  have h4:(L++[c]++W).Perm ((L++W)++[c]):=by
   rw[sX,sX];exact List.perm_append_comm.append_left L
  exact h4.trans (h.perm.append_right [c])
theorem Und.all_in{L W:List ChD}(hw:∀c∈W,aU L c=false){l:List ChD}(hl:Bk l):(∀c∈l,c∈L∨c∈W)→∀c∈l,c∈L:=by
 induction hl with
 |nil=>intro _ c hc;cases hc
 | @snoc L0 c hb he hv hn hr hf ih =>
   intro h;have h0:=ih fun x hx=>h x (tI _ hx)
   intro x hx;rcases sG.1 hx with hx|hx
   ·exact h0 x hx
   ·rw[sP.1 hx];rcases h c (by simp) with h1|h1
    ·exact h1
    ·have h2:aU L c=true:=tR.2 fun d hd=>sH (by
      obtain⟨y,hy,e⟩:=sW.1 (eZ hr d hd)
      rw[←e];exact bX (h0 y hy))
     rw[hw c h1]at h2;cases h2
theorem Und.done{l P L W:List ChD}(hl:Bk l)(hp:P.Perm l)(h:Und P L W):W=[]:=by
 refine vW.2 fun x hx=>?_
 have hpl:=h.perm.trans hp;have hL:=Und.all_in h.late hl (fun c hc=>sG.1 (hpl.mem_iff.2 hc)) x (hpl.mem_iff.1 (tX _ hx));exact h.inv.apart x hx (bX hL)
theorem run_und{l l':List ChD}(hl:Bk l)(hm:l.length≤120)(hp:l'.Perm l):∀i,i≤l'.length→Und (l'.take i) (fV (l'.take i)).1 (fV (l'.take i)).2:=by
 intro i;induction i with
 |zero=>intro _;rw[tO];exact⟨Inv.nil,vF _,fun c hc=>by cases hc⟩
 |succ i ih =>
  intro hi;obtain⟨c,hc⟩:∃c,l'[i]?=some c:=⟨_,sC (by omega)⟩
  have e:l'.take (i+1)=l'.take i++[c]:=by rw[sQ,hc,uH]
  rw[oO hc,e];refine(Und.step hl (ih (by omega)) (fun x hx=>hp.mem_iff.1 (uY (e▸hx))) ?_ ?_).2
  ·rw[←e];unfold aB;rw[List.map_take];exact(((hp.map ChD.rf).nodup_iff).2 hl.nodup).sublist (List.take_sublist _ _)
  ·rw[tD];have:=hp.length_eq;omega
theorem order_take{l l':List ChD}(hl:Bk l)(hm:l.length≤120)(hp:l'.Perm l){i:Nat}{c:ChD}(hc:l'[i]?=some c):
 (aS (fV (l'.take i)).1 (fV (l'.take i)).2 c).2=0:=by
 have hi:=(sE.1 hc).1;have e:l'.take (i+1)=l'.take i++[c]:=by rw[sQ,hc,uH]
 refine(Und.step hl (run_und hl hm hp i (by omega)) (fun x hx=>hp.mem_iff.1 (uY (e▸hx))) ?_ ?_).1
 ·rw[←e];unfold aB;rw[List.map_take];exact(((hp.map ChD.rf).nodup_iff).2 hl.nodup).sublist (List.take_sublist _ _)
 ·rw[tD];have:=hp.length_eq;omega
theorem order_done{l l':List ChD}(hl:Bk l)(hm:l.length≤120)(hp:l'.Perm l):
 (fV l').2=[]∧(fV l').1.Perm l'∧Inv (fV l').1 []∧dU (fV l').1=dU l:=by
 have h:=run_und hl hm hp l'.length (sB _);rw[sL (sB _)]at h;have hw:=h.done hl hp;have h1:=h.perm;have h2:=h.inv;rw[hw]at h1 h2;rw[uW]at h1;exact⟨hw,h1,h2,allP_perm hl h2.bk (h1.trans hp)⟩
end
section
open Go.RowKit
def turnP(l:List ChD)(k:Nat):List ChD:=l.drop k++l.take k
theorem oG(l:List ChD)(k:Nat):(turnP l k).Perm l:=List.perm_append_comm.trans (by rw[uL])
theorem turn_at{l:List ChD}{k i:Nat}(hk:k≤l.length)(hi:i<l.length):(turnP l k)[i]?=l[(k+i) % l.length]?:=by
 unfold turnP;by_cases h:k+i<l.length
 ·rw[uD (by rw[uG];omega),wC,Nat.mod_eq_of_lt h]
 ·rw[uS (by rw[uG];omega),uG,List.getElem?_take_of_lt (by omega)];congr 1;rw[Nat.mod_eq_sub_mod (by omega),Nat.mod_eq_of_lt (by omega)];omega
structure RunB(l Xf W:List ChD):Prop where
 l1:Xf.map ChD.base=(fV l).1.map ChD.base
 l2:W.map ChD.base=(fV l).2.map ChD.base
 inv:Inv Xf W
theorem RunB.nil:RunB [] [] []:=⟨rfl,rfl,Inv.nil⟩
theorem RunB.take{l Xf W:List ChD}{i:Nat}{c c':ChD}(h:RunB (l.take i) Xf W)(hc:l[i]?=some c)(hb:c'.base=c.base)(hw:∀o∈c'.ops,(Lit.int .i64 o.vn).wf=true):
 RunB (l.take (i+1)) (aS Xf W c').1.1 (aS Xf W c').1.2∧(aS Xf W c').2=(aS (fV (l.take i)).1 (fV (l.take i)).2 c).2:=by
 have h1:=take_base Xf W c';have h2:=take_base (fV (l.take i)).1 (fV (l.take i)).2 c;rw[h.l1,h.l2,hb,h2]at h1;have e1:=congrArg (fun x=>x.1.1) h1;have e2:=congrArg (fun x=>x.1.2) h1;have e3:=congrArg (fun x=>x.2) h1;simp only at e1 e2 e3;exact⟨⟨by rw[oO hc];exact e1.symm,by rw[oO hc];exact e2.symm,jC h.inv hw⟩,e3.symm⟩
end
end Go.Proofs.YtjhkcbideddlgaaGreat
