/- The law DagOrders, walked: in which order changes come does not matter. -/
import Derived.Test.YtjhkcbideddlgaaGreatP31
import Derived.Test.YtjhkcbideddlgaaGreatP23
import Derived.Test.YtjhkcbideddlgaaGreatP20
set_option maxHeartbeats 32000000
set_option maxRecDepth 20000
set_option linter.unusedVariables false
set_option linter.unusedSimpArgs false
namespace Go.Proofs.YtjhkcbideddlgaaGreat
open Go.ChangeShapes Go.WideShapes Go.ChangeAt Go.RowKit
theorem nG{A B:List ChD}(h:A.map ChD.base=B.map ChD.base):A.length=B.length:=by have:=congrArg List.length h;simpa using this
theorem pick_mod{k:Int}{n p:Nat}(h0:0≤k)(hp:(p:Int)=(k.tmod n+n) % n):(p:Int)=k % n:=by
 rw[hp,Int.tmod_eq_emod_of_nonneg h0,Int.add_emod_right,Int.emod_emod]
theorem ch_cells{w:World}{LL:List ChD}{A:Option Addr}(hr:aC (fun k=>k<w.heap.size) w 5 A LL.length (aW LL))(h0:0<LL.length):∃b o,A=some ⟨b,o,none⟩∧∀V,Below w.heap.size w V→∀(k:Nat) (x:ChD),LL[k]?=some x →
 V.cell? ⟨b,o+k*5,none⟩=some (.int .i64 x.a)∧V.cell? ⟨b,o+k*5+1,none⟩=some (.int .i64 x.s)∧V.cell? ⟨b,o+k*5+2,none⟩=some (.int .i64 x.st)∧V.cell? ⟨b,o+k*5+3,none⟩=some (.slice x.DA x.deps.length x.DC)∧V.cell? ⟨b,o+k*5+4,none⟩=some (.slice x.OA x.ops.length x.OC):=by
 obtain⟨b,o,rfl,hb,hc⟩:=hr.at_ h0 (by omega)
 refine⟨b,o,rfl,fun V hv k x hx=>?_⟩
 have key:∀j v,x.cells[j]?=some v→j<5→V.cell? ⟨b,o+k*5+j,none⟩=some v:=fun j v hj h5=>by
  have h3:=aI hx j h5;rw[hj]at h3;have h4:=hc _ _ h3;rw[←tY]at h4;exact(sK (hv.block _ hb)).trans h4
 exact⟨key 0 _ rfl (by omega),key 1 _ rfl (by omega),key 2 _ rfl (by omega),key 3 _ rfl (by omega),key 4 _ rfl (by omega)⟩
theorem waitB_any{P:Nat→Prop}{w:World}{l:List ChD}{g:Nat}(h:jQ P w l g)(h0:(fV l).2=[]):
 Calls Tryz.prog 12 #[.pointer (some ⟨g,0,none⟩)] w fun e w'=>(∃A c,e=.returned (.slice A 0 c))∧Below w.heap.size w w':=by
 obtain⟨bh,bw,bb,X,W,h1,h2,h3⟩:=h
 have hW:W=[]:=by
  have:=h2.l2
  rw[h0]at this;cases W with
  |nil=>rfl
  |cons x W=>cases this
 subst hW;refine(waiting_any [] g bh bw bb w h1.pb.blk h1.pb.mw (by simp[aB]) (by simp)).mono ?_
 rintro e w' ⟨A,c,rfl,-,hb⟩;exact⟨⟨A,c,rfl⟩,hb⟩
structure ChsW(w:World)(LL:List ChD):Prop where
 bk:Bk LL
 len:LL.length≤120
 idem:dU LL=LL
theorem ChsW.of{L W:List ChD}{w:World}(h:Inv L W):ChsW w (dU L):=⟨h.bk.all,by have:=all_len h.bk;have:=h.most;omega,allP_idem h.bk⟩
theorem dagOrders_walk(by_:Int)(hby:-9223372036854775808≤by_∧by_≤9223372036854775807)(rows:List iM)(A:Option Addr)(cA:Nat)(w:World)(hr:aC (fun k=>k<w.heap.size) w 1 A rows.length (rows.map iM.val))(hok:∀a∈rows,a.ok w)(hl:rows.length≤9223372036854775807):
 Calls Tryz.prog 3 #[.slice A rows.length cA,.int .i64 by_] w fun e w'=>e=.returned (.bool true)∧Below w.heap.size w w':=by
 have C1:Calls Tryz.prog 6 #[.int .i64 3,.slice A rows.length cA] w fun e w'=>ChangesR w e w':=changes_any 3 ⟨by omega,by omega⟩ rows A cA w hr hok hl
 generalize rows.length=ns at C1 ⊢;clear hr hok hl;go_enter Tryz.func3,Tryz.ntmps3;go_wp2_with fail
 go_at_call 6;refine C1.mono ?_;rintro e w1 ⟨L0,W0,v,hinv,rfl,hov,hin,hb1⟩;have HLW:Hid (ChsW w (dU L0)):=ChsW.of hinv;obtain⟨AL,cL,hv,-,-,hrl⟩:=aC.of_own hov
 subst hv;have HRL:Hid (aC (fun k=>k<w1.heap.size) w1 5 AL (dU L0).length (aW (dU L0))):=hrl.more fun k hk=>(aD hov hk).2
 have HIN:Hid (∀c∈dU L0,ChIn (fun k=>k<w1.heap.size) w1 c):=fun c hc=>(hin c hc).more fun k hk=>hk.2
 generalize dU L0=LL at HLW HRL HIN ⊢;have HB1:=Hi hb1;obtain⟨n,hn⟩:∃n,LL.length=n:=⟨_,rfl⟩
 have HN:=Hi hn;rw[hn];have hn120:n≤120:=by have:=HLW.o.len;omega
 clear C1 hinv hov hin hb1 hrl hn
 -- the first book
 go_wp2_with fail
 go_at_call 7;refine(nD w1).mono ?_
 rintro e w2 ⟨g0,rfl,hx,hb⟩;have HX0:=Hi hx;have HB2:Hid (Below w1.heap.size w1 w2):=hb;have CT:=lF (l:=[c0]) (i:=0) (c:=c0) (by simpa using hx) rfl (c0_in _ w2) (by intro o ho;cases ho);simp only[tO]at CT;have e0:jN (aS (fV []).1 (fV []).2 c0).2=.nilIface:=by show jN (aS [] [] c0).2=_;rw[take_c0];rfl
 rw[e0]at CT;have hcv:c0.v=.agg #[.int .i64 1,.int .i64 1,.int .i64 1,.slice none 0 0,.slice none 0 0]:=rfl;rw[hcv]at CT;clear hx hb e0 hcv;go_wp2_with fail
 go_at_call 8;refine CT.mono ?_;rintro e w3 ⟨rfl,hx,hc⟩;have HB3:Hid (Below w1.heap.size w1 w3):=HB2.o.trans (hc.below HB2.o.size fun k hk=>hk.1);have CA:=oC hx;clear CT hx hc HX0 HB2;go_wp2_with fail
 go_at_call 9;refine CA.mono ?_;rintro e w4 ⟨A4,c4,Lr,rfl,hbs,-,hb⟩;have HB4:Hid (Below w1.heap.size w1 w4):=HB3.o.trans (hb.mono HB3.o.size);have hl1:Lr.length=1:=by
  rw[nG hbs];have:(fV ([c0].take (0+1))).1=[c0]:=by
   show(aS [] [] c0).1.1=[c0]
   rw[take_c0]
  rw[this];rfl
 rw[hl1];clear CA hbs hb HB3 hl1;go_upto_region 7 with fail
 go_upto_if 40 with fail
 go_cut [1] (fun s1 wd=>∃b:Int,s1=.int .i64 b∧Hid (0<n→0≤b∧b<n)∧w4=wd)
 case first =>
  by_cases h0:0<n
  ·go_wp2_with fail
   go_at_call 10;refine(gI by_ n w4 hby ⟨h0,by omega⟩).mono ?_
   rintro e w5 ⟨⟨p,hp,-,rfl⟩,rfl⟩;go_wp2_with fail
   go_meet
   case rel=>exact⟨p,rfl,(by show _→_;intro _;omega),rfl⟩
  ·go_wp2_with fail
   go_meet
   case rel=>exact⟨by_,rfl,(by show _→_;intro h;exact absurd h h0),rfl⟩
 case rest =>
  obtain⟨bz,rfl,HBZ,rfl⟩:=hcut
  clear hby
  have HOD:Hid (∀l':List ChD,l'.Perm LL→(fV l').2=[]∧dU (fV l').1=LL):=fun l' hp=>by
   have h1:=order_done HLW.o.bk HLW.o.len hp;exact⟨h1.1,h1.2.2.2.trans HLW.o.idem⟩
  have HOT:Hid (∀l':List ChD,l'.Perm LL→∀(i:Nat) (c:ChD),l'[i]?=some c→jN (aS (fV (l'.take i)).1 (fV (l'.take i)).2 c).2=.nilIface):=fun l' hp i c hc=>by
   rw[order_take HLW.o.bk HLW.o.len hp hc];rfl
  have HWF:Hid (∀c∈LL,∀o∈c.ops,(Lit.int .i64 o.vn).wf=true):=fun c hc=>(HLW.o.bk.err c hc).2
  have HCI:Hid (∀V,Below w1.heap.size w1 V→∀c∈LL,ChIn (fun k=>k<V.heap.size) V c):=fun V hv c hc=>((HIN.o c hc).keep fun k hk=>hv.block k hk).more fun k hk=>sD hk hv.size
  -- the second book
  go_wp2_with fail
  go_at_call 7;refine(nD w4).mono ?_
  rintro e w5 ⟨g1,rfl,hx,hb⟩;have HX1:=Hi hx;have HB5:=Hi hb;clear hx hb;go_upto_region 11 with fail
  go_loopw [10,11] (fun s10 _ wr=>∃(i:Nat) (P:Nat→Prop),s10=.int .i64 i∧i≤n∧Hid (jQ P wr (LL.take i) g1)∧Hid (∀k,P k→w4.heap.size≤k)∧Hid (Below w4.heap.size w4 wr)) (fun s10 _ _=>n-(intOf s10).toNat)
  case atStart=>exact⟨0,_,rfl,uU _,(by rw[tO];exact HX1),(by show ∀k,_→_;exact fun k hk=>hk.1),HB5⟩
  case round =>
   clear HX1 HB5;obtain⟨i,P,rfl,hi,HX,HP,HB⟩:=hrel
   have HB1w:Hid (Below w1.heap.size w1 wr):=HB4.o.trans (HB.o.mono HB4.o.size);by_cases hlt:i<n
   ·obtain⟨x,hx⟩:∃x,LL[i]?=some x:=⟨_,sC (by rw[HN.o];exact hlt)⟩
    have hxm:=sJ hx;have hrr:=HRL.o;obtain⟨b,o,hA,HCC⟩:=ch_cells hrr (by rw[HN.o];omega)
    obtain⟨x0,x1,x2,x3,x4⟩:=HCC wr HB1w.o i x hx
    subst hA;have CT:=lF HX.o hx (HCI.o wr HB1w.o x hxm) (HWF.o x hxm);rw[HOT.o LL (vF _) i x hx]at CT;unfold ChD.v at CT;clear hx hxm hrr HCC;go_wp2_with fail
    go_at_call 8;refine CT.mono ?_;rintro e w6 ⟨rfl,hx6,hc6⟩;have HX6:=Hi hx6;have HP6:Hid (∀k,(P k∨wr.heap.size≤k∧k<w6.heap.size)→w4.heap.size≤k):=fun k hk=>hk.elim (HP.o k) fun h=>sY HB.o.size h.1
    have HB6:Hid (Below w4.heap.size w4 w6):=HB.o.trans (hc6.below HB.o.size HP.o);clear CT hx6 hc6 x0 x1 x2 x3 x4;go_wp2_with fail
    go_roundw
    case rel=>exact⟨i+1,_,by go_num,by omega,HX6,HP6,HB6⟩
    case measure=>(simp[intOf];try omega)
   ·have HXL:Hid (jQ P wr LL g1):=by have:=HX.o;rw[sL (by rw[HN.o];omega)]at this;exact this
    clear HX HP HB4;have CA:=oC HXL.o;go_wp2_with fail
    go_at_call 9;refine CA.mono ?_;rintro e w6 ⟨A6,c6,La,rfl,hbs,hin6,hb⟩;rw[(HOD.o LL (vF _)).2]at hbs;have hlen:=nG hbs;rw[HN.o]at hlen;have HB6:Hid (Below w1.heap.size w1 w6):=HB1w.o.trans (hb.mono HB1w.o.size);have HLA:=Hi hbs;have HLI:=Hi hin6;have HLL:Hid (ChsIn (fun k=>k<w6.heap.size) w6 AL LL):=⟨aA HRL.o HB6.o,HCI.o w6 HB6.o⟩;have CS:=oN HLW.o.bk HLW.o.len La LL A6 AL c6 cL w6 hin6 HLL.o hbs rfl;rw[hlen,HN.o]at CS;rw[hlen];have HLEN:=Hi hlen;clear CA hbs hin6 hb HXL HB HB1w hlen;go_wp2_with fail
    go_at_call 11;refine CS.mono ?_;rintro e w7 ⟨rfl,hb⟩;have HB7:Hid (Below w1.heap.size w1 w7):=HB6.o.trans (hb.mono HB6.o.size);have HL7:=Hi (HLI.o.below hb);clear CS hb HB6 HLI HLL;go_wp2_with fail
    go_at_call 7;refine(nD w7).mono ?_
    rintro e w8 ⟨g2,rfl,hx,hb⟩;have HX8:=Hi hx;have HB8:=Hi hb;clear hx hb;go_wp2_with fail
    go_at_call 7;refine(nD w8).mono ?_
    rintro e w9 ⟨g3,rfl,hx,hb⟩;have HX9:=Hi hx;have HX9b:=Hi (HX8.o.below hb);have HB9:Hid (Below w7.heap.size w7 w9):=HB8.o.trans (hb.mono HB8.o.size);have HSZ:Hid (w7.heap.size≤w8.heap.size):=HB8.o.size;clear hx hb HX8 HB8;go_upto_region 23 with fail
    go_loopw [16,17,18] (fun s16 _ _ wr=>∃(i:Nat) (P1 P2:Nat→Prop),s16=.int .i64 i∧i≤n∧Hid (jQ P1 wr (LL.reverse.take i) g2)∧Hid (jQ P2 wr ((turnP LL bz.toNat).take i) g3)∧Hid (∀k,P1 k→¬P2 k)∧Hid (∀k,P1 k∨P2 k→w7.heap.size≤k)∧Hid (Below w7.heap.size w7 wr)) (fun s16 _ _ _=>n-(intOf s16).toNat)
    case atStart=>exact⟨0,_,_,rfl,uU _,(by rw[tO];exact HX9b),(by rw[tO];exact HX9),(by show ∀k,_→_;intro k h1 h2;omega),(by show ∀k,_→_;intro k h;have:=HSZ.o;omega),HB9⟩
    case round =>
     clear HX9 HX9b HB9 HSZ;obtain⟨i,P1,P2,rfl,hi,HX1,HX2,HPD,HP,HB⟩:=hrel
     have HB1w:Hid (Below w1.heap.size w1 wr):=HB7.o.trans (HB.o.mono HB7.o.size);by_cases hlt:i<n
     ·have h0n:0<n:=by omega
      have hbz:=HBZ.o h0n;obtain⟨m,hm⟩:∃m,n-1-i=m:=⟨_,rfl⟩
      have hmn:m<n:=by omega
      obtain⟨x,hx⟩:∃x,LL[m]?=some x:=⟨_,sC (by rw[HN.o];exact hmn)⟩
      have hxr:LL.reverse[i]?=some x:=by
       rw[List.getElem?_reverse (by rw[HN.o];exact hlt),HN.o,hm];exact hx
      have hw1:IntKind.i64.wrap ((n:Int)-1)=(n:Int)-1:=tH _ (by omega);have hw2:IntKind.i64.wrap ((n:Int)-1-(i:Int))=(m:Int):=by rw[show(n:Int)-1-(i:Int)=(m:Int) by omega];exact tH _ (by omega)
      have hw3:IntKind.i64.wrap (bz+(i:Int))=bz+(i:Int):=tH _ (by omega);have hrr:=HRL.o;obtain⟨b,o,hA,HCC⟩:=ch_cells hrr (by rw[HN.o];omega)
      have HCC:=Hi HCC;obtain⟨x0,x1,x2,x3,x4⟩:=HCC.o wr HB1w.o m x hx
      subst hA;have CT:=lF HX1.o hxr (HCI.o wr HB1w.o x (sJ hx)) (HWF.o x (sJ hx));rw[HOT.o LL.reverse (List.reverse_perm LL) i x hxr]at CT;unfold ChD.v at CT;clear hx hxr hrr hm;go_wp2_with fail
      go_at_call 8;refine CT.mono ?_;rintro e w10 ⟨rfl,hx6,hc6⟩;have HX1b:=Hi hx6;have HX2b:=Hi (HX2.o.chg hc6 (fun k h2 h1=>HPD.o k h1 h2));have HBa:Hid (Below w7.heap.size w7 w10):=HB.o.trans (hc6.below HB.o.size fun k hk=>HP.o k (.inl hk));have HB1a:Hid (Below w1.heap.size w1 w10):=HB7.o.trans (HBa.o.mono HB7.o.size);have HZ1:Hid (wr.heap.size≤w10.heap.size):=hc6.size;have HZ2:Hid (∀k,P2 k→k<wr.heap.size):=by obtain⟨_,_,_,_,_,_,_,h⟩:=HX2.o;exact h
      clear CT hx6 hc6 x0 x1 x2 x3 x4 HX1 HX2 HB1w;go_wp2_with fail
      go_at_call 10;refine(gI (bz+(i:Int)) n w10 ⟨by omega,by omega⟩ ⟨by omega,by omega⟩).mono ?_
      rintro e w11 ⟨⟨p,hp,hpe,rfl⟩,rfl⟩;have hpm:=pick_mod (by omega) hpe;have hpn:p=(bz.toNat+i) % n:=by
       have h1:bz+(i:Int)=((bz.toNat+i:Nat):Int):=by omega
       rw[h1]at hpm
       exact_mod_cast hpm
      obtain⟨y,hy⟩:∃y,LL[p]?=some y:=⟨_,sC (by rw[HN.o];exact hp)⟩
      have hyt:(turnP LL bz.toNat)[i]?=some y:=by
       rw[turn_at (by rw[HN.o];omega) (by rw[HN.o];exact hlt),HN.o,←hpn];exact hy
      obtain⟨y0,y1,y2,y3,y4⟩:=HCC.o w11 HB1a.o p y hy
      have CT:=lF HX2b.o hyt (HCI.o w11 HB1a.o y (sJ hy)) (HWF.o y (sJ hy));rw[HOT.o _ (oG LL bz.toNat) i y hyt]at CT;unfold ChD.v at CT;clear hy hyt hpm hpn hpe HCC;go_wp2_with fail
      go_at_call 8;refine CT.mono ?_;rintro e w12 ⟨rfl,hx7,hc7⟩;have HX2c:=Hi hx7;have HX1c:=Hi (HX1b.o.chg hc7 (fun k h1 h2=>by
       rcases h1 with h1|h1
       ·exact HPD.o k h1 h2
       ·have:=HZ2.o k h2;omega))
      have HBc:Hid (Below w7.heap.size w7 w12):=HBa.o.trans (hc7.below HBa.o.size fun k hk=>HP.o k (.inr hk));have HPc:Hid (∀k,(P1 k∨wr.heap.size≤k∧k<w11.heap.size)→¬(P2 k∨w11.heap.size≤k∧k<w12.heap.size)):=fun k h1 h2=>by
       have h3:∀k,P1 k→k<wr.heap.size∨True:=fun _ _=>.inr trivial
       rcases h1 with h1|h1
       ·rcases h2 with h2|h2
        ·exact HPD.o k h1 h2
        ·have h4:∀k,(P1 k∨wr.heap.size≤k∧k<w11.heap.size)→k<w11.heap.size:=by obtain⟨_,_,_,_,_,_,_,h⟩:=HX1b.o;exact h
         have:=h4 k (.inl h1);omega
       ·rcases h2 with h2|h2
        ·have:=HZ2.o k h2;omega
        ·omega
      have HPe:Hid (∀k,((P1 k∨wr.heap.size≤k∧k<w11.heap.size)∨(P2 k∨w11.heap.size≤k∧k<w12.heap.size))→w7.heap.size≤k):=fun k hk=>by
       have h1:=HB.o.size;have h2:=HBa.o.size;rcases hk with(hk|hk)|(hk|hk)
       ·exact HP.o k (.inl hk)
       ·omega
       ·exact HP.o k (.inr hk)
       ·omega
      clear CT hx7 hc7 y0 y1 y2 y3 y4 hw1 hw2 hw3;go_wp2_with fail
      go_roundw
      case rel=>exact⟨i+1,_,_,by go_num,by omega,HX1c,HX2c,HPc,HPe,HBc⟩
      case measure=>(simp[intOf];try omega)
     ·have HXA:Hid (jQ P1 wr LL.reverse g2):=by have:=HX1.o;rw[sL (by rw[List.length_reverse,HN.o];omega)]at this;exact this
      have HXB:Hid (jQ P2 wr (turnP LL bz.toNat) g3):=by have:=HX2.o;rw[sL (by rw[(oG LL bz.toNat).length_eq,HN.o];omega)]at this;exact this
      have CA:=oC HXA.o;clear HX1 HX2 HPD HP;go_wp2_with fail
      go_at_call 9;refine CA.mono ?_;rintro e w10 ⟨A10,c10,Lb,rfl,hbs,hin10,hb⟩;rw[(HOD.o LL.reverse (List.reverse_perm LL)).2]at hbs;have HLB:=Hi hbs;have hlb:=nG hbs;rw[HN.o]at hlb;have HB10:Hid (Below w1.heap.size w1 w10):=HB1w.o.trans (hb.mono HB1w.o.size);have HBa:Hid (Below w7.heap.size w7 w10):=HB.o.trans (hb.mono HB.o.size);have HIB:=Hi hin10;have HXBa:=Hi (HXB.o.below hb);have HXAa:=Hi (HXA.o.below hb);have CB:=oC HXBa.o;rw[hlb];clear CA hbs hin10 hb HXA HXB HB HB1w;go_wp2_with fail
      go_at_call 9;refine CB.mono ?_;rintro e w11 ⟨A11,c11,Lc,rfl,hbs,hin11,hb⟩;rw[(HOD.o _ (oG LL bz.toNat)).2]at hbs;have HLC:=Hi hbs;have hlc:=nG hbs;rw[HN.o]at hlc;have HB11:Hid (Below w7.heap.size w7 w11):=HBa.o.trans (hb.mono HBa.o.size);have HIC:=Hi hin11;have HIBb:=Hi (HIB.o.below hb);have HXAb:=Hi (HXAa.o.below hb);have HLAb:Hid (ChsIn (fun k=>k<w11.heap.size) w11 A6 La):=HL7.o.below HB11.o;have CS:=oN HLW.o.bk HLW.o.len Lb La A10 A6 c10 c6 w11 HIBb.o HLAb.o HLB.o HLA.o;rw[hlb,HLEN.o]at CS;rw[hlc];clear CB hbs hin11 hb HXBa HXAa HIB HBa HB10;go_wp2_with fail
      go_at_call 11;refine CS.mono ?_;rintro e w12 ⟨rfl,hb⟩;have HB12:Hid (Below w7.heap.size w7 w12):=HB11.o.trans (hb.mono HB11.o.size);have CS2:=oN HLW.o.bk HLW.o.len Lc La A11 A6 c11 c6 w12 (HIC.o.below hb) (HLAb.o.below hb) HLC.o HLA.o;rw[hlc,HLEN.o]at CS2;have HXAc:=Hi (HXAb.o.below hb);clear CS hb HIC HIBb HLAb HXAb HB11;go_wp2_with fail
      go_at_call 11;refine CS2.mono ?_;rintro e w13 ⟨rfl,hb⟩;have HB13:Hid (Below w7.heap.size w7 w13):=HB12.o.trans (hb.mono HB12.o.size);have CW:=waitB_any (HXAc.o.below hb) (HOD.o LL.reverse (List.reverse_perm LL)).1;clear CS2 hb HB12;go_wp2_with fail
      go_at_call 12;refine CW.mono ?_;rintro e w14 ⟨⟨A14,c14,rfl⟩,hb⟩;have HBE:Hid (Below w.heap.size w w14):=HB1.o.trans ((HB7.o.trans ((HB13.o.trans (hb.mono HB13.o.size)).mono HB7.o.size)).mono HB1.o.size);clear CW hb;go_wp2_with fail
      go_ret;exact⟨rfl,HBE.o⟩
end Go.Proofs.YtjhkcbideddlgaaGreat
