/- The laws on books: what both books' Take leave; small laws. -/
import Derived.Test.YtmpkejflgpodkaaGreatDoorP25
import Derived.Test.YtmpkejflgpodkaaGreatDoorP23
import Derived.Test.YtmpkejflgpodkaaGreatDoorP18
import Derived.Test.YtmpkejflgpodkaaGreatDoorP2
import Derived.Test.YtmpkejflgpodkaaGreatDoorP16
import Derived.Test.YtmpkejflgpodkaaGreatDoorP17
import Derived.Test.YtmpkejflgpodkaaGreatDoorP19
import Derived.Test.YtmpkejflgpodkaaGreatDoorP20
import Derived.Test.YtmpkejflgpodkaaGreatDoorP15
import Derived.Deep.MidRow
set_option maxHeartbeats 16000000
set_option maxRecDepth 20000
set_option linter.unusedVariables false
set_option linter.unusedSimpArgs false
namespace Go.Proofs.YtmpkejflgpodkaaGreatDoor
open Go.ChangeShapes Go.WideShapes Go.ChangeAt Go.RowKit
section
theorem qJ(k:Nat)(w:World)(hE:qH w):Calls Tryz.prog 11 #[eA k,.int .i64 k] w fun e w'=>e=.returned (.bool true)∧Below w.heap.size w w':=by
 have:=same_error k k w hE
 rwa [show((k:Int) == (k:Int))=true from by simp]at this
theorem step_same{XL Wp L Wr:List ChD}{c c':ChD}(h1:XL.map ChD.base=L.map ChD.base)(h2:Wp.map ChD.base=Wr.map ChD.base)(h3:c'.base=c.base):
 (aV XL Wp c').1.1.map ChD.base=(aV L Wr c).1.1.map ChD.base∧(aV XL Wp c').1.2.map ChD.base=(aV L Wr c).1.2.map ChD.base∧(aV XL Wp c').2=(aV L Wr c).2:=by
 have a:=take_base XL Wp c';have b:=take_base L Wr c;rw[h1,h2,h3,b]at a;simp only[uT]at a;exact⟨a.1.1.symm,a.1.2.symm,a.2.symm⟩
theorem Both.step{B:Nat}{D F F':Nat→Prop}{w w1 w2:World}{g bh bw bb gs:Nat}{X X':List (ChD×Nat×List Rf)}{W W' L Wr L' Wr':List ChD}{VL VW:Value}(h:Both B D F w g bh bw bb gs X W L Wr)
 (hb1:BM D F' w1 gs L' Wr' VL VW) (hF':∀k,F' k→F k∨w.heap.size≤k) (hch:Chg F w w1)
 (hpb:PB w2 g bh bw bb X' W') (hch2:Chg (fun k=>k=bh∨k=bw∨k=bb) w1 w2) (hfx:∀x∈X',x∈X∨w1.heap.size≤x.2.1) (hfy:∀y,y∈X'.map Prod.fst∨y∈W'→y∈X.map Prod.fst∨y∈W∨ChIn (fun k=>w1.heap.size≤k) w2 y)
 (hi:Inv L' Wr') (hs:X'.map (fun x=>x.1.base)=L'.map ChD.base) (hsW:W'.map ChD.base=Wr'.map ChD.base):Both B D F' w2 g bh bw bb gs X' W' L' Wr':=by
 have hp1:PBD (fun k=>B≤k∧k<w1.heap.size∧¬F' k) w1 g bh bw bb X W :=
  (h.pbd.keep hch.size fun k hk _=>hch.block k hk.2.1 hk.2.2).more fun k hk=>⟨hk.1,sE hk.2.1 hch.size,fun e=>(hF' k e).elim hk.2.2 fun h=>by have:=hk.2.1;omega⟩
 have hF1:∀k,F' k→B≤k:=fun k hk=>(hF' k hk).elim (h.hF k) fun h1=>sR h.size h1
 have hB1:B≤w1.heap.size:=sR h.size hch.size;refine⟨(hp1.take hpb hch2 hfx hfy).more fun k hk=>?_,⟨VL,VW,hb1.keep hch2.size (fun k hk=>?_) fun k hk=>?_⟩,h.hD,hF1,sR hB1 hch2.size,hi,hs,hsW⟩
 ·rcases hk with hk|hk
  ·exact⟨hk.1,sE hk.2.1 hch2.size,hk.2.2⟩
  ·exact⟨sR hB1 hk.1,hk.2,fun e=>by have:=hb1.flt e;have:=hk.1;omega⟩
 ·refine hch2.block k (hb1.hD k hk).1 fun e=>?_
  have h1:=h.hD k hk;have h2:=hp1.pg;rcases e with e|e|e
  ·have:=h2.2.1.1;omega
  ·have:=h2.2.2.1.1;omega
  ·have:=h2.2.2.2.1;omega
 ·refine hch2.block k (hb1.flt hk) fun e=>?_
  have h2:=hp1.pg;rcases e with e|e|e
  ·exact h2.2.1.2.2 (e▸hk)
  ·exact h2.2.2.1.2.2 (e▸hk)
  ·exact h2.2.2.2.2.2 (e▸hk)
theorem base_refs'{XL L:List ChD}(h:XL.map ChD.base=L.map ChD.base):aB XL=aB L:=by rw[←jD XL,←jD L,h]
end
section
open Go.RowKit
theorem take_one(L:List ChD)(c:ChD):((aV L [] c).2≠0→(aV L [] c).1=(L,[])) ∧
 ((aV L [] c).2=0→(c.rf∈aB L∧(aV L [] c).1=(L,[]))∨(c.rf∉aB L∧((aV L [] c).1=(L,[c])∨(aV L [] c).1=(L++[c],[])))):=by
 unfold aV;by_cases he:c.err≠0
 ·rw[if_pos he];exact⟨fun _=>rfl,fun h=>(he h).elim⟩
 ·rw[if_neg he];cases hf:aW L c.rf with
  |some d =>
   obtain⟨h1,h2⟩:=cM hf
   exact⟨fun _=>rfl,fun _=>.inl ⟨by rw[←h2];exact cD h1,rfl⟩⟩
  |none =>
   have hn:=cC.1 hf;have hw:aW [] c.rf=none:=rfl;simp only[hw];by_cases hl:120≤L.length+([]:List ChD).length
   ·rw[if_pos hl];exact⟨fun _=>rfl,fun h=>by cases h⟩
   ·rw[if_neg hl];by_cases hr:bE L c=false
    ·rw[if_pos hr];exact⟨fun h=>(h rfl).elim,fun _=>.inr ⟨hn,.inl rfl⟩⟩
    ·rw[if_neg hr];by_cases hp:bS L c=false
     ·rw[if_pos hp];exact⟨fun _=>rfl,fun h=>by cases h⟩
     ·rw[if_neg hp];exact⟨fun h=>(h rfl).elim,fun _=>.inr ⟨hn,.inr rfl⟩⟩
def dQ(L:List ChD)(c:ChD):Nat :=
 if (aV L [] c).2=8 then 8 else if (aV L [] c).2≠0 then 7 else if c.rf∈aB L then 8 else if (aV L [] c).1.2=[] then 0 else 7
def aZ:List ChD→List ChD→Nat×List ChD
 |L,[]=>(0,L)
 |L,c::l=>if dQ L c=0 then aZ (L++[c]) l else (dQ L c,L)
theorem bookE_zero{L:List ChD}{c:ChD}(h:dQ L c=0):(aV L [] c).2=0∧(aV L [] c).1=(L++[c],[])∧c.rf∉aB L:=by
 unfold dQ at h;by_cases h8:(aV L [] c).2=8
 ·rw[if_pos h8]at h;cases h
 ·rw[if_neg h8]at h;by_cases h0:(aV L [] c).2≠0
  ·rw[if_pos h0]at h;cases h
  ·rw[if_neg h0]at h;by_cases hm:c.rf∈aB L
   ·rw[if_pos hm]at h;cases h
   ·rw[if_neg hm]at h;have h0':(aV L [] c).2=0:=Decidable.not_not.1 h0;rcases(take_one L c).2 h0' with⟨h1,-⟩|⟨-,h1|h1⟩
    ·exact(hm h1).elim
    ·rw[h1]at h;simp at h
    ·exact⟨h0',h1,hm⟩
theorem bookE_base{L L':List ChD}{c c':ChD}(h1:L'.map ChD.base=L.map ChD.base)(h2:c'.base=c.base):dQ L' c'=dQ L c:=by
 obtain⟨-,e2,e3⟩:=step_same (XL:=L') (Wp:=[]) (L:=L) (Wr:=[]) (c:=c) (c':=c') h1 rfl h2
 have e4:c'.rf=c.rf:=by rw[←eW c',←eW c,h2]
 have e5:(aV L' [] c').1.2=[]↔(aV L [] c).1.2=[]:=by
  have:=congrArg List.length e2
  simp only[sP]at this;constructor
  ·intro h;exact vD (by rw[←this,h];rfl)
  ·intro h;exact vD (by rw[this,h];rfl)
 unfold dQ;rw[e3,base_refs' h1,e4];simp only[e5]
theorem book_inv{L:List ChD}(h:Inv L []){c:ChD}(hw:∀o∈c.ops,(Lit.int .i64 o.vn).wf=true)(h0:dQ L c=0):Inv (L++[c]) []:=by
 have:=takeP_inv h hw
 rw[(bookE_zero h0).2.1]at this;exact this
end
section
def StBookR(La:List ChD)(B:Nat)(e:Ending)(w':World):Prop :=
 ((aZ [] La).1=0∧∃g bh bw bb X,e=.returned (.tuple #[.pointer (some ⟨g,0,none⟩),.nilIface])∧PBD (fun k=>B≤k) w' g bh bw bb X []∧(X.map Prod.fst).map ChD.base=(aZ [] La).2.map ChD.base∧Inv (X.map Prod.fst) []) ∨
 ((aZ [] La).1≠0∧e=.returned (.tuple #[.pointer none,eA (aZ [] La).1]))
theorem bookP_drop'{L La:List ChD}{i:Nat}{c:ChD}(hc:La[i]?=some c):aZ L (La.drop i)=if dQ L c=0 then aZ (L++[c]) (La.drop (i+1)) else (dQ L c,L):=by
 obtain⟨h1,h2⟩:=sF.1 hc
 rw[tJ h1,h2];rfl
theorem errno_eq(a b:Int)(w:World):(binOp .eql 38 (.iface 101 (.int .i64 a)) (.iface 101 (.int .i64 b))).run Tryz.prog w=.ok (.bool (a == b)) w:=by
 first|kernel_rfl|(have u:=Tryz.underlying101;have u2:=Tryz.underlying38;go_simp;trace_state;done)
theorem stBook_any(La:List ChD)(A:Option Addr)(cA:Nat)(w:World)(hl:La.length≤9223372036854775807)(hL:ChsIn (fun k=>k<w.heap.size) w A La)(hw:∀c∈La,∀o∈c.ops,(Lit.int .i64 o.vn).wf=true):
 Calls Tryz.prog 57 #[.slice A La.length cA] w fun e w'=>StBookR La w.heap.size e w'∧Below w.heap.size w w':=by
 obtain⟨n,hn⟩:∃n,La.length=n:=⟨_,rfl⟩
 have HN:=Hi hn;have HL:=Hi hL;have HV:=Hi hw;rw[hn]at hl ⊢;clear hn hL hw;have C1:=new_any w;go_enter Tryz.func57,Tryz.ntmps57;go_wp2_with fail
 go_at_call 83;refine C1.mono ?_;rintro e w1 ⟨g,bh,bw,bb,rfl,hg1,hh1,hw1,hb1,hne,hsz,hbel⟩;have HPB1:Hid (PBD (fun k=>w.heap.size≤k) w1 g bh bw bb [] []):=⟨PB.nil hg1 hh1 hw1 hb1 hne,⟨hsz.2.2.2,hsz.1,hsz.2.1,hsz.2.2.1⟩,(fun x hx=>by cases hx),(fun x hx=>by cases hx)⟩;have HW1:=Hi hbel;clear C1 hg1 hh1 hw1 hb1 hne hsz hbel;go_upto_region 3 with fail
 go_loopw [12] (fun s12 wr=>∃(i:Nat) (L:List ChD) (X:List (ChD×Nat×List Rf)),s12=.int .i64 i∧i≤n∧Hid (PBD (fun k=>w.heap.size≤k) wr g bh bw bb X [])∧Hid (Inv (X.map Prod.fst) [])∧Hid ((X.map Prod.fst).map ChD.base=L.map ChD.base)∧Hid (aZ [] La=aZ L (La.drop i))∧Hid (Below w.heap.size w wr)) (fun s12 _=>n-(intOf s12).toNat)
 case atStart=>exact⟨0,[],[],rfl,by omega,HPB1,Inv.nil,rfl,(by show _=_;rw[tH]),HW1⟩
 case round =>
  clear HPB1 HW1;obtain⟨i,L,X,rfl,hi,HPB,HIN,HLB,HP,HW⟩:=hrel
  by_cases hlt:i<n
  ·obtain⟨c,hc⟩:∃c,La[i]?=some c:=⟨_,sD (by rw[HN.o];exact hlt)⟩
   have HCM:=Hi (sJ hc);have HPD:=Hi (bookP_drop' (L:=L) hc);obtain⟨b1,o1,hA,hbl,hc1⟩:=HL.o.row.at_ (by rw[HN.o];omega) (by omega)
   have HCX:Hid (∀V,Below w.heap.size w V→∀j v,c.cells[j]?=some v→j<5→V.cell? ⟨b1,o1+i*5+j,none⟩=some v):=fun V hv j v hj h5=>by
    have h3:=aT hc j h5;rw[hj]at h3;have h4:=hc1 _ _ h3;rw[←tL]at h4;exact(sM (hv.block _ hbl)).trans h4
   have HLT:=Hi hlt;subst hA;clear hc hbl hc1;have x0:wr.cell? ⟨b1,o1+i*5,none⟩=some (.int .i64 c.a):=HCX.o wr HW.o 0 _ rfl (by omega);have x1:wr.cell? ⟨b1,o1+i*5+1,none⟩=some (.int .i64 c.s):=HCX.o wr HW.o 1 _ rfl (by omega);have x2:wr.cell? ⟨b1,o1+i*5+2,none⟩=some (.int .i64 c.st):=HCX.o wr HW.o 2 _ rfl (by omega);have x3:wr.cell? ⟨b1,o1+i*5+3,none⟩=some (.slice c.DA c.deps.length c.DC):=HCX.o wr HW.o 3 _ rfl (by omega);have x4:wr.cell? ⟨b1,o1+i*5+4,none⟩=some (.slice c.OA c.ops.length c.OC):=HCX.o wr HW.o 4 _ rfl (by omega);go_upto_region 5 with fail
   have HQ:=Hi (Blk.new wr 82 #[.int .i64 c.a,.int .i64 c.s,.int .i64 c.st,.slice c.DA c.deps.length c.DC,.slice c.OA c.ops.length c.OC]);have hb2:Below wr.heap.size wr (wr.alloc (.cells #[.int .i64 c.a,.int .i64 c.s,.int .i64 c.st,.slice c.DA c.deps.length c.DC,.slice c.OA c.ops.length c.OC] 82)):=(sB _ wr).alloc (sC _) _;have HW2:Hid (Below w.heap.size w (wr.alloc (.cells #[.int .i64 c.a,.int .i64 c.s,.int .i64 c.st,.slice c.DA c.deps.length c.DC,.slice c.OA c.ops.length c.OC] 82))):=HW.o.trans (hb2.mono HW.o.size);have HPB2:=Hi (HPB.o.keep hb2.size fun k _ hk=>hb2.block k hk);obtain⟨q,hq⟩:∃q,wr.heap.size=q:=⟨_,rfl⟩
   have HQW:Hid (w.heap.size≤q):=by rw[←hq];exact HW.o.size
   have HNE:Hid (bh<q∧bw<q∧bb<q):=by rw[←hq];exact⟨aI.lt HPB.o.pb.mh,aI.lt HPB.o.pb.mw,aI.lt HPB.o.pb.mb⟩
   rw[hq]at HQ ⊢;clear hb2 HW HPB x0 x1 x2 x3 x4 HCX hq;generalize wr.alloc (.cells #[.int .i64 c.a,.int .i64 c.s,.int .i64 c.st,.slice c.DA c.deps.length c.DC,.slice c.OA c.ops.length c.OC] 82)=w2 at HQ HW2 HPB2 ⊢;obtain⟨nX,hnX⟩:∃k,(X.map Prod.fst).length=k:=⟨_,rfl⟩
   have HNX:=Hi hnX;have hx120:nX≤120:=by have:=HIN.o.most;simp only[wA]at this;omega
   clear hnX;have C2:=all_any (X.map Prod.fst) g bh (.map (some bw)) (.map (some bb)) w2 HPB2.o.pb.hb HIN.o.bk (by rw[HNX.o];omega) (fun c hc=>by
    obtain⟨x,hx,rfl⟩:=sH.1 hc
    exact(HPB2.o.pb.inL x hx).more fun k hk=>hk.1)
   go_wp2_with fail
   go_at_call 59;refine C2.mono ?_;rintro e w3 ⟨A3,c3,Lr,rfl,hlr,-,hb⟩;have hll:Lr.length=nX:=by
    have h1:=congrArg List.length hlr;simp only[sP]at h1;rw[h1,all_len HIN.o.bk,HNX.o]
   rw[hll];have HQ3:=Hi (HQ.o.keep (hb.block _ HQ.o.lt));have HPB3:=Hi (HPB2.o.keep hb.size fun k _ hk=>hb.block k hk);have HW3:Hid (Below w.heap.size w w3):=HW2.o.trans (hb.mono HW2.o.size);clear C2 hlr hll hb HQ HPB2 HW2;have c0:=cZ HQ3.o 0 rfl;have c1:=cZ HQ3.o 1 rfl;have c2:=cZ HQ3.o 2 rfl;have c3:=cZ HQ3.o 3 rfl;have c4:=cZ HQ3.o 4 rfl
   have C3:=take_any X [] c g bh bw bb w3 HPB3.o.pb HIN.o (((HL.o.each c HCM.o).keep fun k hk=>HW3.o.block k hk).more fun k hk=>sE hk HW3.o.size) (HV.o c HCM.o);unfold ChD.v at C3;go_wp2_with fail
   go_at_call 84;refine C3.mono ?_;rintro e w4 ⟨c',X',hcb,rfl,hpb4,hx4,hch4,hfx4,hfy4⟩;have hbe:=bookE_base HLB.o hcb;have hip:=takeP_inv HIN.o ((base_same hcb).2.2 (HV.o c HCM.o));rw[←hx4]at hip hfy4;have HPB4:Hid (PBD (fun k=>w.heap.size≤k) w4 g bh bw bb X' (aV (X.map Prod.fst) [] c').1.2):=(HPB3.o.take hpb4 hch4 hfx4 hfy4).more fun k hk=>hk.elim id fun h=>sR HW3.o.size h.1
   have HW4:Hid (Below w.heap.size w w4):=HW3.o.trans (hch4.below HW3.o.size fun k hk=>by
    have h2:=HPB3.o.pg;rcases hk with e|e|e
    ·rw[e];exact h2.2.1
    ·rw[e];exact h2.2.2.1
    ·rw[e];exact h2.2.2.2)
   have HQ4:=Hi (HQ3.o.keep (hch4.block _ HQ3.o.lt (fun e=>by have:=HNE.o;omega)));have HBE:=Hi hbe;have HIP:=Hi hip;have HX4:=Hi hx4;have HCB:=Hi hcb;have HTW:=Hi (take_one (X.map Prod.fst) c');clear C3 hbe hcb hip hpb4 hx4 hch4 hfx4 hfy4 HPB3 HW3 HQ3 c0 c1 c2 c3 c4;obtain⟨te,hte⟩:∃k,(aV (X.map Prod.fst) [] c').2=k:=⟨_,rfl⟩
   have HTE:=Hi hte;rw[hte];clear hte;by_cases h8:te=8
   ·subst h8;have HE:Hid (dQ L c=8):=by show _=_;rw[←HBE.o];unfold dQ;rw[HTE.o];rfl
    have HR:Hid (aZ [] La=(8,L)):=by show _=_;rw[HP.o,HPD.o,HE.o];rfl
    clear HP HPD;have hee:=fun w=>errno_eq 8 8 w
    rw[show eA 8=.iface 101 (.int .i64 8) from rfl];go_wp2_with fail
    go_ret2;exact⟨.inr ⟨by rw[HR.o];simp,by rw[HR.o];rfl⟩,HW4.o⟩
   ·by_cases h0:te=0
    ·subst h0;rw[show eA 0=.nilIface from rfl];obtain⟨mX,hmX⟩:∃k,(X'.map Prod.fst).length=k:=⟨_,rfl⟩
     have HMX:=Hi hmX;have hm120:mX≤120:=by have:=HIP.o.most;omega
     clear hmX;have C4:=all_any (X'.map Prod.fst) g bh (.map (some bw)) (.map (some bb)) w4 HPB4.o.pb.hb HIP.o.bk (by rw[HMX.o];omega) (fun c hc=>by
      obtain⟨x,hx,rfl⟩:=sH.1 hc
      exact(HPB4.o.pb.inL x hx).more fun k hk=>hk.1)
     go_wp2_with fail
     go_at_call 59;refine C4.mono ?_;rintro e w5 ⟨A5,c5,Lr5,rfl,hlr,-,hb⟩;have hll:Lr5.length=mX:=by
      have h1:=congrArg List.length hlr;simp only[sP]at h1;rw[h1,all_len HIP.o.bk,HMX.o]
     rw[hll];have HQ5:=Hi (HQ4.o.keep (hb.block _ HQ4.o.lt));have HPB5:=Hi (HPB4.o.keep hb.size fun k _ hk=>hb.block k hk);have HW5:Hid (Below w.heap.size w w5):=HW4.o.trans (hb.mono HW4.o.size);have ht:=HTW.o.2 HTE.o;clear C4 hlr hll hb HQ4 HPB4 HW4;have c0:=cZ HQ5.o 0 rfl;have c1:=cZ HQ5.o 1 rfl
     have hrf:c'.rf=c.rf:=by rw[←eW c',←eW c,HCB.o]
     by_cases hrd:(aV (X.map Prod.fst) [] c').1=(X.map Prod.fst++[c'],[])
     ·have hnm:c'.rf∉aB (X.map Prod.fst):=by
       rcases ht with⟨h1,h2⟩|h1
       ·rw[h2]at hrd;have:=congrArg (fun p=>p.1.length) hrd
        simp at this
       ·exact h1.1
      have HE:Hid (dQ L c=0):=by show _=_;rw[←HBE.o];unfold dQ;rw[HTE.o,if_neg (by decide),if_neg (by decide),if_neg hnm,hrd];rfl
      have hXX:X'.map Prod.fst=X.map Prod.fst++[c']:=by rw[HX4.o,hrd]
      have hmn:mX=nX+1:=by rw[←HMX.o,hXX,sG,HNX.o];rfl
      have HP5:Hid (aZ [] La=aZ (L++[c]) (La.drop (i+1))):=by show _=_;rw[HP.o,HPD.o,HE.o];rfl
      have HLB5:Hid ((X'.map Prod.fst).map ChD.base=(L++[c]).map ChD.base):=by show _=_;rw[hXX,sQ,sQ,HLB.o,List.map_singleton,List.map_singleton,HCB.o]
      rw[hrd]at HPB5 HIP;have hne:((mX:Int) == (nX:Int))=false:=by simp;omega
      clear ht hrd hnm hXX HP HPD HBE HTE HTW HX4 HLB HMX HNX c0 c1;go_wp2_with fail
      go_roundw
      case rel=>exact⟨i+1,L++[c],X',by go_num,HLT.o,HPB5,HIP,HLB5,HP5,HW5⟩
      case measure=>have:=HLT.o;simp[intOf];omega
     ·have hXX:X'.map Prod.fst=X.map Prod.fst:=by
       rcases ht with⟨-,h2⟩|⟨-,h2|h2⟩
       ·rw[HX4.o,h2]
       ·rw[HX4.o,h2]
       ·exact(hrd h2).elim
      have hmn:mX=nX:=by rw[←HMX.o,hXX,HNX.o]
      subst hmn;have herr:c'.err=0:=by
       by_cases h:c'.err=0
       ·exact h
       ·exfalso;have h1:=HTE.o;unfold aV at h1;rw[if_pos h]at h1;exact h h1
      have C5:=has_any (X'.map Prod.fst) c.rf (by rw[←hrf];exact lQ herr) g bh (.map (some bw)) (.map (some bb)) w5 HPB5.o.pb.blk HPB5.o.pb.mh;rw[hXX]at C5;unfold ChD.rf at C5;go_wp2_with fail
      go_at_call 85;refine C5.mono ?_;rintro e w6 ⟨rfl,hb⟩;have HW6:Hid (Below w.heap.size w w6):=HW5.o.trans (hb.mono HW5.o.size);clear C5 hb HW5 HPB5 HQ5 c0 c1;by_cases hm:c'.rf∈aB (X.map Prod.fst)
      ·have HE:Hid (dQ L c=8):=by show _=_;rw[←HBE.o];unfold dQ;rw[HTE.o,if_neg (by decide),if_neg (by decide),if_pos hm]
       have HR:Hid (aZ [] La=(8,L)):=by show _=_;rw[HP.o,HPD.o,HE.o];rfl
       have hd:decide ((c.a,c.s)∈aB (X.map Prod.fst))=true:=decide_eq_true (by rw[hrf]at hm;exact hm);rw[hd];clear HP HPD ht;go_wp2_with fail
       go_ret2;exact⟨.inr ⟨by rw[HR.o];simp,by rw[HR.o];rfl⟩,HW6.o⟩
      ·have h1:(aV (X.map Prod.fst) [] c').1=(X.map Prod.fst,[c']):=by
        rcases ht with⟨h1,-⟩|⟨-,h2|h2⟩
        ·exact(hm h1).elim
        ·exact h2
        ·exact(hrd h2).elim
       have HE:Hid (dQ L c=7):=by show _=_;rw[←HBE.o];unfold dQ;rw[HTE.o,if_neg (by decide),if_neg (by decide),if_neg hm,h1];simp
       have HR:Hid (aZ [] La=(7,L)):=by show _=_;rw[HP.o,HPD.o,HE.o];rfl
       have hd:decide ((c.a,c.s)∈aB (X.map Prod.fst))=false:=decide_eq_false (by rw[hrf]at hm;exact hm);rw[hd];clear HP HPD ht h1;go_wp2_with fail
       go_ret2;exact⟨.inr ⟨by rw[HR.o];simp,by rw[HR.o];rfl⟩,HW6.o⟩
    ·have HE:Hid (dQ L c=7):=by show _=_;rw[←HBE.o];unfold dQ;rw[HTE.o,if_neg h8,if_pos h0]
     have HR:Hid (aZ [] La=(7,L)):=by show _=_;rw[HP.o,HPD.o,HE.o];rfl
     have e8:((te:Int) == 8)=false:=by simp;omega
     have hee:=fun w=>errno_eq te 8 w
     rw[show eA te=.iface 101 (.int .i64 te) from if_neg h0];clear HP HPD;go_wp2_with fail
     go_ret2;exact⟨.inr ⟨by rw[HR.o];simp,by rw[HR.o];rfl⟩,HW4.o⟩
  ·have hLd:Hid (aZ [] La=(0,L)):=by
    show _=_;rw[HP.o,xE (by rw[HN.o];omega)];rfl
   clear HP;go_wp2_with fail
   go_ret2;exact⟨.inl ⟨by rw[hLd.out],g,bh,bw,bb,X,rfl,HPB.o,by rw[hLd.out];exact HLB.o,HIN.o⟩,HW.o⟩
end
section
def NewDoes(R:List ChD→Nat→World→Prop)(L:List ChD):Prop :=
 ∀(Lr:List ChD) (A:Option Addr) (c:Nat) (V:World),Lr.map ChD.base=(lH L).map ChD.base→ChsIn (fun k=>k<V.heap.size) V A Lr →
  Calls Tryz.prog 58 #[.slice A Lr.length c] V fun e w'=>∃g,e=.returned (.pointer (some ⟨g,0,none⟩))∧R Lr g w'∧Below V.heap.size V w'
def StFromR(R:List ChD→Nat→World→Prop)(La:List ChD)(e:Ending)(w':World):Prop :=
 ((aZ [] La).1=0∧∃g Lr,e=.returned (.tuple #[.pointer (some ⟨g,0,none⟩),.nilIface])∧Lr.map ChD.base=(lH (aZ [] La).2).map ChD.base∧R Lr g w') ∨
 ((aZ [] La).1≠0∧e=.returned (.tuple #[.pointer none,eA (aZ [] La).1]))
theorem stFrom_any(R:List ChD→Nat→World→Prop)(La:List ChD)(A:Option Addr)(cA:Nat)(w:World)(hl:La.length≤9223372036854775807)(hL:ChsIn (fun k=>k<w.heap.size) w A La)(hw:∀c∈La,∀o∈c.ops,(Lit.int .i64 o.vn).wf=true)(hN:NewDoes R (aZ [] La).2):
 Calls Tryz.prog 33 #[.slice A La.length cA] w fun e w'=>StFromR R La e w'∧Below w.heap.size w w':=by
 have C1:=stBook_any La A cA w hl hL hw;have HN:=Hi hN;clear hl hL hw hN;generalize La.length=n at C1 ⊢;go_enter Tryz.func33,Tryz.ntmps33;go_wp2_with fail
 go_at_call 57;refine C1.mono ?_;rintro e w1 ⟨⟨h0,g,bh,bw,bb,X,rfl,hp,hb,hi⟩|⟨h0,rfl⟩,hbw⟩
 ·have HW:=Hi hbw;have HP:=Hi hp;have HB:=Hi hb;have HI:=Hi hi;have H0:=Hi h0;have C2:=all_any (X.map Prod.fst) g bh (.map (some bw)) (.map (some bb)) w1 hp.pb.hb hi.bk (by have:=hi.most;omega) (fun c hc=>by
   obtain⟨x,hx,rfl⟩:=sH.1 hc
   exact(hp.pb.inL x hx).more fun k hk=>hk.1)
  clear C1 hp hb hi h0 hbw;go_wp2_with fail
  go_at_call 59;refine C2.mono ?_;rintro e w2 ⟨A2,c2,Lr,rfl,hlr,hin,hb2⟩;have HW2:Hid (Below w.heap.size w w2):=HW.o.trans (hb2.mono HW.o.size);have hlr':Lr.map ChD.base=(lH (aZ [] La).2).map ChD.base:=by rw[hlr,←allP_base,HB.o,allP_base]
  have HLR:=Hi hlr';have C3:=HN.o Lr A2 c2 w2 hlr' hin;clear C2 hlr hlr' hin hb2 HW HP HB HI;go_wp2_with fail
  go_at_call 58;refine C3.mono ?_;rintro e w3 ⟨g3,rfl,hr3,hb3⟩;have HR3:=Hi hr3;have HW3:Hid (Below w.heap.size w w3):=HW2.o.trans (hb3.mono HW2.o.size);clear C3 hr3 hb3 HW2;go_wp2_with fail
  go_ret2;exact⟨.inl ⟨H0.o,g3,Lr,rfl,HLR.o,HR3.o⟩,HW3.o⟩
 ·have HW:=Hi hbw;have H0:=Hi h0;clear C1 hbw;have HEN:Hid (eA (aZ [] La).1=.iface 101 (.int .i64 (aZ [] La).1)):=if_neg h0;rw[HEN.o];clear h0;go_wp2_with fail
  go_ret2;exact⟨.inr ⟨H0.o,by rw[HEN.o];rfl⟩,HW.o⟩
end
section
def StM(Lr:List ChD)(g:Nat)(w:World):Prop:=∃B kb vb cb lb V C,SMem B w g kb vb cb lb (aH Lr) V C
end
section
theorem bookP_drop{L La:List ChD}{i:Nat}{c:ChD}(hc:La[i]?=some c):aZ L (La.drop i)=if dQ L c=0 then aZ (L++[c]) (La.drop (i+1)) else (dQ L c,L):=by
 obtain⟨h1,h2⟩:=sF.1 hc
 rw[tJ h1,h2];rfl
def BRc(w:World)(g:Nat)(L:List ChD):Prop :=
 ∃A c VW,Blk w g 34 #[.slice A L.length c,VW]∧ChsIn (fun k=>k<w.heap.size) w A L∧L.length≤c∧c≤9223372036854775807
theorem BM.brc{D F:Nat→Prop}{w:World}{g:Nat}{L W:List ChD}{VL VW:Value}(h:BM D F w g L W VL VW):BRc w g L:=by
 obtain⟨A,c,A',c',h1,h2,h3⟩:=h.br
 obtain⟨A2,c2,e,hc1,hc2,-⟩:=aC.of_own h.oL
 have hb:=h.blk;have h4:VL=.slice A L.length c:=by
  have:=(h1.cell 0).symm.trans (hb.cell 0)
  simpa using this.symm
 rw[h4]at e;simp only[tZ,true_and]at e;obtain⟨rfl,rfl⟩:=e
 exact⟨A,c,VW,by rw[←h4];exact hb,h2,hc1,by simpa[maxLen] using hc2⟩
theorem BRc.below{w w':World}{g:Nat}{L:List ChD}(h:BRc w g L)(hb:Below w.heap.size w w'):BRc w' g L:=by
 obtain⟨A,c,VW,h1,h2,h3⟩:=h
 exact⟨A,c,VW,h1.keep (hb.block _ h1.lt),h2.below hb,h3⟩
def SBookR(La:List ChD)(e:Ending)(w':World):Prop :=
 ((aZ [] La).1=0∧∃gs,e=.returned (.tuple #[.pointer (some ⟨gs,0,none⟩),.int .i64 0])∧BRc w' gs (aZ [] La).2∧Inv (aZ [] La).2 []) ∨
 ((aZ [] La).1≠0∧e=.returned (.tuple #[.pointer none,.int .i64 ((aZ [] La).1:Nat)]))
theorem sBook_any(La:List ChD)(A:Option Addr)(cA:Nat)(w:World)(hl:La.length≤9223372036854775807)(hL:ChsIn (fun k=>k<w.heap.size) w A La)(hw:∀c∈La,∀o∈c.ops,(Lit.int .i64 o.vn).wf=true):
 Calls Tryz.prog 6 #[.slice A La.length cA] w fun e w'=>SBookR La e w'∧Below w.heap.size w w':=by
 obtain⟨n,hn⟩:∃n,La.length=n:=⟨_,rfl⟩
 have HN:=Hi hn;have HL:=Hi hL;have HV:=Hi hw;rw[hn]at hl ⊢;clear hn hL hw;have HG:=Hi (Blk.new w 34 #[.slice none 0 0,.slice none 0 0]);have HW0:Hid (Below w.heap.size w (w.alloc (.cells #[.slice none 0 0,.slice none 0 0] 34))):=(sB _ w).alloc (sC _) _;go_enter Tryz.func6,Tryz.ntmps6;go_upto_region 3 with fail
 generalize w.alloc (.cells #[.slice none 0 0,.slice none 0 0] 34)=w1 at HG HW0 ⊢;obtain⟨gs,hgs⟩:∃g,w.heap.size=g:=⟨_,rfl⟩
 have HGS:=Hi hgs;rw[hgs]at HG ⊢;have HBM:Hid (BM (fun k=>k<w.heap.size) (fun k=>k=gs) w1 gs [] [] (.slice none 0 0) (.slice none 0 0)) :=
  ⟨HG.o,bT _ _ _ _,bT _ _ _ _,(fun k hk=>by cases hk),(fun k=>⟨.inl,fun h=>h.elim id fun h=>by rcases h with h|h<;>cases h⟩),(fun x hx=>by cases hx),(fun x hx=>by cases hx),fun k hk=>⟨sE hk HW0.o.size,fun e=>by rw[show k=gs from e,←hgs]at hk;exact Nat.lt_irrefl _ hk⟩⟩
 clear hgs HG;go_loopw [5,6,7] (fun s5 _ _ wr=>∃(i:Nat) (F:Nat→Prop) (L:List ChD) (VL VW:Value),s5=.int .i64 i∧i≤n∧Hid (i=L.length)∧Hid (Inv L [])∧Hid (BM (fun k=>k<w.heap.size) F wr gs L [] VL VW)∧Hid (∀k,F k→w.heap.size≤k)∧Hid (aZ [] La=aZ L (La.drop i))∧Hid (Below w.heap.size w wr)) (fun s5 _ _ _=>n-(intOf s5).toNat)
 case atStart=>exact⟨0,_,[],_,_,rfl,by omega,rfl,Inv.nil,HBM,(by show ∀k,_→_;intro k hk;rw[HGS.o];exact Nat.le_of_eq hk.symm),(by show _=_;rw[tH]),HW0⟩
 case round =>
  clear HBM HW0;obtain⟨i,F,L,VL,VW,rfl,hi,HIL,HIN,HBM,HF,HP,HW⟩:=hrel
  by_cases hlt:i<n
  ·obtain⟨c,hc⟩:∃c,La[i]?=some c:=⟨_,sD (by rw[HN.o];exact hlt)⟩
   have HCM:=Hi (sJ hc);have HPD:=Hi (bookP_drop (L:=L) hc);obtain⟨b1,o1,hA,hbl,hc1⟩:=HL.o.row.at_ (by rw[HN.o];omega) (by omega)
   have HCX:Hid (∀V,Below w.heap.size w V→∀j v,c.cells[j]?=some v→j<5→V.cell? ⟨b1,o1+i*5+j,none⟩=some v):=fun V hv j v hj h5=>by
    have h3:=aT hc j h5;rw[hj]at h3;have h4:=hc1 _ _ h3;rw[←tL]at h4;exact(sM (hv.block _ hbl)).trans h4
   have HLT:=Hi hlt;subst hA;obtain⟨AL,cL,AW,cW,hg2,hL2,hW2⟩:=HBM.o.br
   obtain⟨nL,hnL⟩:∃k,L.length=k:=⟨_,rfl⟩
   have HNL:=Hi hnL;have hil:nL≤120:=by have:=HIN.o.most;simp only[wA]at this;omega
   have s0:wr.cell? ⟨gs,0,none⟩=some (.slice AL nL cL):=(by rw[←hnL];exact hg2.cell 0);have HLR:Hid (aC (fun k=>k<wr.heap.size) wr 5 AL L.length (bP L)):=hL2.row;clear hc hbl hc1 hg2 hL2 hW2 hnL;have x0:wr.cell? ⟨b1,o1+i*5,none⟩=some (.int .i64 c.a):=HCX.o wr HW.o 0 _ rfl (by omega);have x1:wr.cell? ⟨b1,o1+i*5+1,none⟩=some (.int .i64 c.s):=HCX.o wr HW.o 1 _ rfl (by omega);have x2:wr.cell? ⟨b1,o1+i*5+2,none⟩=some (.int .i64 c.st):=HCX.o wr HW.o 2 _ rfl (by omega);have x3:wr.cell? ⟨b1,o1+i*5+3,none⟩=some (.slice c.DA c.deps.length c.DC):=HCX.o wr HW.o 3 _ rfl (by omega);have x4:wr.cell? ⟨b1,o1+i*5+4,none⟩=some (.slice c.OA c.ops.length c.OC):=HCX.o wr HW.o 4 _ rfl (by omega);go_upto_region 5 with fail
   have hgl:gs<wr.heap.size:=HBM.o.blk.lt;have hb1l:b1<wr.heap.size:=by
    rcases vF b1 wr.heap.size with h|h
    ·exact h
    ·exfalso;unfold World.cell? at x0;rw[xR h]at x0;cases x0
   have KS:∀V:World,Below wr.heap.size wr V→V.cell? ⟨gs,0,none⟩=some (.slice AL nL cL)∧V.cell? ⟨b1,o1+i*5,none⟩=some (.int .i64 c.a)∧V.cell? ⟨b1,o1+i*5+1,none⟩=some (.int .i64 c.s)∧V.cell? ⟨b1,o1+i*5+2,none⟩=some (.int .i64 c.st)∧V.cell? ⟨b1,o1+i*5+3,none⟩=some (.slice c.DA c.deps.length c.DC)∧V.cell? ⟨b1,o1+i*5+4,none⟩=some (.slice c.OA c.ops.length c.OC)∧Below wr.heap.size wr V:=fun V hv=>by
    have e1:∀j,V.cell? ⟨gs,j,none⟩=wr.cell? ⟨gs,j,none⟩:=fun j=>sM (hv.block _ hgl)
    have e2:∀j,V.cell? ⟨b1,j,none⟩=wr.cell? ⟨b1,j,none⟩:=fun j=>sM (hv.block _ hb1l)
    rw[e1];simp only[e2];exact⟨s0,x0,x1,x2,x3,x4,hv⟩
   have HFD:Hid (∀V,Below wr.heap.size wr V→Calls Tryz.prog 26 #[.slice AL nL cL,.agg #[.int .i64 c.a,.int .i64 c.s]] V fun e w'=>∃i,e=.returned (.int .i64 i)∧FindI L c.rf i∧Below V.heap.size V w'):=fun V hv=>by
    have:=kL L c.rf (fun k=>k<V.heap.size) AL cL V (aA HLR.o hv) (fun _ h=>h) (by rw[HNL.o];omega)
    rw[HNL.o]at this;exact this
   go_region_held3 (fun w'=>w'.cell? ⟨gs,0,none⟩=some (.slice AL nL cL)∧w'.cell? ⟨b1,o1+i*5,none⟩=some (.int .i64 c.a)∧w'.cell? ⟨b1,o1+i*5+1,none⟩=some (.int .i64 c.s)∧w'.cell? ⟨b1,o1+i*5+2,none⟩=some (.int .i64 c.st)∧w'.cell? ⟨b1,o1+i*5+3,none⟩=some (.slice c.DA c.deps.length c.DC)∧w'.cell? ⟨b1,o1+i*5+4,none⟩=some (.slice c.OA c.ops.length c.OC)∧Below wr.heap.size wr w') (first|exact KS _ (sB _ wr).drew|exact q|go_keep)
    ((first
      |(go_at_call 27;refine(kK _ _ _ _ _ _ (by rfl) (by rfl) (by rfl)).mono ?_;rintro e w7 ⟨rfl,hb7⟩;have q:=KS w7 (by first|exact eJ q.2.2.2.2.2.2 (sC _) hb7|exact eJ (sB _ wr).drew (sC _) hb7))
      |(go_at_call 26;refine(HFD.o _ (by first|exact q.2.2.2.2.2.2|exact(sB _ wr).drew)).mono ?_;rintro e w7 ⟨fi,rfl,hfi,hb7⟩;have q:=KS w7 (by first|exact eJ q.2.2.2.2.2.2 (sC _) hb7|exact eJ (sB _ wr).drew (sC _) hb7))))
   have hb4:Below wr.heap.size wr w7:=q.2.2.2.2.2.2;have HB4:Hid (Below w.heap.size w w7):=HW.o.trans (hb4.mono HW.o.size);have HBM4:=Hi (HBM.o.below hb4);have HFM:=Hi (findI_mem hfi);clear q hfi hb4 KS HFD hgl hb1l HW HBM HLR s0 x0 x1 x2 x3 x4;generalize w7=w4 at HB4 HBM4 ⊢;have x0:w4.cell? ⟨b1,o1+i*5,none⟩=some (.int .i64 c.a):=HCX.o w4 HB4.o 0 _ rfl (by omega);have x1:w4.cell? ⟨b1,o1+i*5+1,none⟩=some (.int .i64 c.s):=HCX.o w4 HB4.o 1 _ rfl (by omega);have x2:w4.cell? ⟨b1,o1+i*5+2,none⟩=some (.int .i64 c.st):=HCX.o w4 HB4.o 2 _ rfl (by omega);have x3:w4.cell? ⟨b1,o1+i*5+3,none⟩=some (.slice c.DA c.deps.length c.DC):=HCX.o w4 HB4.o 3 _ rfl (by omega);have x4:w4.cell? ⟨b1,o1+i*5+4,none⟩=some (.slice c.OA c.ops.length c.OC):=HCX.o w4 HB4.o 4 _ rfl (by omega);have C3:=stake_any L [] c (fun k=>k<w.heap.size) F VL VW gs w4 HBM4.o HIN.o ((HL.o.each c HCM.o).keep fun k hk=>HB4.o.block k hk) (HV.o c HCM.o);unfold ChD.v at C3;go_wp2_with fail
   go_at_call 28;refine C3.mono ?_;rintro e w5 ⟨rfl,F',VL',VW',hbm5,hF5,hch5⟩;have HB5:Hid (Below w.heap.size w w5):=HB4.o.trans (hch5.below HB4.o.size HF.o);have HF5:Hid (∀k,F' k→w.heap.size≤k):=fun k hk=>(hF5 k hk).elim (HF.o k) fun h=>sR HB4.o.size h
   have HBM5:=Hi hbm5;have HTW:=Hi (take_one L c);clear C3 hbm5 hF5 hch5 HB4 HBM4 x0 x1 x2 x3 x4;obtain⟨te,hte⟩:∃k,(aV L [] c).2=k:=⟨_,rfl⟩
   have HTE:=Hi hte;rw[hte];clear hte;by_cases h8:te=8
   ·subst h8;have HE:Hid (dQ L c=8):=by show _=_;unfold dQ;rw[HTE.o];rfl
    have HR:Hid (aZ [] La=(8,L)):=by show _=_;rw[HP.o,HPD.o,HE.o];rfl
    clear HP HPD;go_wp2_with fail
    go_ret2;exact⟨.inr ⟨by rw[HR.o];simp,by rw[HR.o];rfl⟩,HB5.o⟩
   ·by_cases h0:te=0
    ·subst h0;have ht:=HTW.o.2 HTE.o;by_cases hm:c.rf∈aB L
     ·have HE:Hid (dQ L c=8):=by show _=_;unfold dQ;rw[HTE.o,if_neg (by decide),if_neg (by decide),if_pos hm]
      have HR:Hid (aZ [] La=(8,L)):=by show _=_;rw[HP.o,HPD.o,HE.o];rfl
      have hfi:decide (fi≥0)=true:=by rw[show decide (fi≥0)=decide (0≤fi) from rfl,HFM.o,decide_eq_true hm]
      clear HP HPD ht hm;go_wp2_with fail
      go_ret2;exact⟨.inr ⟨by rw[HR.o];simp,by rw[HR.o];rfl⟩,HB5.o⟩
     ·have hfi:decide (fi≥0)=false:=by rw[show decide (fi≥0)=decide (0≤fi) from rfl,HFM.o,decide_eq_false hm]
      obtain⟨AL5,cL5,AW5,cW5,hg5,-,-⟩:=HBM5.o.br
      have hnot:=ht.resolve_left fun h=>hm h.1
      rcases hnot.2 with h1|h1
      ·have HE:Hid (dQ L c=7):=by show _=_;unfold dQ;rw[HTE.o,if_neg (by decide),if_neg (by decide),if_neg hm,h1];simp
       have HR:Hid (aZ [] La=(7,L)):=by show _=_;rw[HP.o,HPD.o,HE.o];rfl
       rw[h1]at hg5;have s0:w5.cell? ⟨gs,0,none⟩=some (.slice AL5 nL cL5):=(by rw[←HNL.o];exact hg5.cell 0);have hne:i=nL:=by have:=HIL.o;have:=HNL.o;omega
       subst hne;clear HP HPD ht hm hnot h1 hg5;go_wp2_with fail
       go_ret2;exact⟨.inr ⟨by rw[HR.o];simp,by rw[HR.o];rfl⟩,HB5.o⟩
      ·have HE:Hid (dQ L c=0):=by show _=_;unfold dQ;rw[HTE.o,if_neg (by decide),if_neg (by decide),if_neg hm,h1];rfl
       have HI5:=Hi (book_inv HIN.o (HV.o c HCM.o) HE.o);have HP5:Hid (aZ [] La=aZ (L++[c]) (La.drop (i+1))):=by show _=_;rw[HP.o,HPD.o,HE.o];rfl
       rw[h1]at HBM5 hg5;have s0:w5.cell? ⟨gs,0,none⟩=some (.slice AL5 (nL+1) cL5):=by
        have:=hg5.cell 0
        simp only[sG,vY,HNL.o]at this;exact this
       have hne:i=nL:=by have:=HIL.o;have:=HNL.o;omega
       subst hne;have HIL5:Hid (i+1=(L++[c]).length):=by show _=_;rw[sG,vY,HNL.o]
       clear HP HPD ht hm hnot h1 hg5;go_wp2_with fail
       go_roundw
       case rel=>exact⟨i+1,F',L++[c],VL',VW',by go_num,by have:=HLT.o;omega,HIL5,HI5,HBM5,HF5,HP5,HB5⟩
       case measure=>have:=HLT.o;simp[intOf];omega
    ·have HE:Hid (dQ L c=7):=by show _=_;unfold dQ;rw[HTE.o,if_neg h8,if_pos h0]
     have HR:Hid (aZ [] La=(7,L)):=by show _=_;rw[HP.o,HPD.o,HE.o];rfl
     have e8:((te:Int) == 8)=false:=by simp;omega
     have e0:((te:Int) == 0)=false:=by simp;omega
     have e1:((te:Int) != 0)=true:=by simp;omega
     clear HP HPD;go_wp2_with fail
     go_ret2;exact⟨.inr ⟨by rw[HR.o];simp,by rw[HR.o];rfl⟩,HB5.o⟩
  ·have hLd:Hid (aZ [] La=(0,L)):=by
    show _=_;rw[HP.o,xE (by rw[HN.o];omega)];rfl
   have HBRF:=Hi HBM.o.brc;clear HP;go_wp2_with fail
   go_ret2;exact⟨.inl ⟨by rw[hLd.out],gs,rfl,by rw[hLd.out];exact HBRF.o,by rw[hLd.out];exact HIN.o⟩,HW.o⟩
end
section
theorem allOps_take{L:List ChD}{k:Nat}{c:ChD}(h:L[k]?=some c):aH (L.take (k+1))=aH (L.take k)++c.opsI:=by
 unfold aH;rw[sS,h,uM,uD];simp
theorem knownP_self(c:ChD):bX [c] [c.rf]=c.opsI:=by
 unfold bX;rw[uI (by simp)];simp
theorem allOps_len{L:List ChD}(h:∀c∈L,c.ops.length≤40):(aH L).length≤40*L.length:=by
 unfold aH;induction L with
 |nil=>simp
 |cons c L ih =>
  have ih:=ih (fun c hc=>h c (by simp[hc]));have hc:=h c (by simp);rw[tM,sG,sW,fV];omega
theorem ChsIn.single{D:Nat→Prop}{w:World}{L:List ChD}{b o k:Nat}{c:ChD}(h:∀j v,(bP L)[j]?=some v→w.cell? ⟨b,o+j,none⟩=some v)(hc:L[k]?=some c)(hb:D b)(hi:ChIn D w c):ChsIn D w (some ⟨b,o+k*5,none⟩) [c] where
 row:=⟨rfl,fun _=>⟨⟨b,o+k*5,none⟩,rfl,hb,fun j u hu=>by
  have hj:j<5:=by
   have:=(sF.1 hu).1
   exact this
  have h1:=aT (L:=[c]) (k:=0) (c:=c) rfl j hj;rw[xW,vE,hu]at h1;have h2:=h (k*5+j) u (by rw[aT hc j hj];exact h1.symm);rw[←tL]at h2;show w.cell? (Addr.add _ _)=_;rw[show(Addr.mk b (o+k*5) none).add j=⟨b,o+k*5+j,none⟩ from by simp[Addr.add]];exact h2⟩⟩
 each:=fun x hx=>by rw[sN.1 hx];exact hi
theorem slice_ch(b o n c k:Nat)(hk:k<n)(hc:n≤c)(w:World):
 (Instr.slice 22 (.slice (some ⟨b,o,none⟩) n c) (some (.int .i64 k)) (some (.int .i64 ((k:Int)+1))) none).run Tryz.prog w=.ok (.slice (some ⟨b,o+k*5,none⟩) 1 (c-k)) w:=by
 have u:=Tryz.underlying22;have h0:(0:Int)≤(k:Int):=by omega
 have h1:(k:Int)≤(k:Int)+1:=by omega
 have h2:(k:Int)+1≤(c:Int):=by omega
 have h3:((k:Int)+1).toNat-k=1:=by omega
 have h:¬c=k:=by omega
 go_simp
theorem sState_any(L:List ChD)(A:Option Addr)(cA:Nat)(w:World)(hL:ChsIn (fun k=>k<w.heap.size) w A L)(hok:∀c∈L,ChOk c)(hl:L.length≤120)(hcA:L.length≤cA)(hcm:cA≤9223372036854775807):
 Calls Tryz.prog 7 #[.slice A L.length cA,.slice none 0 0] w fun e w'=>∃v,e=.returned (.agg #[v])∧w'.ownsRow w.heap.size 90 15 v (aH L).length (cN (aH L))∧Below w.heap.size w w':=by
 obtain⟨n,hn⟩:∃n,L.length=n:=⟨_,rfl⟩
 have HN:=Hi hn;have HL:=Hi hL;have HOK:=Hi hok;rw[hn]at hl hcA ⊢;clear hn hL hok;go_enter Tryz.func7,Tryz.ntmps7;go_upto_region 3 with fail
 have HG:=Hi (Blk.new w 31 #[.slice none 0 0]);have HW0:Hid (Below w.heap.size w (w.alloc (.cells #[.slice none 0 0] 31))):=(sB _ w).alloc (sC _) _;generalize w.alloc (.cells #[.slice none 0 0] 31)=w1 at HG HW0 ⊢;obtain⟨g,hg⟩:∃g,w.heap.size=g:=⟨_,rfl⟩
 have HGS:=Hi hg;rw[hg]at HG HW0 ⊢;clear hg;go_loopw [5,6] (fun s5 s6 wr=>∃(k:Nat) (v5:Value),v5=s5∧s6=.int .i64 k∧k≤n∧Hid (wr.ownsRow (g+1) 90 15 v5 (aH (L.take k)).length (cN (aH (L.take k))))∧Hid (Blk wr g 31 #[.slice none 0 0])∧Hid (Below g w wr)) (fun _ s6 _=>n-(intOf s6).toNat)
 case atStart=>exact⟨0,_,rfl,rfl,by omega,by show World.ownsRow _ _ _ _ _ _ _;simpa[aH,cN] using bT _ _ _ _,HG,HW0⟩
 case round =>
  clear HG HW0;obtain⟨k,v5,rfl,rfl,hk,HO,HG,HB⟩:=hrel
  by_cases hlt:k<n
  ·obtain⟨c,hc⟩:∃c,L[k]?=some c:=⟨_,sD (by rw[HN.o];exact hlt)⟩
   have HT:=Hi (allOps_take hc);have HLB:=Hi (HL.o.below (by rw[HGS.o];exact HB.o));obtain⟨b1,o1,hA,hbl,hc1⟩:=HLB.o.row.at_ (by rw[HN.o];omega) (by omega)
   have HCM:=Hi (sJ hc);have hcl:=HOK.o c HCM.o;have HS1:=Hi (ChsIn.single hc1 hc hbl (HLB.o.each c HCM.o));have hlen:(aH (L.take k)).length≤40*k:=by
    have:=allOps_len (L:=L.take k) (fun c hc=>(HOK.o c (wV hc)).2.2.1)
    rw[tD]at this;omega
   have x0:wr.cell? ⟨b1,o1+k*5,none⟩=some (.int .i64 c.a):=hc1 _ _ (aT hc 0 (by omega));have x1:wr.cell? ⟨b1,o1+k*5+1,none⟩=some (.int .i64 c.s):=hc1 _ _ (aT hc 1 (by omega));have x2:wr.cell? ⟨b1,o1+k*5+2,none⟩=some (.int .i64 c.st):=hc1 _ _ (aT hc 2 (by omega));have x3:wr.cell? ⟨b1,o1+k*5+3,none⟩=some (.slice c.DA c.deps.length c.DC):=hc1 _ _ (aT hc 3 (by omega));have x4:wr.cell? ⟨b1,o1+k*5+4,none⟩=some (.slice c.OA c.ops.length c.OC):=hc1 _ _ (aT hc 4 (by omega));subst hA;have hsl:=slice_ch b1 o1 n cA k hlt hcA;have hwr:IntKind.i64.wrap ((k:Int)+1)=(k:Int)+1:=uG _ (by omega);clear hc hbl hc1;go_upto_region 5 with fail
   have HOPS:Hid (∀(V:World) (B:Nat),Below wr.heap.size wr V→aC (fun k=>k<V.heap.size) V 2 (some ⟨B,0,none⟩) 1 (aE [c.rf])→Calls Tryz.prog 29 #[.slice (some ⟨b1,o1+k*5,none⟩) 1 (cA-k),.slice (some ⟨B,0,none⟩) 1 1] V fun e w'=>∃v,e=.returned v∧w'.ownsRow V.heap.size 90 15 v c.opsI.length (cN c.opsI)∧Below V.heap.size V w'):=fun V B hv hr=>by
    have:=sOps_any [c] [c.rf] (some ⟨b1,o1+k*5,none⟩) (cA-k) (some ⟨B,0,none⟩) 1 V (HS1.o.below hv) hr (fun x hx=>by rw[sN.1 hx];exact hcl) (by simp) (by simp)
    rw[knownP_self]at this;exact this
   refine wp_region_any (by kernel_rfl) ?_;change wpAny _ _ _ _ _ _ _ (World.drew _);refine wpAny_take (i:=0) (v:=?_) rfl (by kernel_rfl) (by kernel_rfl) (by kernel_rfl) (fun _ _ _ h=>h) (Or.inl ⟨by rfl,?_⟩) ?_
   rotate_left
   ·(intro w;go_simp;try with_reducible rfl)
   try simp only[Act.put,zA,zB,zC]
   refine wpAny_take (i:=1) (v:=?_) rfl (by kernel_rfl) (by kernel_rfl) (by kernel_rfl) (fun _ _ _ h=>h) (Or.inl ⟨by rfl,?_⟩) ?_
   rotate_left
   ·(intro w;go_simp;try with_reducible rfl)
   try simp only[Act.put,zA,zB,zC]
   refine wpAny_take (i:=2) (v:=?_) rfl (by kernel_rfl) (by kernel_rfl) (by kernel_rfl) (fun _ _ _ h=>h) (Or.inl ⟨by rfl,?_⟩) ?_
   rotate_left
   ·(intro w;go_simp;try with_reducible rfl)
   try simp only[Act.put,zA,zB,zC]
   refine wpAny_take (i:=3) (v:=?_) rfl (by kernel_rfl) (by kernel_rfl) (by kernel_rfl) (fun _ _ _ h=>h) (Or.inl ⟨by rfl,?_⟩) ?_
   rotate_left
   ·(intro w;go_simp;try with_reducible rfl)
   try simp only[Act.put,zA,zB,zC]
   refine wpAny_take (i:=4) (v:=?_) rfl (by kernel_rfl) (by kernel_rfl) (by kernel_rfl) (fun _ _ _ h=>h) (Or.inl ⟨by rfl,?_⟩) ?_
   rotate_left
   ·(intro w;go_simp;try with_reducible rfl)
   try simp only[Act.put,zA,zB,zC]
   refine wpAny_take (i:=5) (v:=?_) rfl (by kernel_rfl) (by kernel_rfl) (by kernel_rfl) (fun _ _ _ h=>h) (Or.inl ⟨by rfl,?_⟩) ?_
   rotate_left
   ·(intro w;go_simp;try with_reducible rfl)
   try simp only[Act.put,zA,zB,zC]
   refine wpAny_take (i:=6) (v:=?_) rfl (by kernel_rfl) (by kernel_rfl) (by kernel_rfl) (fun _ _ _ h=>h) (Or.inl ⟨by rfl,?_⟩) ?_
   rotate_left
   ·(intro w;go_simp;try with_reducible rfl)
   try simp only[Act.put,zA,zB,zC]
   refine wpAny_take (i:=7) (v:=?_) rfl (by kernel_rfl) (by kernel_rfl) (by kernel_rfl) (fun _ _ _ h=>h) (Or.inl ⟨by rfl,?_⟩) ?_
   rotate_left
   ·(intro w;go_simp;try with_reducible rfl)
   try simp only[Act.put,zA,zB,zC]
   refine wpAny_take (i:=8) (v:=?_) rfl (by kernel_rfl) (by kernel_rfl) (by kernel_rfl) (fun _ _ _ h=>h) (Or.inl ⟨by rfl,?_⟩) ?_
   rotate_left
   ·(intro w;go_simp;try with_reducible rfl)
   try simp only[Act.put,zA,zB,zC]
   refine wpAny_ready (rs:=[9]) (by kernel_rfl) (by simp) ?_;refine sU rfl (fun K hK=>?_) tC;go_simp;refine hK _ _ ?_;clear hK K;try simp only[Act.put,zA,zB,zC]
   refine wpAny_ready (rs:=[10]) (by kernel_rfl) (by simp) ?_;refine sU rfl (fun K hK=>?_) tC;go_simp;refine(kK _ _ _ _ _ _ (by rfl) (by rfl) (by rfl)).mono ?_
   rintro e w2 ⟨rfl,hb2⟩;refine hK _ _ ?_;clear hK K;try simp only[Act.put,zA,zB,zC]
   have hb2':Below wr.heap.size wr w2:=eJ (sB _ wr).drew (sC _) hb2;have HB2:=Hi hb2';clear hb2 hb2' x0 x1 x2 x3 x4;refine wpAny_ready (rs:=[11]) (by kernel_rfl) (by simp) ?_;refine sU rfl (fun K hK=>?_) tC;go_simp;refine hK _ _ ?_;clear hK K;try simp only[Act.put,zA,zB,zC]
   have hA:Below wr.heap.size wr (w2.alloc (.cells #[.int .i64 c.a,.int .i64 c.s] 77)):=HB2.o.alloc HB2.o.size _;have hR:aC (fun k=>k<(w2.alloc (.cells #[.int .i64 c.a,.int .i64 c.s] 77)).heap.size) (w2.alloc (.cells #[.int .i64 c.a,.int .i64 c.s] 77)) 2 (some ⟨w2.heap.size,0,none⟩) 1 (aE [c.rf]):=(cJ (Blk.new w2 77 #[.int .i64 c.a,.int .i64 c.s]) (n:=2) rfl).more fun x hx=>by rw[hx,World.size_alloc];exact Nat.lt_succ_self _
   refine wpAny_ready (rs:=[12]) (by kernel_rfl) (by simp) ?_;refine sU rfl (fun K hK=>?_) tC;go_simp;refine(HOPS.o _ _ hA hR).mono ?_
   rintro e w3 ⟨v3,rfl,ho3,hb3⟩;refine hK _ _ ?_;clear hK K;try simp only[Act.put,zA,zB,zC]
   obtain⟨A3,c3,rfl,-,-,hr3⟩:=aC.of_own ho3
   have hB3:Below wr.heap.size wr w3:=eJ hA (sC _) hb3;have HO3:=Hi (aS HO.o hB3);obtain⟨i0,hi,hz0,hz1,hz2⟩:=info_parts infoO
   have hgl:g<wr.heap.size:=HG.o.lt;have hg3:g<w3.heap.size:=sE hgl hB3.size;have hol:c.opsI.length≤40:=by rw[fV];exact hcl.2.2.1
   refine wpAny_ready (rs:=[13]) (by kernel_rfl) (by simp) ?_;refine sU rfl (fun K hK=>?_) tC;refine bN _ (by rfl) (.tmp 13) (.tmp 25) 29 (by rfl) (g+1) 90 i0 _ 15 152 Tryz.underlying29 hi hz0 hz1 hz2 rfl (by omega) v5 (aH (L.take k)).length (cN (aH (L.take k))) (by rfl) HO3.o _ A3 c.opsI.length c3 (cN c.opsI) (by rfl) hr3 (qS _) (by simp only[maxLen];omega) (by omega) (by omega) ?_;intro v9 w9 ho9 hg9 hat9;refine hK _ _ ?_;clear hK K;try simp only[Act.put,zA,zB,zC]
   refine wpAny_ready (rs:=[14]) (by kernel_rfl) (by simp) ?_;refine sU rfl (fun K hK=>?_) tC;go_simp;refine hK _ _ ?_;clear hK K;try simp only[Act.put,zA,zB,zC]
   refine wpAny_done (by kernel_rfl) ?_ _;have hneg:v5.ownBlock≠some g:=fun e=>by have:=(aF HO3.o e).1;omega
   have HO9:Hid (w9.ownsRow (g+1) 90 15 v9 (aH (L.take (k+1))).length (cN (aH (L.take (k+1))))):=by
    show World.ownsRow _ _ _ _ _ _ _;rw[HT.o,sG,kZ];exact ho9
   have HB9:Hid (Below g w w9):=(HB.o.trans (hB3.mono (xX hgl))).grown hg9 (xX hg3) (fun j hj=>Nat.le_of_succ_le (aF HO3.o hj).1);have HG9:Hid (Blk w9 g 31 #[.slice none 0 0]):=(HG.o.keep (hB3.block _ hgl)).grown hg9 hneg;clear hneg ho9 hg9 hat9 hb3 ho3 hr3 hB3 HO3 HO HG HB hA hR HOPS HB2 HS1 hsl hol hi hz0 hz1 hz2;go_wp2_with fail
   go_roundw
   case rel=>exact⟨k+1,v9,rfl,by go_num,hlt,HO9,HG9,HB9⟩
   case measure=>simp[intOf];omega
  ·have HK:Hid (aH (L.take k)=aH L):=by show _=_;rw[sL (by rw[HN.o];omega)]
   rw[HK.o]at HO;have c0:=cZ HG.o 0 rfl;have f0:=HG.o.frozen 0;have hgl:g<wr.heap.size:=HG.o.lt;have hlen:(aH L).length≤40*120:=by
    have:=allOps_len (L:=L) (fun c hc=>(HOK.o c hc).2.2.1)
    have:=HN.o
    omega
   obtain⟨i0,hi,hz0,hz1,hz2⟩:=info_parts infoO
   go_wp2_with (at_builtin;refine aG _ rfl (.tmp 27) (.tmp 28) _ rfl (g+1) 90 i0 _ 15 152 Tryz.underlying29 hi hz0 hz1 hz2 rfl (by omega) (v5) ((aH L).length) (cN (aH L)) rfl (HO.o) _ (none) (0) (0) ([]) rfl (aC.none_ (D:=fun _=>False)) ((fun u hu=>by cases hu)) ?c1 ?c2 ?c3 ?_)
   case c1=>simp only[maxLen];omega
   case c2=>omega
   case c3=>omega
   intro v9 w9 ho9 hg9 hat9;have hneg:v5.ownBlock≠some g:=fun e=>by have:=(aF HO.o e).1;omega
   have HG9:Hid (Blk w9 g 31 #[.slice none 0 0]):=HG.o.grown hg9 hneg;have HB9:Hid (Below g w w9):=HB.o.grown hg9 (xX hgl) (fun j hj=>Nat.le_of_succ_le (aF HO.o hj).1);have HO9:Hid (w9.ownsRow (g+1) 90 15 v9 (aH L).length (cN (aH L))):=by
    show World.ownsRow _ _ _ _ _ _ _;simpa using ho9
   obtain⟨A9,c9,e9,-,-,-⟩:=aC.of_own HO9.o
   subst e9;have c1:=cZ HG9.o 0 rfl;have f1:=HG9.o.frozen 0;clear c0 f0 hneg ho9 hg9 hat9 HO HG HB hi hz0 hz1 hz2;go_wp2_with fail
   refine bodyPost_ret (results_cell_row rfl _ _ g _ _ _ _ rfl (HG9.o.set_ 0 (.slice A9 (aH L).length c9)) Tryz.underlying31 rfl (by kernel_rfl)) rfl ?_;rw[HGS.o];refine⟨_,rfl,bU (aU HO9.o fun k hk=>sZ _ _ _ k fun e=>?_) fun k hk=>Nat.le_of_succ_le (aF HO9.o hk).1,HB9.o.setCell (p:=⟨g,0,none⟩) (sC _) _⟩
   have h1:=(aF HO9.o hk).1;have h2:k=g:=e;omega
end
section
theorem info_Op13:(Tryz.prog.info? 88).map (·.size)=some 13:=by kernel_rfl
theorem build_id0(w:World):(Instr.build 24 #[]).run Tryz.prog w=.ok (.agg #[.int .i64 0,.int .i64 0]) w:=by kernel_rfl
theorem build_state(a b c d:Option Nat)(w:World):(Instr.build 100 #[(0,.map a),(1,.map b),(2,.map c),(3,.map d)]).run Tryz.prog w=.ok (.agg #[.map a,.map b,.map c,.map d]) w:=by kernel_rfl
theorem SMem.start{w w2:World}(hm:aI w2 24 w.heap.size ([]++[(bB (0,0),.int .i64 5)]))(ht:(w.alloc (.map #[] 0)).mapTurned w2 w.heap.size):
 SMem w.heap.size ((((w2.alloc (.map #[] 0)).alloc (.map #[] 0)).alloc (.map #[] 0)).alloc (.cells #[.map (some w.heap.size),.map (some (w.heap.size+1)),.map (some (w.heap.size+1+1)),.map (some (w.heap.size+1+1+1))] 100)) (w.heap.size+1+1+1+1) w.heap.size (w.heap.size+1) (w.heap.size+1+1) (w.heap.size+1+1+1) [] [] [] ∧
  Below w.heap.size w ((((w2.alloc (.map #[] 0)).alloc (.map #[] 0)).alloc (.map #[] 0)).alloc (.cells #[.map (some w.heap.size),.map (some (w.heap.size+1)),.map (some (w.heap.size+1+1)),.map (some (w.heap.size+1+1+1))] 100)):=by
 have hs:w2.heap.size=w.heap.size+1:=by rw[eE ht,World.size_alloc]
 have hb0:Below w.heap.size w (w.alloc (.map #[] 0)):=(sB _ w).alloc (sC _) _;have hb2:Below w.heap.size w w2:=hb0.grown ht.grown (by simp) (fun j hj=>by cases hj;exact sC _);have m1:=aI.made w2 126;have m2:=aI.made (w2.alloc (.map #[] 0)) 126;have m3:=aI.made ((w2.alloc (.map #[] 0)).alloc (.map #[] 0)) 24;have b4:=Blk.new (((w2.alloc (.map #[] 0)).alloc (.map #[] 0)).alloc (.map #[] 0)) 100 #[.map (some w.heap.size),.map (some (w.heap.size+1)),.map (some (w.heap.size+1+1)),.map (some (w.heap.size+1+1+1))];simp only[World.size_alloc,hs]at m2 m3 b4;rw[hs]at m1;have k:∀(U:World) (o:Obj) (i:Nat),i<U.heap.size→(U.alloc o).heap[i]?=U.heap[i]?:=fun U o i hi=>sO U o i hi
 have kk:∀i,i<w2.heap.size→((((w2.alloc (.map #[] 0)).alloc (.map #[] 0)).alloc (.map #[] 0)).alloc (.cells #[.map (some w.heap.size),.map (some (w.heap.size+1)),.map (some (w.heap.size+1+1)),.map (some (w.heap.size+1+1+1))] 100)).heap[i]?=w2.heap[i]?:=fun i hi=>by
  rw[k _ _ _ (by simp;omega),k _ _ _ (by simp;omega),k _ _ _ (by simp;omega),k _ _ _ hi]
 refine⟨⟨b4,hm.keep (kk _ hm.lt),?_,(fun x hx=>by cases hx),rfl,?_,(fun x hx=>by cases hx),rfl,?_,fun i hi=>?_,?_⟩,?_⟩
 ·exact m1.keep (by rw[k _ _ _ (by simp;omega),k _ _ _ (by simp;omega),k _ _ _ (by simp;omega)])
 ·exact m2.keep (by rw[k _ _ _ (by simp;omega),k _ _ _ (by simp;omega)])
 ·exact m3.keep (by rw[k _ _ _ (by simp;omega)])
 ·simp[dL,jI]at hi;omega
 ·simp[dL,jI];omega
 ·exact⟨hb2.os,hb2.tape,hb2.output,by simp;omega,fun i hi=>(kk i (by omega)).trans (hb2.block i hi)⟩
theorem SMem.blk_ne{B:Nat}{w:World}{g kb vb cb lb:Nat}{K:List OpI}{V:dM}{C:dE}(h:SMem B w g kb vb cb lb K V C){q:Nat}{t:TypeId}{cs:Array Value}(hq:Blk w q t cs)(h1:t≠100)(h2:t≠24):¬q∈dL g kb vb cb lb V C:=by
 have hm:∀ {k:TypeId} {l:List (Value×Value)},aI w k q l→False:=fun hm=>aI.no_cells hm _ _ hq
 intro hk;rcases aN.1 hk with e|e|e|e|e|⟨x,hx,e⟩|⟨x,hx,e⟩
 ·have h3:=h.blk;rw[←e]at h3;unfold Blk at h3 hq;rw[h3]at hq;injection hq with hq
  injection hq with _ hq
  exact h1 hq.symm
 ·exact hm (e▸h.kinds)
 ·exact hm (e▸h.vals)
 ·exact hm (e▸h.kids)
 ·exact hm (e▸h.lists)
 ·exact hm (e▸h.each x hx)
 ·exact eT (h.row x hx) hq (Ne.symm h2) e
theorem SMem.below{B:Nat}{w w':World}{g kb vb cb lb:Nat}{K:List OpI}{V:dM}{C:dE}(h:SMem B w g kb vb cb lb K V C)(hb:Below w.heap.size w w'):SMem B w' g kb vb cb lb K V C:=(h.sg.below hb).smem h.isV h.isC
theorem SMem.drew_{B:Nat}{w:World}{g kb vb cb lb:Nat}{K:List OpI}{V:dM}{C:dE}(h:SMem B w g kb vb cb lb K V C):SMem B w.drew g kb vb cb lb K V C:=(h.sg.drew).smem h.isV h.isC
theorem opsC_range{w:World}{D:Nat→Prop}{A:Option Addr}{n:Nat}{l:List OpD}(h:aC D w 13 A n (gY l))(hn:0<n):∃b o,A=some ⟨b,o,none⟩∧D b∧∀(i:Nat) (x:OpD),l[i]?=some x→∀V:World,V.heap[b]?=w.heap[b]?→V.rangeAt b (o+i*13) [.int .i64 x.k,.int .i64 x.on,.int .i64 x.oa,.string x.key,.int .i64 x.en,.int .i64 x.ea,.bool x.ins,.int .i64 x.vk,.int .i64 x.vn,.string x.vt,.int .i64 x.va,.int .i64 x.vb,.slice x.A x.l.length x.c]:=by
 obtain⟨b,o,rfl,hb,hc⟩:=h.at_ hn (by omega)
 refine⟨b,o,rfl,hb,fun i x hx V hv j u hj=>?_⟩
 have hj13:j<13:=(sF.1 hj).1;have h1:=bR hx j hj13;have h2:(opC x)[j]?=some u:=hj;rw[h2]at h1;have h3:=hc _ _ h1;rw[←tL]at h3;exact(sM hv).trans h3
theorem stNew_any(L:List ChD)(A:Option Addr)(cA:Nat)(w:World)(hL:ChsIn (fun k=>k<w.heap.size) w A L)(hb:Bk L)(hl:L.length≤120):
 Calls Tryz.prog 58 #[.slice A L.length cA] w fun e w'=>∃g kb vb cb lb V C,e=.returned (.pointer (some ⟨g,0,none⟩))∧SMem w.heap.size w' g kb vb cb lb (aH L) V C∧Below w.heap.size w w':=by
 obtain⟨n,hn⟩:∃n,L.length=n:=⟨_,rfl⟩
 have HN:=Hi hn;have HL:=Hi hL;have HBK:=Hi hb;rw[hn]at hl ⊢;have hst:∃w',(Instr.mapUpdate 95 (.map (some w.heap.size)) (bB (0,0)) (.int .i64 5)).run Tryz.prog (w.alloc (.map #[] 0))=.ok () w'∧(aI w' 24 w.heap.size ([]++[(bB (0,0),.int .i64 5)])∧(w.alloc (.map #[] 0)).mapTurned w' w.heap.size):=by
  obtain⟨kl,hkl⟩:=gU (r:=(0,0)) ⟨by omega,by omega⟩
  exact aI.store (v:=.int .i64 5) (aI.made w 24) dW Tryz.underlying95 (by simp[maxLen]) hkl (fun p hp=>by cases hp)
 have hmm:∀(t:TypeId) (w:World),(Instr.makeMap t none).run Tryz.prog w=.ok (.map (some w.heap.size)) (w.alloc (.map #[] 0)):=fun _ _=>rfl
 have hz:=fun w=>build_id0 w
 have hbs:=fun a b c d w=>build_state a b c d w
 clear hn hL hb;go_enter Tryz.func58,Tryz.ntmps58;go_upto_region 3 with(refine dB _ rfl (.tmp 8) (.tmp 9) (.const (.int .i64 5)) 95 (.inr rfl) w.heap.size (bB (0,0)) (.int .i64 5) rfl rfl rfl _ hst ?_;rintro w2 ⟨hm2,ht2⟩;have hs2:w2.heap.size=w.heap.size+1:=by rw[eE ht2,World.size_alloc])
 obtain⟨hS,hB⟩:=SMem.start hm2 ht2
 have HS:=Hi hS;have HB:=Hi hB;clear hm2 ht2 hs2 hmm hz hbs hst hS hB;generalize (((w2.alloc (.map #[] 0)).alloc (.map #[] 0)).alloc (.map #[] 0)).alloc (.cells #[.map (some w.heap.size),.map (some (w.heap.size+1)),.map (some (w.heap.size+1+1)),.map (some (w.heap.size+1+1+1))] 100)=w3 at HS HB ⊢;obtain⟨h,hh⟩:∃h,w.heap.size=h:=⟨_,rfl⟩
 have HH:=Hi hh;rw[hh]at HS HB ⊢;clear hh;generalize h+1+1+1+1=g at HS ⊢;generalize h+1+1+1=lb at HS ⊢;generalize h+1+1=cb at HS ⊢;generalize h+1=vb at HS ⊢;go_loopw [5,6,7,18,25] (fun _ _ _ s18 _ wr=>∃(i:Nat) (V:dM) (C:dE),s18=.int .i64 i∧i≤n∧Hid (SMem h wr g h vb cb lb (aH (L.take i)) V C)∧Hid (Below h w wr)) (fun _ _ _ s18 _ _=>n-(intOf s18).toNat)
 case atStart=>exact⟨0,[],[],rfl,by omega,HS,HB⟩
 case round =>
  clear HS HB;obtain⟨i,V,C,rfl,hi,HS,HB⟩:=hrel
  by_cases hlt:i<n
  ·obtain⟨c,hc⟩:∃c,L[i]?=some c:=⟨_,sD (by rw[HN.o];exact hlt)⟩
   have HT:=Hi (allOps_take hc);have HLB:=Hi (HL.o.below (by rw[HH.o];exact HB.o));obtain⟨b1,o1,hA,hbl,hc1⟩:=HLB.o.row.at_ (by rw[HN.o];omega) (by omega)
   have HCM:=Hi (sJ hc);have hce:=(HBK.o.err c HCM.o).1;have hok:=fS hce;unfold ChOk at hok;have HCE:=Hi hce;have HCI:Hid (ChIn (fun k=>k<h) w c):=by have:=HL.o.each c HCM.o;rw[HH.o]at this;exact this
   have x0:wr.cell? ⟨b1,o1+i*5,none⟩=some (.int .i64 c.a):=hc1 _ _ (aT hc 0 (by omega));have x1:wr.cell? ⟨b1,o1+i*5+1,none⟩=some (.int .i64 c.s):=hc1 _ _ (aT hc 1 (by omega));have x2:wr.cell? ⟨b1,o1+i*5+2,none⟩=some (.int .i64 c.st):=hc1 _ _ (aT hc 2 (by omega));have x3:wr.cell? ⟨b1,o1+i*5+3,none⟩=some (.slice c.DA c.deps.length c.DC):=hc1 _ _ (aT hc 3 (by omega));have x4:wr.cell? ⟨b1,o1+i*5+4,none⟩=some (.slice c.OA c.ops.length c.OC):=hc1 _ _ (aT hc 4 (by omega));obtain⟨m,hm⟩:∃m,c.ops.length=m:=⟨_,rfl⟩
   obtain⟨OA,hOA⟩:∃m,c.OA=m:=⟨_,rfl⟩
   have HM:=Hi hm;have HRO:Hid (aC (fun k=>k<h) w 13 OA m (gY c.ops)):=by have:=HCI.o.ho;rw[hm,hOA]at this;exact this
   have HLE:Hid ((aH (L.take i)).length≤4800):=by
    have h1:=HBK.o.lenOps;have h2:(aH (L.take i)).length≤(aH L).length:=by
     conv=>rhs;rw[←uE i L]
     rw[fA,sG];omega
    have h3:=HN.o;show _≤_;omega
   rw[hm]at hok;rw[hm,hOA]at x4;obtain⟨cst,hcst⟩:∃z,c.st=z:=⟨_,rfl⟩
   obtain⟨ca,hca⟩:∃z,c.a=z:=⟨_,rfl⟩
   have HCST:=Hi hcst;have HCA:=Hi hca;rw[hcst]at x2 hok;rw[hca]at x0;subst hA;clear hc hbl hc1 hce hm hOA hcst hca;go_upto_region 5 with fail
   have HQ:=Hi (Blk.new wr 82 #[.int .i64 ca,.int .i64 c.s,.int .i64 cst,.slice c.DA c.deps.length c.DC,.slice OA m c.OC]);have hba:Below wr.heap.size wr (wr.alloc (.cells #[.int .i64 ca,.int .i64 c.s,.int .i64 cst,.slice c.DA c.deps.length c.DC,.slice OA m c.OC] 82)):=(sB _ wr).alloc (sC _) _;have HSa:=Hi (HS.o.below hba);have HBa:Hid (Below h w (wr.alloc (.cells #[.int .i64 ca,.int .i64 c.s,.int .i64 cst,.slice c.DA c.deps.length c.DC,.slice OA m c.OC] 82))):=HB.o.trans (hba.mono (by have h1:=HS.o.blk.lt;have h2:=HS.o.low g (by simp[dL]);omega));clear x0 x1 x2 x3 x4 hba HS HB;generalize wr.alloc (.cells #[.int .i64 ca,.int .i64 c.s,.int .i64 cst,.slice c.DA c.deps.length c.DC,.slice OA m c.OC] 82)=wa at HQ HSa HBa ⊢;generalize wr.heap.size=qc at HQ ⊢;have x4:=cZ HQ.o 4 rfl;go_upto_region 6 with fail
   clear x4;go_loopw [6,7,25] (fun _ _ s25 wr=>∃(j:Nat) (V:dM) (C:dE),s25=.int .i64 j∧j≤m∧Hid (SMem h wr g h vb cb lb (aH (L.take i)++c.opsI.take j) V C)∧Hid (Blk wr qc 82 #[.int .i64 ca,.int .i64 c.s,.int .i64 cst,.slice c.DA c.deps.length c.DC,.slice OA m c.OC])∧Hid (Below h w wr)) (fun _ _ s25 _=>m-(intOf s25).toNat)
   case atStart=>exact⟨0,V,C,rfl,by omega,(by rw[tG,uL];exact HSa),HQ,HBa⟩
   case round =>
    clear HSa HQ HBa;obtain⟨j,V,C,rfl,hj,HS,HQ,HB⟩:=hrel
    by_cases hjl:j<m
    ·obtain⟨o,ho⟩:∃o,c.ops[j]?=some o:=⟨_,sD (by rw[HM.o];exact hjl)⟩
     obtain⟨bo,oo,rfl,hbo,hrg⟩:=opsC_range HRO.o (by omega)
     have HRG:=Hi (hrg j o ho wr (HB.o.block _ hbo));have HOI:Hid (c.opsI[j]?=some (o,(cst+j,ca))):=by show _=_;rw[←HCST.o,←HCA.o];exact iD _ _ _ _ _ ho
     have HOM:=Hi (sJ ho);have hnum:=HBK.o.num (o,(cst+j,ca)) (iI.2 ⟨c,HCM.o,sJ HOI.o⟩);simp only at hnum;have HNUM:=Hi hnum;have hw1:IntKind.i64.wrap (cst+(j:Int))=cst+j:=uG _ (by omega);clear ho hbo hrg;go_upto_region 8 with(refine wpList_load_mid rfl 88 (.tmp 28) rfl bo (oo+j*13) rfl [.int .i64 o.k,.int .i64 o.on,.int .i64 o.oa,.string o.key,.int .i64 o.en,.int .i64 o.ea,.bool o.ins,.int .i64 o.vk,.int .i64 o.vn,.string o.vt,.int .i64 o.va,.int .i64 o.vb,.slice o.A o.l.length o.c] _ HRG.o Tryz.underlying88 rfl info_Op13 ?_)
     have hba:Below wr.heap.size wr (wr.alloc (.cells #[.int .i64 o.k,.int .i64 o.on,.int .i64 o.oa,.string o.key,.int .i64 o.en,.int .i64 o.ea,.bool o.ins,.int .i64 o.vk,.int .i64 o.vn,.string o.vt,.int .i64 o.va,.int .i64 o.vb,.slice o.A o.l.length o.c] 88)):=(sB _ wr).alloc (sC _) _;have HO:Hid (Blk (wr.alloc (.cells #[.int .i64 o.k,.int .i64 o.on,.int .i64 o.oa,.string o.key,.int .i64 o.en,.int .i64 o.ea,.bool o.ins,.int .i64 o.vk,.int .i64 o.vn,.string o.vt,.int .i64 o.va,.int .i64 o.vb,.slice o.A o.l.length o.c] 88)) wr.heap.size 88 [.int .i64 o.k,.int .i64 o.on,.int .i64 o.oa,.string o.key,.int .i64 o.en,.int .i64 o.ea,.bool o.ins,.int .i64 o.vk,.int .i64 o.vn,.string o.vt,.int .i64 o.va,.int .i64 o.vb,.slice o.A o.l.length o.c].toArray):=Blk.new wr 88 #[.int .i64 o.k,.int .i64 o.on,.int .i64 o.oa,.string o.key,.int .i64 o.en,.int .i64 o.ea,.bool o.ins,.int .i64 o.vk,.int .i64 o.vn,.string o.vt,.int .i64 o.va,.int .i64 o.vb,.slice o.A o.l.length o.c];have HSa:=Hi (HS.o.below hba);have HQa:=Hi (HQ.o.keep (hba.block _ HQ.o.lt));have HBa:Hid (Below h w (wr.alloc (.cells #[.int .i64 o.k,.int .i64 o.on,.int .i64 o.oa,.string o.key,.int .i64 o.en,.int .i64 o.ea,.bool o.ins,.int .i64 o.vk,.int .i64 o.vn,.string o.vt,.int .i64 o.va,.int .i64 o.vb,.slice o.A o.l.length o.c] 88))):=HB.o.trans (hba.mono (by have h1:=HS.o.blk.lt;have h2:=HS.o.low g (by simp[dL]);omega));clear hba HS HQ HB HRG;generalize wr.alloc (.cells #[.int .i64 o.k,.int .i64 o.on,.int .i64 o.oa,.string o.key,.int .i64 o.en,.int .i64 o.ea,.bool o.ins,.int .i64 o.vk,.int .i64 o.vn,.string o.vt,.int .i64 o.va,.int .i64 o.vb,.slice o.A o.l.length o.c] 88)=wa at HO HSa HQa HBa ⊢;generalize wr.heap.size=qo at HO ⊢;have hoe:fC o=0:=mV HCE.o o HOM.o;have hp:=HCI.o.hp o HOM.o;have hids:=opE_ids hoe;have hsz:=qT hoe;have hnd:((aH (L.take i)++(c.opsI++aH (L.drop (i+1)))).map Prod.snd).Nodup:=by
      have h1:=HBK.o.ids;have h2:L.flatMap ChD.opsI=aH (L.take i)++(c.opsI++aH (L.drop (i+1))):=by
       rw[←sX,←HT.o,←fA,uE];rfl
      rw[h2]at h1;exact h1
     have hlen:(aH (L.take i)++c.opsI.take j).length≤100000:=by
      have h1:=HLE.o;have h2:(c.opsI.take j).length≤40:=by rw[tD,qR,HM.o];omega
      rw[sG];omega
     have hnew:(cst+(j:Int),ca)∉(aH (L.take i)++c.opsI.take j).map Prod.snd:=fun hm=>by
      obtain⟨y,hy,e⟩:=sH.1 hm
      exact next_new hnd HOI.o y hy e
     have hk:DoOk h wa (aH (L.take i)++c.opsI.take j) (o,(cst+j,ca)) :=
      ⟨hp.1.keep fun k hk=>HBa.o.block k hk,by show o.l.length≤_;omega,hnew,by intro e;have:=congrArg Prod.snd e;simp only at this;omega,⟨by show _≤cst+(j:Int)∧cst+(j:Int)≤_;omega,by show _≤ca∧ca≤_;omega⟩,hids.1,hids.2.1,hids.2.2,by show o.key.size≤_;simp only[maxLen];omega,hlen⟩
     have C1:=stDo_any (o,(cst+j,ca)) wa HSa.o hk;unfold opV at C1;have q0:=cZ HQa.o 0 rfl;have q2:=cZ HQa.o 2 rfl;clear hk hnew hlen hnd hsz hids hp hoe hnum;go_wp2_with (refine wpList_load_mid rfl 88 (.tmp 7) rfl qo 0 rfl [.int .i64 o.k,.int .i64 o.on,.int .i64 o.oa,.string o.key,.int .i64 o.en,.int .i64 o.ea,.bool o.ins,.int .i64 o.vk,.int .i64 o.vn,.string o.vt,.int .i64 o.va,.int .i64 o.vb,.slice o.A o.l.length o.c] _ (Blk.range HO.o) Tryz.underlying88 rfl info_Op13 ?_)
     go_at_call 86;refine C1.mono ?_;rintro e w5 ⟨rfl,V',C',hs5,hb5,hch⟩;have HQ5:=Hi (HQa.o.keep (hch.block _ HQa.o.lt (HSa.o.blk_ne HQa.o (by decide) (by decide))));have HB5:Hid (Below h w w5):=HBa.o.trans hb5;have HS5:Hid (SMem h w5 g h vb cb lb (aH (L.take i)++c.opsI.take (j+1)) V' C'):=by
      show SMem _ _ _ _ _ _ _ _ _ _;rw[sS,HOI.o,←sX];exact hs5
     clear C1 hs5 hb5 hch q0 q2 HO HSa HQa HBa;go_wp2_with fail
     go_roundw
     case rel=>exact⟨j+1,V',C',by go_num,hjl,HS5,HQ5,HB5⟩
     case measure=>simp[intOf];omega
    ·have HS5:Hid (SMem h wr g h vb cb lb (aH (L.take (i+1))) V C):=by
      have h1:=HS.o;rw[show c.opsI.take j=c.opsI from sL (by rw[qR,HM.o];omega),←HT.o]at h1;exact h1
     clear HS HQ;go_wp2_with fail
     go_roundw
     case rel=>exact⟨i+1,V,C,by go_num,hlt,HS5,HB⟩
     case measure=>simp[intOf];omega
  ·have HF:Hid (SMem h wr g h vb cb lb (aH L) V C):=by
    have h1:=HS.o;rw[sL (by rw[HN.o];omega)]at h1;exact h1
   clear HS;go_wp2_with fail
   go_ret;exact⟨g,h,vb,cb,lb,V,C,rfl,by rw[HH.o];exact HF.o,by rw[HH.o];exact HB.o⟩
end
section
theorem jH:∀(La L:List ChD),Inv L []→(∀c∈La,∀o∈c.ops,(Lit.int .i64 o.vn).wf=true)→Inv (aZ L La).2 []
 | [],L,h,_=>h
 |c::La,L,h,hw=>by
  unfold aZ;split
  ·rename_i h0;exact jH La _ (book_inv h (hw c (tA ..)) h0) fun d hd=>hw d (tS _ hd)
  ·exact h
theorem newDoes_book(La:List ChD)(hw:∀c∈La,∀o∈c.ops,(Lit.int .i64 o.vn).wf=true):NewDoes StM (aZ [] La).2:=fun Lr A c V hb hin=>by
 have hi:=jH La [] Inv.nil hw;have hbk:Bk Lr:=Bk.of_base hi.bk.all hb;have hl:Lr.length≤120:=by
  have h1:=congrArg List.length hb;rw[sP,sP,all_len hi.bk]at h1;have:=hi.most
  simp at this;omega
 refine(stNew_any Lr A c V hin hbk hl).mono ?_
 rintro e w' ⟨g,kb,vb,cb,lb,V',C',rfl,hs,hb⟩;exact⟨g,rfl,⟨_,kb,vb,cb,lb,V',C',hs⟩,hb⟩
theorem kidsP_perm{K K':List OpI}{N:Int}(hK:KTree K N)(hK':KTree K' N)(h:(K.map bI).Perm (K'.map bI))(obj el:Rf):dH K obj el=dH K' obj el:=by
 obtain⟨a1,a2,-⟩:=hK.kids (obj:=obj) el
 obtain⟨b1,b2,-⟩:=hK'.kids (obj:=obj) el
 exact fall_eq a1 b1 fun r=>by rw[a2,b2];exact(kidIds_perm h obj el).mem_iff
theorem behE_congr{K K':List OpI}{obj:Rf}(h:∀el,dH K obj el=dH K' obj el):∀(n:Nat) (el:Rf),iF K obj n el=iF K' obj n el
 |0,_=>rfl
 |n+1,el=>by
  unfold iF;rw[h el];exact cH fun k _=>by rw[behE_congr h n k]
theorem subE_perm{K K':List OpI}{N:Int}(hK:KTree K N)(hK':KTree K' N)(h:(K.map bI).Perm (K'.map bI))(obj el:Rf):eP K obj N el=eP K' obj N el :=
 behE_congr (kidsP_perm hK hK' h obj) _ _
theorem all_ops{L Lr:List ChD}(hb:Bk L)(h:Lr.map ChD.base=(lH L).map ChD.base):Bk Lr∧((aH Lr).map bI).Perm ((aH L).map bI) :=
 ⟨Bk.of_base hb.all h,ops_perm hb h rfl⟩
end
section
def MkListR(La:List ChD)(o:Rf)(e:Ending)(w':World):Prop :=
 ((aZ [] La).1≠0∧e=.returned (.tuple #[.pointer none,eA (aZ [] La).1])) ∨
 ((aZ [] La).1=0∧dG (aH (aZ [] La).2) o≠6∧e=.returned (.tuple #[.pointer none,eA 6])) ∨
 ((aZ [] La).1=0∧dG (aH (aZ [] La).2) o=6∧∃g Lr,e=.returned (.tuple #[.pointer (some ⟨g,0,none⟩),.nilIface])∧Bk Lr∧((aH Lr).map bI).Perm ((aH (aZ [] La).2).map bI)∧StM Lr g w')
theorem lC(La:List ChD)(o1 o2:Int)(A:Option Addr)(cA:Nat)(w:World)(hl:La.length≤9223372036854775807)(hL:ChsIn (fun k=>k<w.heap.size) w A La)(hw:∀c∈La,∀o∈c.ops,(Lit.int .i64 o.vn).wf=true)(ho:I64R (o1,o2)):
 Calls Tryz.prog 39 #[.slice A La.length cA,.agg #[.int .i64 o1,.int .i64 o2]] w fun e w'=>MkListR La (o1,o2) e w'∧Below w.heap.size w w':=by
 have hinv:=jH La [] Inv.nil hw;have HIV:=Hi hinv;have HOB:=Hi ho;have hb:Below w.heap.size w (w.alloc (.cells #[.int .i64 o1,.int .i64 o2] 24)):=(sB _ w).alloc (sC _) _;have C1:=stFrom_any StM La A cA _ hl (hL.below hb) hw (newDoes_book La hw);have HB:=Hi hb;have HO:=Hi (Blk.new w 24 #[.int .i64 o1,.int .i64 o2]);clear hb hl hL hw hinv ho;generalize La.length=n at C1 ⊢;go_enter Tryz.func39,Tryz.ntmps39;go_upto_region 1 with fail
 generalize w.alloc (.cells #[.int .i64 o1,.int .i64 o2] 24)=w0 at HB HO C1 ⊢;obtain⟨qo,hqo⟩:∃q,w.heap.size=q:=⟨_,rfl⟩
 have HQO:=Hi hqo;rw[hqo]at HB HO ⊢;clear hqo;go_wp2_with fail
 go_at_call 33;refine C1.mono ?_;rintro e w1 ⟨⟨h0,g,Lr,rfl,hlr,hst⟩|⟨h0,rfl⟩,hbw⟩
 ·have H0:=Hi h0;obtain⟨hbk,hpm⟩:=all_ops HIV.o.bk hlr
  have HBK:=Hi hbk;have HPM:=Hi hpm;have HST:=Hi hst;obtain⟨B,kb,vb,cb,lb,V,C,hs⟩:=hst
  have HW:Hid (Below qo w w1):=HB.o.trans (hbw.mono (by have:=HB.o.size;rw[HQO.o]at this;exact this));have HO1:=Hi (HO.o.keep (hbw.block _ HO.o.lt));have hkd:=SMem.kind hs.drew_ hbk.ids HOB.o;have HKJ:Hid (dG (aH Lr) (o1,o2)=dG (aH (aZ [] La).2) (o1,o2)):=oP hpm hbk.ids (o1,o2);obtain⟨kd,hkde⟩:∃kd,dG (aH Lr) (o1,o2)=kd:=⟨_,rfl⟩
  have HKD:=Hi hkde;rw[hkde]at hkd;have g0:=cZ hs.blk 0 rfl;have q0:=cZ HO1.o 0 rfl;have q1:=cZ HO1.o 1 rfl
  have HS2:Hid (StM Lr g w1.drew):=⟨B,kb,vb,cb,lb,V,C,hs.drew_⟩;unfold bB at hkd;simp only at hkd;clear C1 hlr hs hbw hbk hpm hkde HO HB h0;go_upto_region 4 with fail
  refine wp_region_still_tail 7 (by kernel_rfl) (by kernel_rfl) ?_;simp only[sV,tG,sY,tH];repeat (first|(refine aK rfl (fun K hK=>?_);go_simp;refine hK _ ?_;clear hK K)|(refine aO rfl ?_;go_frame))
  refine wpStill_nil ?_;change wpList _ _ _ _ _ w1.drew;have HW2:Hid (Below qo w w1.drew):=HW.o.drew;clear g0 q0 q1 hkd HW HO1 HST;generalize w1.drew=w2 at HS2 HW2 ⊢;by_cases h6:kd=6
  ·have H6:Hid (dG (aH (aZ [] La).2) (o1,o2)=6):=HKJ.o.symm.trans (HKD.o.trans h6);have e1:(kd != 6)=false:=by simp[h6]
   clear h6;go_wp2_with fail
   go_ret2;exact⟨.inr (.inr ⟨H0.o,H6.o,g,Lr,rfl,HBK.o,HPM.o,HS2.o⟩),by rw[HQO.o];exact HW2.o⟩
  ·have H6:Hid (dG (aH (aZ [] La).2) (o1,o2)≠6):=fun h=>h6 (HKD.o.symm.trans (HKJ.o.trans h))
   have e1:(kd != 6)=true:=by simp[h6]
   clear h6;go_wp2_with fail
   go_ret2;exact⟨.inr (.inl ⟨H0.o,H6.o,rfl⟩),by rw[HQO.o];exact HW2.o⟩
 ·have H0:=Hi h0;have HW:Hid (Below qo w w1):=HB.o.trans (hbw.mono (by have:=HB.o.size;rw[HQO.o]at this;exact this));have HEN:Hid (eA (aZ [] La).1=.iface 101 (.int .i64 (aZ [] La).1)):=if_neg h0;rw[HEN.o];clear h0 C1 hbw;go_wp2_with fail
  go_ret2;exact⟨.inl ⟨H0.o,by rw[HEN.o];rfl⟩,by rw[HQO.o];exact HW.o⟩
end
end Go.Proofs.YtmpkejflgpodkaaGreatDoor
