/- Contracts of the document's books: the refs of changes, rising; the heads. -/
import Derived.Test.YtjhkcbideddlgaaGreatP15
import Derived.Test.YtjhkcbideddlgaaGreatP1
import Derived.Lib.SliceRun
import Derived.Shelf.Abstract
import Derived.Lib.Small
import Derived.Sort.Grow
set_option maxHeartbeats 4000000
set_option maxRecDepth 20000
set_option linter.unusedVariables false
set_option linter.unusedSimpArgs false
namespace Go.Proofs.YtjhkcbideddlgaaGreat
open Go.ChangeShapes Go.WideShapes Go.ChangeAt Go.RowKit
section
theorem refsP_snoc{L:List ChD}{k:Nat}{x:ChD}(h:L[k]?=some x):eJ (L.take (k+1))=cV (eJ (L.take k)) x.rf:=by
 unfold eJ;rw[sQ,h,wJ];rfl
theorem pL(l:List Rf)(r:Rf):(cV l r).length≤l.length+1:=by
 by_cases h:r∈l
 ·rw[putR_has h];omega
 ·rw[putR_len h];omega
theorem rB:∀(L:List ChD) (out:List Rf),(L.foldl (fun out c=>cV out c.rf) out).length≤out.length+L.length
 | [],out=>by simp
 |c::L,out=>by
  have h1:=rB L (cV out c.rf);have h2:=pL out c.rf;simp only[vJ,sV];omega
theorem refsP_len(L:List ChD):(eJ L).length≤L.length:=by
 have:=rB L []
 simpa[eJ] using this
def dR(L l:List ChD):List Rf:=l.foldl (fun out c=>if onP L c.rf then out else cV out c.rf) []
theorem headsGo_snoc{L l:List ChD}{k:Nat}{x:ChD}(h:l[k]?=some x):dR L (l.take (k+1))=if onP L x.rf then dR L (l.take k) else cV (dR L (l.take k)) x.rf:=by
 unfold dR;rw[sQ,h,wJ];rfl
theorem kY(L:List ChD):∀(l:List ChD) (out:List Rf),(l.foldl (fun out c=>if onP L c.rf then out else cV out c.rf) out).length≤out.length+l.length
 | [],out=>by simp
 |c::l,out=>by
  have h1:=kY L l (if onP L c.rf then out else cV out c.rf);have h2:=pL out c.rf;simp only[vJ,sV];split at h1<;>rename_i h<;>simp only[h]<;>simp only[if_true,if_false,uT]at*<;> omega
theorem headsP_len(L:List ChD):(gY L).length≤L.length:=by
 have:=kY L L []
 simpa[gY] using this
theorem headsGo_len'(L l:List ChD):(dR L l).length≤l.length:=by
 have:=kY L l []
 simpa[dR] using this
def onB(l:List ChD)(r:Rf):Bool:=l.any fun c=>decide (r∈c.deps)
theorem onB_snoc{L:List ChD}{k:Nat}{x:ChD}(r:Rf)(h:L[k]?=some x):onB (L.take (k+1)) r=(onB (L.take k) r||decide (r∈x.deps)):=by
 unfold onB;rw[sQ,h,List.any_append];simp
theorem srefs_any(L:List ChD)(D:Nat→Prop)(A:Option Addr)(c:Nat)(w:World)(hr:aC D w 5 A L.length (aW L))(hD:∀k,D k→k<w.heap.size)(hl:L.length≤1000000):
 Calls Tryz.prog 15 #[.slice A L.length c] w fun e w'=>∃v,e=.returned v∧w'.ownsRow w.heap.size 45 2 v (eJ L).length (aF (eJ L))∧Below w.heap.size w w':=by
 obtain⟨n,hn⟩:∃n,L.length=n:=⟨_,rfl⟩
 have HN:=Hi hn;have HR:=Hi (hr.more hD);rw[hn]at hl ⊢;clear hr hn;go_enter Tryz.func15,Tryz.ntmps15;go_wp2_with fail
 go_loopw [3,4] (fun s3 s4 wr=>∃k:Nat,s4=.int .i64 k∧k≤n∧Hid (wr.ownsRow w.heap.size 45 2 s3 (eJ (L.take k)).length (aF (eJ (L.take k))))∧Hid (Below w.heap.size w wr)) (fun _ s4 _=>n-(intOf s4).toNat)
 case atStart=>exact⟨0,rfl,by omega,bB _ _ _ _,sA _ _⟩
 case round =>
  obtain⟨k,rfl,hk,HO,HW⟩:=hrel
  by_cases hlt:k<n
  ·obtain⟨x,hx⟩:∃x,L[k]?=some x:=⟨_,sC (by rw[HN.o];exact hlt)⟩
   obtain⟨b,o,rfl,-,hcy⟩:=(aA HR.o HW.o).at_ (by rw[HN.o];omega) (by omega)
   have x0:wr.cell? ⟨b,o+k*5,none⟩=some (.int .i64 x.a):=hcy _ _ (aI hx 0 (by omega));have x1:wr.cell? ⟨b,o+k*5+1,none⟩=some (.int .i64 x.s):=hcy _ _ (aI hx 1 (by omega));have x2:wr.cell? ⟨b,o+k*5+2,none⟩=some (.int .i64 x.st):=hcy _ _ (aI hx 2 (by omega));have x3:wr.cell? ⟨b,o+k*5+3,none⟩=some (.slice x.DA x.deps.length x.DC):=hcy _ _ (aI hx 3 (by omega));have x4:wr.cell? ⟨b,o+k*5+4,none⟩=some (.slice x.OA x.ops.length x.OC):=hcy _ _ (aI hx 4 (by omega));have HP:=Hi (refsP_snoc hx);have hlen:(eJ (L.take k)).length≤k:=sY (refsP_len _) (by rw[tD];omega);clear hcy hx;go_wp2_with fail
   go_at_call 55;refine(eI _ _ _ _ _ _ (by rfl) (by rfl) (by rfl)).mono ?_
   rintro e w2 ⟨rfl,hb⟩;have C2:=qZ (eJ (L.take k)) (x.a,x.s) w.heap.size _ w2 (aO HO.o hb) (by omega) (sY HW.o.size hb.size);replace HW:Hid (Below w.heap.size w w2):=HW.o.trans (hb.mono HW.o.size);clear hb HO x0 x1 x2 x3 x4;go_wp2_with fail
   go_at_call 54;refine C2.mono ?_;rintro e w3 ⟨v3,rfl,ho3,hb3,-⟩;have HO:Hid (w3.ownsRow w.heap.size 45 2 v3 (eJ (L.take (k+1))).length (aF (eJ (L.take (k+1))))):=by show World.ownsRow _ _ _ _ _ _ _;rw[HP.o];exact ho3
   replace HW:Hid (Below w.heap.size w w3):=HW.o.trans (hb3.mono HW.o.size);clear C2 ho3 hb3 HP hlen;go_wp2_with fail
   go_roundw
   case rel=>exact⟨k+1,by go_num,by omega,HO,HW⟩
   case measure=>simp[intOf];omega
  ·have hkn:k=n:=by omega
   have HL:Hid (L.take k=L):=sL (by rw[HN.o];omega);rw[HL.o]at HO;go_wp2_with fail
   go_ret;exact⟨_,rfl,HO.o,HW.o⟩
theorem sheads_any(L W:List ChD)(g:Nat)(w:World)(hB:BR w g L W)(hl:L.length≤1000000):
 Calls Tryz.prog 73 #[.pointer (some ⟨g,0,none⟩)] w fun e w'=>∃v,e=.returned v∧w'.ownsRow w.heap.size 45 2 v (gY L).length (aF (gY L))∧Below w.heap.size w w':=by
 obtain⟨A,c,A',c',hg,hL,hW'⟩:=hB
 have HG:=Hi hg;have HL:=Hi hL;obtain⟨n,hn⟩:∃n,L.length=n:=⟨_,rfl⟩
 have HN:=Hi hn;rw[hn]at hl HG;clear hg hL hW' hn;go_enter Tryz.func73,Tryz.ntmps73;go_wp2_with fail
 go_loopw [3,4,5,6] (fun s3 s4 _ _ wr=>∃i:Nat,s4=.int .i64 i∧i≤n∧Hid (wr.ownsRow w.heap.size 45 2 s3 (dR L (L.take i)).length (aF (dR L (L.take i))))∧Hid (Below w.heap.size w wr)) (fun _ s4 _ _ _=>n-(intOf s4).toNat)
 case atStart=>exact⟨0,rfl,by omega,bB _ _ _ _,sA _ _⟩
 case round =>
  obtain⟨i,rfl,hi,HO,HW⟩:=hrel
  have g0:=cZ (HG.o.keep (HW.o.block _ HG.o.lt)) 0 rfl;by_cases hlt:i<n
  ·obtain⟨y,hy⟩:∃y,L[i]?=some y:=⟨_,sC (by rw[HN.o];exact hlt)⟩
   have HY:=Hi hy;clear hy;obtain⟨wo,hwo⟩:∃wo,wo=wr:=⟨_,rfl⟩
   subst hwo;have hd:decide ((i:Int)<(n:Int))=true:=sH (by omega);go_wp2_with fail
   go_loopw [5,6] (fun s5 s6 wr=>∃k:Nat,s6=.int .i64 k∧k≤n∧s5=.bool (onB (L.take k) y.rf)∧Hid (Below wo.heap.size wo wr)) (fun _ s6 _=>n-(intOf s6).toNat)
   case atStart=>exact⟨0,rfl,by omega,rfl,sA _ _⟩
   case round =>
    clear g0;obtain⟨k,rfl,hk,rfl,HWI⟩:=hrel
    have HWW:Hid (Below w.heap.size w wr):=HW.o.trans (HWI.o.mono HW.o.size);have g0:=cZ (HG.o.keep (HWW.o.block _ HG.o.lt)) 0 rfl;by_cases hlk:k<n
    ·obtain⟨x,hx⟩:∃x,L[k]?=some x:=⟨_,sC (by rw[HN.o];exact hlk)⟩
     have HS:=Hi (onB_snoc y.rf hx);generalize onB (L.take k) y.rf=ob at HS ⊢;have hd2:decide ((k:Int)<(n:Int))=true:=sH (by omega);cases ob with
     |true =>
      have HS2:Hid (onB (L.take (k+1)) y.rf=true):=by show _=_;rw[HS.o];rfl
      clear HS;go_wp2_with fail
      go_quiet (fail)
      change Exit.inBlock _ _ _ _ (wr.drewN nq);replace HWI:Hid (Below wo.heap.size wo (wr.drewN nq)):=aH HWI.o nq;go_wp2_with fail
      first
       |exact⟨⟨k+1,by go_num,by omega,by rw[HS2.o],HWI⟩,by simp[intOf];omega⟩
       |(go_roundw
         case rel=>exact⟨k+1,by go_num,by omega,by rw[HS2.o],HWI⟩
         case measure=>simp[intOf];omega)
     |false =>
      have HS2:Hid (onB (L.take (k+1)) y.rf=decide (y.rf∈x.deps)):=by show _=_;rw[HS.o];rfl
      have HXI:=Hi ((HL.o.each x (sJ hx)));have HXD:Hid (aC (fun k=>k<wr.heap.size) wr 2 x.DA x.deps.length (aF x.deps)):=aA HXI.o.hd HWW.o;have hdl:=HXI.o.hdl;obtain⟨b,o,rfl,hbl,hcy⟩:=(aA HL.o.row HWW.o).at_ (by rw[HN.o];omega) (by omega)
      have hd3:decide (0≤(i:Int))=true:=sH (by omega);have hd4:decide (0≤(k:Int))=true:=sH (by omega);have hgl:g<wr.heap.size:=sD HG.o.lt HWW.o.size;have y0:wr.cell? ⟨b,o+i*5,none⟩=some (.int .i64 y.a):=hcy _ _ (aI HY.o 0 (by omega));have y1:wr.cell? ⟨b,o+i*5+1,none⟩=some (.int .i64 y.s):=hcy _ _ (aI HY.o 1 (by omega));have y2:wr.cell? ⟨b,o+i*5+2,none⟩=some (.int .i64 y.st):=hcy _ _ (aI HY.o 2 (by omega));have y3:wr.cell? ⟨b,o+i*5+3,none⟩=some (.slice y.DA y.deps.length y.DC):=hcy _ _ (aI HY.o 3 (by omega));have y4:wr.cell? ⟨b,o+i*5+4,none⟩=some (.slice y.OA y.ops.length y.OC):=hcy _ _ (aI HY.o 4 (by omega));have x3:wr.cell? ⟨b,o+k*5+3,none⟩=some (.slice x.DA x.deps.length x.DC):=hcy _ _ (aI hx 3 (by omega));have KS:∀V:World,Below wr.heap.size wr V→V.cell? ⟨g,0,none⟩=some (.slice (some ⟨b,o,none⟩) n c)∧V.cell? ⟨b,o+k*5+3,none⟩=some (.slice x.DA x.deps.length x.DC)∧V.cell? ⟨b,o+i*5,none⟩=some (.int .i64 y.a)∧V.cell? ⟨b,o+i*5+1,none⟩=some (.int .i64 y.s)∧V.cell? ⟨b,o+i*5+2,none⟩=some (.int .i64 y.st)∧V.cell? ⟨b,o+i*5+3,none⟩=some (.slice y.DA y.deps.length y.DC)∧V.cell? ⟨b,o+i*5+4,none⟩=some (.slice y.OA y.ops.length y.OC)∧Below wr.heap.size wr V:=fun V hv=>by
       have e1:∀i,V.cell? ⟨g,i,none⟩=wr.cell? ⟨g,i,none⟩:=fun i=>sK (hv.block _ hgl)
       have e2:∀i,V.cell? ⟨b,i,none⟩=wr.cell? ⟨b,i,none⟩:=fun i=>sK (hv.block _ hbl)
       rw[e1];simp only[e2];exact⟨g0,x3,y0,y1,y2,y3,y4,hv⟩
      clear hcy hx HS;go_wp2_with fail
      go_region_held3 (fun w'=>w'.cell? ⟨g,0,none⟩=some (.slice (some ⟨b,o,none⟩) n c)∧w'.cell? ⟨b,o+k*5+3,none⟩=some (.slice x.DA x.deps.length x.DC)∧w'.cell? ⟨b,o+i*5,none⟩=some (.int .i64 y.a)∧w'.cell? ⟨b,o+i*5+1,none⟩=some (.int .i64 y.s)∧w'.cell? ⟨b,o+i*5+2,none⟩=some (.int .i64 y.st)∧w'.cell? ⟨b,o+i*5+3,none⟩=some (.slice y.DA y.deps.length y.DC)∧w'.cell? ⟨b,o+i*5+4,none⟩=some (.slice y.OA y.ops.length y.OC)∧Below wr.heap.size wr w') (first|exact KS _ (sA _ wr).drew|exact q|go_keep)
       ((first
         |(go_at_call 55;refine(eI _ _ _ _ _ _ (by rfl) (by rfl) (by rfl)).mono ?_;rintro e w7 ⟨rfl,hb7⟩;have q:=KS w7 (by first|exact bT q.2.2.2.2.2.2.2 (sB _) hb7|exact bT (sA _ wr).drew (sB _) hb7))
         |(go_at_call 18;refine(jE x.deps (y.a,y.s) _ _ _ _ (aA HXD.o q.2.2.2.2.2.2.2) (fun _ h=>h) hdl).mono ?_;rintro e w7 ⟨rfl,hb7⟩;have q:=KS w7 (by first|exact bT q.2.2.2.2.2.2.2 (sB _) hb7|exact bT (sA _ wr).drew (sB _) hb7))))
      all_goals
       replace HWI:Hid (Below wo.heap.size wo w7):=HWI.o.trans (Below.mono q.2.2.2.2.2.2.2 HWI.o.size);clear q y0 y1 y2 y3 y4 x3 g0 KS;go_wp2_with fail
       first
        |exact⟨⟨k+1,by go_num,by omega,by rw[HS2.o];rfl,HWI⟩,by simp[intOf];omega⟩
        |(go_roundw
          case rel=>exact⟨k+1,by go_num,by omega,by rw[HS2.o];rfl,HWI⟩
          case measure=>simp[intOf];omega)
    ·have hkn:k=n:=by omega
     have HLT:Hid (L.take k=L):=sL (by rw[HN.o];omega);have HOP:Hid (dR L (L.take (i+1))=if onB L y.rf then dR L (L.take i) else cV (dR L (L.take i)) y.rf):=headsGo_snoc HY.o;have hd2:decide ((k:Int)<(n:Int))=false:=sI (by omega);rw[HLT.o];clear hkn HLT;generalize onB L y.rf=ob at HOP ⊢;cases ob with
     |true =>
      have HO2:=Hi (aO HO.o HWI.o);have HEQ:Hid (dR L (L.take (i+1))=dR L (L.take i)):=by show _=_;rw[HOP.o,tA rfl]
      clear HOP;go_wp2_with fail
      go_roundw
      case rel=>exact⟨i+1,by go_num,by omega,by show World.ownsRow _ _ _ _ _ _ _;rw[HEQ.o];exact HO2.o,HWW⟩
      case measure=>simp[intOf];omega
     |false =>
      obtain⟨b,o,rfl,hbl,hcy⟩:=(aA HL.o.row HWW.o).at_ (by rw[HN.o];omega) (by omega)
      have hd3:decide (0≤(i:Int))=true:=sH (by omega);have y0:wr.cell? ⟨b,o+i*5,none⟩=some (.int .i64 y.a):=hcy _ _ (aI HY.o 0 (by omega));have y1:wr.cell? ⟨b,o+i*5+1,none⟩=some (.int .i64 y.s):=hcy _ _ (aI HY.o 1 (by omega));have y2:wr.cell? ⟨b,o+i*5+2,none⟩=some (.int .i64 y.st):=hcy _ _ (aI HY.o 2 (by omega));have y3:wr.cell? ⟨b,o+i*5+3,none⟩=some (.slice y.DA y.deps.length y.DC):=hcy _ _ (aI HY.o 3 (by omega));have y4:wr.cell? ⟨b,o+i*5+4,none⟩=some (.slice y.OA y.ops.length y.OC):=hcy _ _ (aI HY.o 4 (by omega));have hlen:(dR L (L.take i)).length≤i:=sY (headsGo_len' L (L.take i)) (by rw[tD];omega);clear hcy;go_wp2_with fail
      go_at_call 55;refine(eI _ _ _ _ _ _ (by rfl) (by rfl) (by rfl)).mono ?_
      rintro e w2 ⟨rfl,hb⟩;have C2:=qZ (dR L (L.take i)) (y.a,y.s) w.heap.size _ w2 (aO (aO HO.o HWI.o) hb) (by omega) (sY HWW.o.size hb.size);have HW2:Hid (Below w.heap.size w w2):=HWW.o.trans (hb.mono HWW.o.size);clear hb HO y0 y1 y2 y3 y4 HWI HWW;go_wp2_with fail
      go_at_call 54;refine C2.mono ?_;rintro e w3 ⟨v3,rfl,ho3,hb3,-⟩;have HO:Hid (w3.ownsRow w.heap.size 45 2 v3 (dR L (L.take (i+1))).length (aF (dR L (L.take (i+1))))):=by show World.ownsRow _ _ _ _ _ _ _;rw[HOP.o,sT (by simp)];exact ho3
      have HW3:Hid (Below w.heap.size w w3):=HW2.o.trans (hb3.mono HW2.o.size);clear C2 ho3 hb3 HOP hlen HW2;go_wp2_with fail
      go_roundw
      case rel=>exact⟨i+1,by go_num,by omega,HO,HW3⟩
      case measure=>simp[intOf];omega
  ·have hin:i=n:=by omega
   have HLT:Hid (L.take i=L):=sL (by rw[HN.o];omega);have HE:Hid (dR L L=gY L):=rfl;rw[HLT.o,HE.o]at HO;go_wp2_with fail
   go_ret;exact⟨_,rfl,HO.o,HW.o⟩
end
section
theorem oV{α:Type}[DecidableEq α]:∀(a b:List α),a.Nodup→(∀x∈a,x∈b)→a.length≤b.length
 | [],_,_,_=>by simp
 |x::a,b,hn,hs=>by
  obtain⟨hx,hn'⟩:=uI.1 hn
  have hxb:=hs x (by simp);have:=oV a (b.erase x) hn' (fun y hy=>(List.mem_erase_of_ne (fun e=>hx (by rw[←e];exact hy))).2 (hs y (by simp[hy])))
  rw[List.length_erase_of_mem hxb]at this;have:0<b.length:=List.length_pos_of_mem hxb
  simp only[sV];omega
theorem next_go{L:List ChD}(h:Bk L)(out:List ChD)(hex:∃c∈L,c.rf∉aB out):∃c∈L,dG L out c=true:=by
 induction h with
 |nil=>obtain⟨c,hc,_⟩:=hex;cases hc
 | @snoc L c h1 h2 h3 h4 h5 h6 ih =>
   by_cases he:∃c∈L,c.rf∉aB out
   ·obtain⟨d,hd,hp⟩:=ih he
    exact⟨d,sG.2 (.inl hd),by unfold dG at hp ⊢;exact hp⟩
   ·have hall:∀d∈L,d.rf∈aB out:=fun d hd=>Decidable.byContradiction fun hh=>he ⟨d,hd,hh⟩
    obtain⟨c',hc',hn⟩:=hex
    rcases sG.1 hc' with hc'|hc'
    ·exact absurd (hall c' hc') hn
    ·obtain rfl:=sP.1 hc';refine⟨c',by simp,?_⟩
     unfold dG;rw[tJ];refine⟨by simp[hn],tR.2 fun d hd=>sH ?_⟩
     have hr:=tR.1 h5 d hd;obtain⟨e,he1,he2⟩:=sW.1 (of_decide_eq_true hr)
     rw[←he2];exact hall e he1
theorem next_ex{L:List ChD}(h:Bk L){out:List ChD}(hlt:out.length<L.length):∃c∈L,dG L out c=true:=by
 refine next_go h out ?_;refine Decidable.byContradiction fun hh=>?_
 have hall:∀r∈aB L,r∈aB out:=fun r hr=>by
  obtain⟨c,hc,rfl⟩:=sW.1 hr
  exact Decidable.byContradiction fun h'=>hh ⟨c,hc,h'⟩
 have:=oV _ _ h.nodup hall
 simp only[aB,tF]at this;omega
theorem mR{L out:List ChD}{m i:Nat}{r:Rf}{x:ChD}(h:bN (dG L out) L=some (i,r))(hx:L[i]?=some x):fJ L (m+1) out=fJ L m (out++[x]):=by
 conv=>lhs;unfold fJ
 rw[h];simp only[hx]
def slen(v:Value):Nat:=match v with | .slice _ n _=>n|_=>0
theorem all_snoc{l:List Rf}{k:Nat}{r:Rf}(p:Rf→Bool)(h:l[k]?=some r):(l.take (k+1)).all p=((l.take k).all p&&p r):=by
 rw[sQ,h,List.all_append];simp
theorem findI_mem{L:List ChD}{r:Rf}{i:Int}(h:FindI L r i):decide (0≤i)=decide (r∈aB L):=by
 rcases h with⟨rfl,h⟩|⟨k,c,rfl,hk,hf⟩
 ·rw[sI h];rfl
 ·have h1:=cK hf;rw[sH (show(0:Int)≤(k:Int) from by omega),sH (show r∈aB L from by rw[←h1.2];exact bX h1.1)]
end
section
def dS(w:World)(b:Nat)(L:List ChD):Prop:=aJ w 45 b (L.map fun c=>(dB c.rf,c.v))
theorem zero_ch(w:World):(zeroValue 33).run Tryz.prog w=.ok zeroCh w:=by kernel_rfl
def hN(L:List ChD)(r:Rf):Value:=match aV L r with|some c=>c.v|none=>zeroCh
theorem dS.look{w:World}{b:Nat}{L:List ChD}(h:dS w b L){r:Rf}(hr:eL r)(hm:Bool):
 (Instr.lookup 90 (.map (some b)) (.agg #[.int .i64 r.1,.int .i64 r.2]) hm).run Tryz.prog w=.ok (if hm then .tuple #[hN L r,.bool (decide (r∈aB L))] else hN L r) w:=by
 unfold hN;cases hf:aV L r with
 |some c =>
  obtain⟨h1,h2⟩:=cK hf
  rw[sH (show r∈aB L from h2▸bX h1)];subst h2;exact aJ.hit h eM Tryz.underlying90 (zero_ch w) (sW.2 ⟨c,h1,rfl⟩) hm
 |none =>
  have hn:=bW.1 hf;rw[sI hn];obtain⟨kl,hk⟩:=jL hr
  refine aJ.miss h eM Tryz.underlying90 (zero_ch w) hk (fun p hp e=>?_) hm;obtain⟨q,hq,rfl⟩:=sW.1 hp
  exact hn (gP e▸bX hq)
theorem dS.lookT{w:World}{b:Nat}{L:List ChD}(h:dS w b L){r:Rf}(hr:eL r){v:Value}(hv:hN L r=v){ok:Bool}(hok:decide (r∈aB L)=ok):
 (Instr.lookup 90 (.map (some b)) (.agg #[.int .i64 r.1,.int .i64 r.2]) true).run Tryz.prog w=.ok (.tuple #[v,.bool ok]) w:=by
 have:=h.look hr true
 rw[hv,hok]at this;exact this
theorem kS(L:List ChD)(r:Rf):∃a s st A n c A' n' c',hN L r=.agg #[.int .i64 a,.int .i64 s,.int .i64 st,.slice A n c,.slice A' n' c']:=by
 unfold hN;cases aV L r with
 |none=>exact⟨_,_,_,_,_,_,_,_,_,rfl⟩
 |some c=>exact⟨_,_,_,_,_,_,_,_,_,rfl⟩
theorem chref_any(a s:Int)(v2 v3 v4:Value)(w:World)(h2:v2.oneCell'=true)(h3:v3.oneCell'=true)(h4:v4.oneCell'=true):
 Calls Tryz.prog 38 #[.agg #[.int .i64 a,.int .i64 s,v2,v3,v4]] w fun e w'=>e=.returned (.agg #[.int .i64 a,.int .i64 s])∧Below w.heap.size w w':=by
 have hres:Tryz.f38.results=#[.cell 2 45]:=by kernel_rfl
 go_enter Tryz.func38,Tryz.ntmps38;go_wp2_with fail
 refine bodyPost_ret (v:=.agg #[.int .i64 a,.int .i64 s]) ?_ rfl ⟨rfl,?_⟩
 ·simp only[results,hres];go_simp
 ·exact((sA _ w).alloc (sB _) _).alloc (by simp) _
theorem has_any(L:List ChD)(r:Rf)(hr:eL r)(g bh:Nat)(V2 V3:Value)(w:World)(hB:Blk w g 93 #[.map (some bh),V2,V3])(hm:dS w bh L):
 Calls Tryz.prog 53 #[.pointer (some ⟨g,0,none⟩),.agg #[.int .i64 r.1,.int .i64 r.2]] w fun e w'=>e=.returned (.bool (decide (r∈aB L)))∧Below w.heap.size w w':=by
 have hW:Below w.heap.size w (w.alloc (.cells #[.int .i64 r.1,.int .i64 r.2] 45)):=(sA _ w).alloc (sB _) _;have hQ:=Blk.new w 45 #[.int .i64 r.1,.int .i64 r.2];have HM:Hid (dS (w.alloc (.cells #[.int .i64 r.1,.int .i64 r.2] 45)) bh L):=aJ.keep hm (hW.block _ (aJ.lt hm));have hG:=hB.keep (hW.block _ hB.lt);have HW:=Hi hW;obtain⟨a,s,st,A,n,c,A',n',c',hlv⟩:=kS L r
 obtain⟨ok,hok⟩:∃ok,decide (r∈aB L)=ok:=⟨_,rfl⟩
 have HQ:=Hi hQ;have HGB:=Hi hG;rw[hok];go_enter Tryz.func53,Tryz.ntmps53;go_wp2_with fail
 generalize w.alloc (.cells #[.int .i64 r.1,.int .i64 r.2] 45)=V at *;obtain⟨q0,q1⟩:=ce2 hQ
 have g0:=cZ hG 0 rfl;clear hW hQ hG hB hm;go_wp2_with fail
 have hl:=(show dS V.drew bh L from aJ.keep HM.o rfl).lookT hr hlv hok;have hql:w.heap.size<V.heap.size:=HQ.o.lt;have hgl:g<V.heap.size:=HGB.o.lt;have KS:∀o,(V.drew.alloc o).cell? ⟨w.heap.size,0,none⟩=some (.int .i64 r.1)∧(V.drew.alloc o).cell? ⟨w.heap.size,1,none⟩=some (.int .i64 r.2)∧(V.drew.alloc o).cell? ⟨g,0,none⟩=some (.map (some bh))∧(Instr.lookup 90 (.map (some bh)) (.agg #[.int .i64 r.1,.int .i64 r.2]) true).run Tryz.prog (V.drew.alloc o)=.ok (.tuple #[.agg #[.int .i64 a,.int .i64 s,.int .i64 st,.slice A n c,.slice A' n' c'],.bool ok]) (V.drew.alloc o):=fun o=>by
  refine⟨?_,?_,?_,(show dS (V.drew.alloc o) bh L from aJ.keep HM.o ((sA _ V).drew.alloc (sB _) o |>.block _ (aJ.lt HM.o))).lookT hr hlv hok⟩
  ·rw[tP _ _ _ (show _<V.drew.heap.size from hql)];exact q0
  ·rw[tP _ _ _ (show _<V.drew.heap.size from hql)];exact q1
  ·rw[tP _ _ _ (show _<V.drew.heap.size from hgl)];exact g0
 go_region_held3 (fun w'=>w'.cell? ⟨w.heap.size,0,none⟩=some (.int .i64 r.1)∧w'.cell? ⟨w.heap.size,1,none⟩=some (.int .i64 r.2)∧w'.cell? ⟨g,0,none⟩=some (.map (some bh))∧(Instr.lookup 90 (.map (some bh)) (.agg #[.int .i64 r.1,.int .i64 r.2]) true).run Tryz.prog w'=.ok (.tuple #[.agg #[.int .i64 a,.int .i64 s,.int .i64 st,.slice A n c,.slice A' n' c'],.bool ok]) w') (first|exact⟨q0,q1,g0,hl⟩|exact KS _|go_keep) (fail)
 all_goals
  clear KS q0 q1 g0 hl;have HV:Hid (Below w.heap.size w (V.alloc (.cells #[.int .i64 a,.int .i64 s,.int .i64 st,.slice A n c,.slice A' n' c'] 33)).drew):=(HW.o.alloc HW.o.size _).drew;generalize (V.alloc (.cells #[.int .i64 a,.int .i64 s,.int .i64 st,.slice A n c,.slice A' n' c'] 33)).drew=V2 at HV ⊢;go_wp2_with fail
  go_ret;exact⟨rfl,HV.o⟩
end
section
theorem cloneR_any(l:List Rf)(D:Nat→Prop)(A:Option Addr)(c:Nat)(w:World)(hr:aC D w 2 A l.length (aF l))(hD:∀k,D k→k<w.heap.size)(hl:l.length≤1000000):
 Calls Tryz.prog 87 #[.slice A l.length c] w fun e w'=>∃A' c',e=.returned (.slice A' l.length c')∧w'.ownsRow w.heap.size 45 2 (.slice A' l.length c') l.length (aF l)∧Below w.heap.size w w':=by
 cases A with
 |none =>
  have hl0:l=[]:=by
   rcases vH l.length with h|h
   ·exact uK.1 h
   ·obtain⟨ad,h',_⟩:=hr.2 h;cases h'
  subst hl0;have hne:=Lib.run_eql_slice_nil (P:=Tryz.prog) w 30 45 none 0 c 0 0 Tryz.underlying30;go_enter Tryz.func87,Tryz.ntmps87;go_wp2_with fail
  go_ret;exact⟨none,0,rfl,bB _ _ _ _,sA _ _⟩
 |some ad =>
  have HR:=Hi (hr.more hD);obtain⟨n,hn⟩:∃n,l.length=n:=⟨_,rfl⟩
  have hne:=Lib.run_eql_slice_nil (P:=Tryz.prog) w 30 45 (some ad) n c 0 0 Tryz.underlying30;obtain⟨i0,hi,hz0,hz1,hz2⟩:=info_parts gD
  clear hr;rw[hn]at hl HR ⊢;clear hn;go_enter Tryz.func87,Tryz.ntmps87;go_wp2_with (at_builtin;refine aG _ rfl (.tmp 5) (.tmp 6) _ rfl (w.heap.size) 45 i0 _ 2 16 Tryz.underlying30 hi hz0 hz1 hz2 rfl (by omega) (.slice (some ⟨w.heap.size,0,none⟩) 0 0) 0 [] rfl (World.ownsRow_lit w #[] 0 (sB _) (by simp[maxLen]) (by simp)) _ (some ad) n c (aF l) rfl (aA HR.o ((sA _ w).alloc (sB _) _)) (aY l) ?c1 ?c2 ?c3 ?_)
  try case c1=>simp only[maxLen];omega
  try case c2=>omega
  try case c3=>simp
  intro v4 w4 ho4 hg4 hat4;have HW4:Hid (Below w.heap.size w w4):=((sA _ w).alloc (sB _) _).grown hg4 (by simp) (fun g hg=>by simp[Value.ownBlock]at hg;omega);have ho5:w4.ownsRow w.heap.size 45 2 v4 n (aF l):=by simpa using ho4
  obtain⟨A',c',rfl,-,-,-⟩:=aC.of_own ho5
  have HO:=Hi ho5;clear ho4 ho5 hg4 hat4;go_wp2_with fail
  go_ret;exact⟨_,_,rfl,HO.o,HW4.o⟩
theorem eq_idD(a b c d:Int)(w:World):(Op.equalIn 10000 48 (.agg #[.int .i64 a,.int .i64 b]) (.agg #[.int .i64 c,.int .i64 d])).run Tryz.prog w=.ok (decide ((a,b)=(c,d))) w:=by
 rw[kC];by_cases h1:a=c<;>by_cases h2:b=d<;>simp[h1,h2]
def zeroOp:Value:=.agg #[.int .i64 0,.int .i64 0,.int .i64 0,.string ⟨#[]⟩,.int .i64 0,.int .i64 0,.bool false,.int .i64 0,.int .i64 0,.string ⟨#[]⟩,.int .i64 0,.int .i64 0,.slice none 0 0]
theorem infoOp:(Tryz.prog.info? 53).map (fun i=>(i.zero,i.size,i.bytes))=some (some zeroOp,13,136):=by kernel_rfl
theorem rH(l:List OpD):∀u∈eF l,u.oneCell'=true:=by
 intro u hu;obtain⟨o,_,h⟩:=vG.1 hu
 simp only[opC,sO,uB,or_false]at h;rcases h with rfl|rfl|rfl|rfl|rfl|rfl|rfl|rfl|rfl|rfl|rfl|rfl|rfl<;>rfl
theorem cloneI_any(l:List Rf)(D:Nat→Prop)(A:Option Addr)(c:Nat)(w:World)(hr:aC D w 2 A l.length (aF l))(hD:∀k,D k→k<w.heap.size)(hl:l.length≤1000000):
 Calls Tryz.prog 89 #[.slice A l.length c] w fun e w'=>∃A' c',e=.returned (.slice A' l.length c')∧w'.ownsRow w.heap.size 48 2 (.slice A' l.length c') l.length (aF l)∧Below w.heap.size w w':=by
 cases A with
 |none =>
  have hl0:l=[]:=by
   rcases vH l.length with h|h
   ·exact uK.1 h
   ·obtain⟨ad,h',_⟩:=hr.2 h;cases h'
  subst hl0;have hne:=Lib.run_eql_slice_nil (P:=Tryz.prog) w 51 48 none 0 c 0 0 Tryz.underlying51;go_enter Tryz.func89,Tryz.ntmps89;go_wp2_with fail
  go_ret;exact⟨none,0,rfl,bB _ _ _ _,sA _ _⟩
 |some ad =>
  have HR:=Hi (hr.more hD);obtain⟨n,hn⟩:∃n,l.length=n:=⟨_,rfl⟩
  have hne:=Lib.run_eql_slice_nil (P:=Tryz.prog) w 51 48 (some ad) n c 0 0 Tryz.underlying51;obtain⟨i0,hi,hz0,hz1,hz2⟩:=info_parts rS
  clear hr;rw[hn]at hl HR ⊢;clear hn;go_enter Tryz.func89,Tryz.ntmps89;go_wp2_with (at_builtin;refine aG _ rfl (.tmp 5) (.tmp 6) _ rfl (w.heap.size) 48 i0 _ 2 16 Tryz.underlying51 hi hz0 hz1 hz2 rfl (by omega) (.slice (some ⟨w.heap.size,0,none⟩) 0 0) 0 [] rfl (World.ownsRow_lit w #[] 0 (sB _) (by simp[maxLen]) (by simp)) _ (some ad) n c (aF l) rfl (aA HR.o ((sA _ w).alloc (sB _) _)) (aY l) ?c1 ?c2 ?c3 ?_)
  try case c1=>simp only[maxLen];omega
  try case c2=>omega
  try case c3=>simp
  intro v4 w4 ho4 hg4 hat4;have HW4:Hid (Below w.heap.size w w4):=((sA _ w).alloc (sB _) _).grown hg4 (by simp) (fun g hg=>by simp[Value.ownBlock]at hg;omega);have ho5:w4.ownsRow w.heap.size 48 2 v4 n (aF l):=by simpa using ho4
  obtain⟨A',c',rfl,-,-,-⟩:=aC.of_own ho5
  have HO:=Hi ho5;clear ho4 ho5 hg4 hat4;go_wp2_with fail
  go_ret;exact⟨_,_,rfl,HO.o,HW4.o⟩
theorem cloneO_any(l:List OpD)(D:Nat→Prop)(A:Option Addr)(c:Nat)(w:World)(hr:aC D w 13 A l.length (eF l))(hD:∀k,D k→k<w.heap.size)(hl:l.length≤1000000):
 Calls Tryz.prog 88 #[.slice A l.length c] w fun e w'=>∃A' c',e=.returned (.slice A' l.length c')∧w'.ownsRow w.heap.size 53 13 (.slice A' l.length c') l.length (eF l)∧Below w.heap.size w w':=by
 cases A with
 |none =>
  have hl0:l=[]:=by
   rcases vH l.length with h|h
   ·exact uK.1 h
   ·obtain⟨ad,h',_⟩:=hr.2 h;cases h'
  subst hl0;have hne:=Lib.run_eql_slice_nil (P:=Tryz.prog) w 31 53 none 0 c 0 0 Tryz.underlying31;go_enter Tryz.func88,Tryz.ntmps88;go_wp2_with fail
  go_ret;exact⟨none,0,rfl,bB _ _ _ _,sA _ _⟩
 |some ad =>
  have HR:=Hi (hr.more hD);obtain⟨n,hn⟩:∃n,l.length=n:=⟨_,rfl⟩
  have hne:=Lib.run_eql_slice_nil (P:=Tryz.prog) w 31 53 (some ad) n c 0 0 Tryz.underlying31;obtain⟨i0,hi,hz0,hz1,hz2⟩:=info_parts infoOp
  clear hr;rw[hn]at hl HR ⊢;clear hn;go_enter Tryz.func88,Tryz.ntmps88;go_wp2_with (at_builtin;refine aG _ rfl (.tmp 5) (.tmp 6) _ rfl (w.heap.size) 53 i0 _ 13 136 Tryz.underlying31 hi hz0 hz1 hz2 rfl (by omega) (.slice (some ⟨w.heap.size,0,none⟩) 0 0) 0 [] rfl (World.ownsRow_lit w #[] 0 (sB _) (by simp[maxLen]) (by simp)) _ (some ad) n c (eF l) rfl (aA HR.o ((sA _ w).alloc (sB _) _)) (rH l) ?c1 ?c2 ?c3 ?_)
  try case c1=>simp only[maxLen];omega
  try case c2=>omega
  try case c3=>simp
  intro v4 w4 ho4 hg4 hat4;have HW4:Hid (Below w.heap.size w w4):=((sA _ w).alloc (sB _) _).grown hg4 (by simp) (fun g hg=>by simp[Value.ownBlock]at hg;omega);have ho5:w4.ownsRow w.heap.size 53 13 v4 n (eF l):=by simpa using ho4
  obtain⟨A',c',rfl,-,-,-⟩:=aC.of_own ho5
  have HO:=Hi ho5;clear ho4 ho5 hg4 hat4;go_wp2_with fail
  go_ret;exact⟨_,_,rfl,HO.o,HW4.o⟩
theorem equalR_any(l l2:List Rf)(A A2:Option Addr)(c c2:Nat)(w:World)(hr:aC (fun k=>k<w.heap.size) w 2 A l.length (aF l))(hr2:aC (fun k=>k<w.heap.size) w 2 A2 l2.length (aF l2))(hl:l.length≤9223372036854775807)(hl2:l2.length≤9223372036854775807):
 Calls Tryz.prog 83 #[.slice A l.length c,.slice A2 l2.length c2] w fun e w'=>e=.returned (.bool (decide (l=l2)))∧Below w.heap.size w w':=by
 obtain⟨n,hn⟩:∃n,l.length=n:=⟨_,rfl⟩
 obtain⟨n2,hn2⟩:∃n2,l2.length=n2:=⟨_,rfl⟩
 have HN:=Hi hn;have HN2:=Hi hn2;have HR:=Hi hr;have HR2:=Hi hr2;rw[hn]at hl;rw[hn2]at hl2;rw[hn,hn2];clear hr hr2;by_cases hnn:n=n2
 ·subst hnn;clear hn hn2;go_enter Tryz.func83,Tryz.ntmps83;go_wp2_with fail
  go_loopw [5,13] (fun _ s13 wr=>∃k:Nat,s13=.int .i64 k∧k≤n∧Hid (l.take k=l2.take k)∧∃m,wr=w.drewN m) (fun _ s13 _=>n-(intOf s13).toNat)
  case atStart=>exact⟨0,rfl,by omega,by show _=_;simp,0,rfl⟩
  case round =>
   obtain⟨k,rfl,hk,HI,m,rfl⟩:=hrel
   by_cases hlt:k<n
   ·obtain⟨b1,o1,rfl,-,hc1⟩:=HR.o.at_ (by rw[HN.o];omega) (by omega)
    obtain⟨b2,o2,rfl,-,hc2⟩:=HR2.o.at_ (by rw[HN2.o];omega) (by omega)
    obtain⟨x,hx⟩:∃x,l[k]?=some x:=⟨_,sC (by rw[HN.o];exact hlt)⟩
    obtain⟨y,hy⟩:∃y,l2[k]?=some y:=⟨_,sC (by rw[HN2.o];exact hlt)⟩
    have x1:w.cell? ⟨b1,o1+k*2,none⟩=some (.int .i64 x.1):=hc1 _ _ (aN hx).1;have x2:w.cell? ⟨b1,o1+k*2+1,none⟩=some (.int .i64 x.2):=hc1 _ _ (aN hx).2;have y1:w.cell? ⟨b2,o2+k*2,none⟩=some (.int .i64 y.1):=hc2 _ _ (aN hy).1;have y2:w.cell? ⟨b2,o2+k*2+1,none⟩=some (.int .i64 y.2):=hc2 _ _ (aN hy).2;have E:=fun w=>eq_ref x.1 x.2 y.1 y.2 w
    by_cases hxy:x=y
    ·have HI2:Hid (l.take (k+1)=l2.take (k+1)):=by show _=_;rw[sQ,sQ,HI.o,hx,hy,hxy]
     have e1:decide ((x.1,x.2)=(y.1,y.2))=true:=sH hxy;rw[e1]at E;clear hc1 hc2 hx hy hxy e1;go_wp2_with fail
     go_quiet (fail)
     change Exit.then _ _ _ _ ((w.drewN m).drewN nq);have HW:Hid ((w.drewN m).drewN nq=w.drewN (m+nq)):=by show _=_;rw[tV]
     generalize (w.drewN m).drewN nq=w3 at HW ⊢;clear x1 x2 y1 y2 E;go_wp2_with fail
     go_roundw
     case rel=>exact⟨k+1,by go_num,by omega,HI2,_,HW.o⟩
     case measure=>simp[intOf];omega
    ·have HE:Hid (decide (l=l2)=false):=sI fun e=>hxy (by rw[e,hy]at hx;cases hx;rfl)
     have e1:decide ((x.1,x.2)=(y.1,y.2))=false:=sI hxy;rw[e1]at E;clear hc1 hc2 hx hy hxy e1;go_wp2_with fail
     go_quiet (fail)
     go_wp2_with fail
     go_ret;exact⟨by rw[HE.o];rfl,by rw[tV];exact aH (sA _ w) _⟩
   ·have HE:Hid (decide (l=l2)=true):=sH (by have:=HI.o;rwa [sL (by rw[HN.o];omega),sL (by rw[HN2.o];omega)]at this);go_wp2_with fail
    go_ret;exact⟨by rw[HE.o];rfl,aH (sA _ w) _⟩
 ·have HE:Hid (decide (l=l2)=false):=sI fun e=>hnn (by rw[←hn,←hn2,e])
  have hd:((n:Int) != (n2:Int))=true:=by simp;omega
  clear hn hn2;go_enter Tryz.func83,Tryz.ntmps83;go_wp2_with fail
  go_ret;exact⟨by rw[HE.o];rfl,sA _ _⟩
theorem equalI_any(l l2:List Rf)(A A2:Option Addr)(c c2:Nat)(w:World)(hr:aC (fun k=>k<w.heap.size) w 2 A l.length (aF l))(hr2:aC (fun k=>k<w.heap.size) w 2 A2 l2.length (aF l2))(hl:l.length≤9223372036854775807)(hl2:l2.length≤9223372036854775807):
 Calls Tryz.prog 86 #[.slice A l.length c,.slice A2 l2.length c2] w fun e w'=>e=.returned (.bool (decide (l=l2)))∧Below w.heap.size w w':=by
 obtain⟨n,hn⟩:∃n,l.length=n:=⟨_,rfl⟩
 obtain⟨n2,hn2⟩:∃n2,l2.length=n2:=⟨_,rfl⟩
 have HN:=Hi hn;have HN2:=Hi hn2;have HR:=Hi hr;have HR2:=Hi hr2;rw[hn]at hl;rw[hn2]at hl2;rw[hn,hn2];clear hr hr2;by_cases hnn:n=n2
 ·subst hnn;clear hn hn2;go_enter Tryz.func86,Tryz.ntmps86;go_wp2_with fail
  go_loopw [5,13] (fun _ s13 wr=>∃k:Nat,s13=.int .i64 k∧k≤n∧Hid (l.take k=l2.take k)∧∃m,wr=w.drewN m) (fun _ s13 _=>n-(intOf s13).toNat)
  case atStart=>exact⟨0,rfl,by omega,by show _=_;simp,0,rfl⟩
  case round =>
   obtain⟨k,rfl,hk,HI,m,rfl⟩:=hrel
   by_cases hlt:k<n
   ·obtain⟨b1,o1,rfl,-,hc1⟩:=HR.o.at_ (by rw[HN.o];omega) (by omega)
    obtain⟨b2,o2,rfl,-,hc2⟩:=HR2.o.at_ (by rw[HN2.o];omega) (by omega)
    obtain⟨x,hx⟩:∃x,l[k]?=some x:=⟨_,sC (by rw[HN.o];exact hlt)⟩
    obtain⟨y,hy⟩:∃y,l2[k]?=some y:=⟨_,sC (by rw[HN2.o];exact hlt)⟩
    have x1:w.cell? ⟨b1,o1+k*2,none⟩=some (.int .i64 x.1):=hc1 _ _ (aN hx).1;have x2:w.cell? ⟨b1,o1+k*2+1,none⟩=some (.int .i64 x.2):=hc1 _ _ (aN hx).2;have y1:w.cell? ⟨b2,o2+k*2,none⟩=some (.int .i64 y.1):=hc2 _ _ (aN hy).1;have y2:w.cell? ⟨b2,o2+k*2+1,none⟩=some (.int .i64 y.2):=hc2 _ _ (aN hy).2;have E:=fun w=>eq_idD x.1 x.2 y.1 y.2 w
    by_cases hxy:x=y
    ·have HI2:Hid (l.take (k+1)=l2.take (k+1)):=by show _=_;rw[sQ,sQ,HI.o,hx,hy,hxy]
     have e1:decide ((x.1,x.2)=(y.1,y.2))=true:=sH hxy;rw[e1]at E;clear hc1 hc2 hx hy hxy e1;go_wp2_with fail
     go_quiet (fail)
     change Exit.then _ _ _ _ ((w.drewN m).drewN nq);have HW:Hid ((w.drewN m).drewN nq=w.drewN (m+nq)):=by show _=_;rw[tV]
     generalize (w.drewN m).drewN nq=w3 at HW ⊢;clear x1 x2 y1 y2 E;go_wp2_with fail
     go_roundw
     case rel=>exact⟨k+1,by go_num,by omega,HI2,_,HW.o⟩
     case measure=>simp[intOf];omega
    ·have HE:Hid (decide (l=l2)=false):=sI fun e=>hxy (by rw[e,hy]at hx;cases hx;rfl)
     have e1:decide ((x.1,x.2)=(y.1,y.2))=false:=sI hxy;rw[e1]at E;clear hc1 hc2 hx hy hxy e1;go_wp2_with fail
     go_quiet (fail)
     go_wp2_with fail
     go_ret;exact⟨by rw[HE.o];rfl,by rw[tV];exact aH (sA _ w) _⟩
   ·have HE:Hid (decide (l=l2)=true):=sH (by have:=HI.o;rwa [sL (by rw[HN.o];omega),sL (by rw[HN2.o];omega)]at this);go_wp2_with fail
    go_ret;exact⟨by rw[HE.o];rfl,aH (sA _ w) _⟩
 ·have HE:Hid (decide (l=l2)=false):=sI fun e=>hnn (by rw[←hn,←hn2,e])
  have hd:((n:Int) != (n2:Int))=true:=by simp;omega
  clear hn hn2;go_enter Tryz.func86,Tryz.ntmps86;go_wp2_with fail
  go_ret;exact⟨by rw[HE.o];rfl,sA _ _⟩
end
section
def PredB(gf:Nat)(lb:Array Value)(l:List Rf)(p:Rf→Bool)(w:World):Prop :=
 ∀(W:World) (r:Rf),r∈l→Below w.heap.size w W→Calls Tryz.prog gf (#[.agg #[.int .i64 r.1,.int .i64 r.2]]++lb) W fun e w'=>e=.returned (.bool (p r))∧Below W.heap.size W w'
def rU(p:Rf→Bool)(l:List Rf):Int:=match l.findIdx? p with|some k=>(k:Int)|none=>-1
theorem idx_some(p:Rf→Bool):∀ {l:List Rf} {k:Nat} {x:Rf},l[k]?=some x→p x=true→(∀y∈l.take k,p y=false)→l.findIdx? p=some k
 | [],_,_,h,_,_=>by simp at h
 |a::l,0,x,h,hp,_=>by
  simp only[List.getElem?_cons_zero,tW]at h;subst h;simp[List.findIdx?_cons,hp]
 |a::l,k+1,x,h,hp,hn=>by
  have ha:p a=false:=hn a (by simp);have ih:=idx_some p (l:=l) (k:=k) (x:=x) (by simpa using h) hp fun y hy=>hn y (by simp[hy])
  rw[List.findIdx?_cons,ha,ih];simp
theorem idx_none(p:Rf→Bool){l:List Rf}(h:∀y∈l,p y=false):l.findIdx? p=none:=wG.2 h
theorem take_snoc_all{p:Rf→Bool}{l:List Rf}{k:Nat}{x:Rf}(hx:l[k]?=some x)(h:∀y∈l.take k,p y=false)(hp:p x=false):∀y∈l.take (k+1),p y=false:=by
 intro y hy;rw[sQ,hx]at hy;rcases sG.1 hy with hy|hy
 ·exact h y hy
 ·simp at hy;rw[hy];exact hp
theorem rT(l:List Rf)(A:Option Addr)(c:Nat)(w:World)(hr:aC (fun k=>k<w.heap.size) w 2 A l.length (aF l))(hl:l.length≤9223372036854775807)(gf:Nat)(lb:Array Value)(p:Rf→Bool)
 (eg:∀args w,(callFunc gf args).run Tryz.prog w=.ok (.enter gf args) w) (hp:PredB gf lb l p w) :
 Calls Tryz.prog 45 #[.slice A l.length c,.func (.func gf) #[] lb] w fun e w'=>e=.returned (.int .i64 (rU p l))∧Below w.heap.size w w':=by
 obtain⟨n,hn⟩:∃n,l.length=n:=⟨_,rfl⟩
 have HN:=Hi hn;have HR:=Hi hr;have HP:=Hi hp;rw[hn]at hl ⊢;clear hn hr hp;go_enter Tryz.func45,Tryz.ntmps45;go_wp2_with fail
 go_loopw [5,8] (fun _ s8 wr=>∃k:Nat,s8=.int .i64 k∧k≤n∧Hid (∀y∈l.take k,p y=false)∧Hid (Below w.heap.size w wr)) (fun _ s8 _=>n-(intOf s8).toNat)
 case atStart=>exact⟨0,rfl,by omega,by show ∀y∈_,_;simp,sA _ _⟩
 case round =>
  obtain⟨k,rfl,hk,HI,HW⟩:=hrel
  by_cases hlt:k<n
  ·obtain⟨b1,o1,rfl,-,hc1⟩:=(aA HR.o HW.o).at_ (by rw[HN.o];omega) (by omega)
   obtain⟨x,hx⟩:∃x,l[k]?=some x:=⟨_,sC (by rw[HN.o];exact hlt)⟩
   have x1:wr.cell? ⟨b1,o1+k*2,none⟩=some (.int .i64 x.1):=hc1 _ _ (aN hx).1;have x2:wr.cell? ⟨b1,o1+k*2+1,none⟩=some (.int .i64 x.2):=hc1 _ _ (aN hx).2;have HX:=Hi hx;clear hc1 hx;go_wp2_with fail
   refine(HP.o wr x (sJ HX.o) HW.o).mono ?_
   rintro e w2 ⟨rfl,hb⟩;replace HW:Hid (Below w.heap.size w w2):=HW.o.trans (hb.mono HW.o.size);clear hb x1 x2;cases hpx:p x with
   |true =>
    have HE:Hid (rU p l=(k:Int)):=by show _=_;unfold rU;rw[idx_some p HX.o hpx HI.o]
    clear hpx;go_wp2_with fail
    go_ret;exact⟨by rw[HE.o];rfl,HW.o⟩
   |false =>
    have HI2:Hid (∀y∈l.take (k+1),p y=false):=take_snoc_all HX.o HI.o hpx;clear hpx;go_wp2_with fail
    go_roundw
    case rel=>exact⟨k+1,by go_num,by omega,HI2,HW⟩
    case measure=>simp[intOf];omega
  ·have HE:Hid (rU p l=-1):=by show _=_;unfold rU;rw[idx_none p (by have:=HI.o;rwa [sL (by rw[HN.o];omega)]at this)]
   go_wp2_with fail
   go_ret;exact⟨by rw[HE.o];rfl,HW.o⟩
theorem idxP_nonneg(p:Rf→Bool)(l:List Rf):decide (0≤rU p l)=l.any p:=by
 unfold rU;cases h:l.findIdx? p with
 |none =>
  have h':∀x∈l,p x=false:=wG.1 h;rw[show l.any p=false from List.any_eq_false.2 fun x hx=>by simp[h' x hx]];rfl
 |some k =>
  have h':l.any p=true:=by
   cases ha:l.any p with
   |true=>rfl
   |false =>
    have:=wG.2 (fun x hx=>by have:=List.any_eq_false.1 ha x hx;simpa using this)
    rw[h]at this;cases this
  rw[h'];exact sH (by show(0:Int)≤(k:Int);omega)
theorem lY(l:List Rf)(A:Option Addr)(c:Nat)(w:World)(hr:aC (fun k=>k<w.heap.size) w 2 A l.length (aF l))(hl:l.length≤9223372036854775807)(gf:Nat)(lb:Array Value)(p:Rf→Bool)
 (eg:∀args w,(callFunc gf args).run Tryz.prog w=.ok (.enter gf args) w) (hp:PredB gf lb l p w) :
 Calls Tryz.prog 47 #[.slice A l.length c,.func (.func gf) #[] lb] w fun e w'=>e=.returned (.bool (l.any p))∧Below w.heap.size w w':=by
 have C1:=rT l A c w hr hl gf lb p eg hp;have hi:=idxP_nonneg p l;have hi':decide (rU p l≥0)=l.any p:=hi;generalize rU p l=ix at C1 hi hi';generalize l.any p=ok at hi hi' ⊢;clear hr hp eg;go_enter Tryz.func47,Tryz.ntmps47;go_wp2_with fail
 go_at_call 45;refine C1.mono ?_;rintro e w2 ⟨rfl,hb⟩;go_wp2_with fail
 go_ret;exact⟨rfl,hb⟩
structure HB(w:World)(g bh:Nat)(V2 V3:Value)(L:List ChD):Prop where
 blk:Blk w g 93 #[.map (some bh),V2,V3]
 mh:dS w bh L
theorem HB.below{w w':World}{g bh:Nat}{V2 V3:Value}{L:List ChD}(h:HB w g bh V2 V3 L)(hb:Below w.heap.size w w'):HB w' g bh V2 V3 L :=
 ⟨h.blk.keep (hb.block _ h.blk.lt),aJ.keep h.mh (hb.block _ (aJ.lt h.mh))⟩
theorem ready1_any(L:List ChD)(r:Rf)(hr:eL r)(g bh q:Nat)(V2 V3:Value)(w:World)(hB:HB w g bh V2 V3 L)(hq:w.cell? ⟨q,0,none⟩=some (.pointer (some ⟨g,0,none⟩)))(hql:q<w.heap.size):
 Calls Tryz.prog 90 (#[.agg #[.int .i64 r.1,.int .i64 r.2]]++#[.pointer (some ⟨q,0,none⟩)]) w fun e w'=>e=.returned (.bool (!decide (r∈aB L)))∧Below w.heap.size w w':=by
 have hW:Below w.heap.size w (w.alloc (.cells #[.int .i64 r.1,.int .i64 r.2] 45)):=(sA _ w).alloc (sB _) _;have hQ:=Blk.new w 45 #[.int .i64 r.1,.int .i64 r.2];have HQ:=Hi hQ;have HW:=Hi hW;have HBB:=Hi (hB.below hW);have q1:(w.alloc (.cells #[.int .i64 r.1,.int .i64 r.2] 45)).cell? ⟨q,0,none⟩=some (.pointer (some ⟨g,0,none⟩)):=by rw[tP _ _ _ hql];exact hq
 clear hW hQ hB hq;obtain⟨ok,hok⟩:∃ok,decide (r∈aB L)=ok:=⟨_,rfl⟩
 rw[hok];show Calls _ _ #[_,_] _ _;go_enter Tryz.func90,Tryz.ntmps90;go_wp2_with fail
 generalize w.alloc (.cells #[.int .i64 r.1,.int .i64 r.2] 45)=V at *;obtain⟨r1,r2⟩:=ce2 HQ.o
 have C1:=has_any L r hr g bh V2 V3 V HBB.o.blk HBB.o.mh;rw[hok]at C1;go_wp2_with fail
 go_at_call 53;refine C1.mono ?_;rintro e w2 ⟨rfl,hb⟩;replace HW:Hid (Below w.heap.size w w2):=HW.o.trans (hb.mono HW.o.size);go_wp2_with fail
 go_ret;exact⟨rfl,HW.o⟩
theorem ready_eq(L:List ChD)(c:ChD):(!c.deps.any fun d=>!decide (d∈aB L))=aU L c:=by
 unfold aU;rw[List.not_any_eq_all_not];simp
theorem ready_any(L:List ChD)(c:ChD)(hd:∀d∈c.deps,eL d)(g bh:Nat)(V2 V3:Value)(w:World)(hB:HB w g bh V2 V3 L)(hc:ChIn (fun k=>k<w.heap.size) w c):
 Calls Tryz.prog 41 #[.pointer (some ⟨g,0,none⟩),c.v] w fun e w'=>e=.returned (.bool (aU L c))∧Below w.heap.size w w':=by
 have hW1:Below w.heap.size w (w.alloc (.cells #[.pointer (some ⟨g,0,none⟩)] 25)):=(sA _ w).alloc (sB _) _;have hQ1:=Blk.new w 25 #[.pointer (some ⟨g,0,none⟩)];generalize hV1:w.alloc (.cells #[.pointer (some ⟨g,0,none⟩)] 25)=V1 at hW1 hQ1;have hs1:V1.heap.size=w.heap.size+1:=by rw[←hV1];simp
 have hW2:Below w.heap.size w (V1.alloc (.cells #[.int .i64 c.a,.int .i64 c.s,.int .i64 c.st,.slice c.DA c.deps.length c.DC,.slice c.OA c.ops.length c.OC] 33)):=hW1.alloc hW1.size _;have hQ2:=Blk.new V1 33 #[.int .i64 c.a,.int .i64 c.s,.int .i64 c.st,.slice c.DA c.deps.length c.DC,.slice c.OA c.ops.length c.OC];have hQ3:=hQ1.keep (w':=V1.alloc (.cells #[.int .i64 c.a,.int .i64 c.s,.int .i64 c.st,.slice c.DA c.deps.length c.DC,.slice c.OA c.ops.length c.OC] 33)) (((sA _ V1).alloc (sB _) _).block _ hQ1.lt);have HW:=Hi hW2;have HBB:=Hi (hB.below hW2);have HC:=Hi (hc.keep fun k hk=>hW2.block k hk);have HCD:=Hi (aA hc.hd hW2);have hdl:=hc.hdl;have he:=ready_eq L c;rw[←he];obtain⟨ok,hok⟩:∃ok,(c.deps.any fun d=>!decide (d∈aB L))=ok:=⟨_,rfl⟩
 rw[hok];have EG:∀args w,(callFunc 90 args).run Tryz.prog w=.ok (.enter 90 args) w:=enters_of Tryz.func90 (by kernel_rfl) (wV (show Tryz.f90.body.isSome=true by kernel_rfl)).symm;unfold ChD.v;clear hB hc hW1 hW2;go_enter Tryz.func41,Tryz.ntmps41;go_wp2_with fail
 generalize hV2:V1.alloc (.cells #[.int .i64 c.a,.int .i64 c.s,.int .i64 c.st,.slice c.DA c.deps.length c.DC,.slice c.OA c.ops.length c.OC] 33)=V2' at *;have hqc:=cZ hQ3 0 rfl;have C1:=lY c.deps c.DA c.DC V2' HCD.o hdl 90 #[.pointer (some ⟨w.heap.size,0,none⟩)] (fun d=>!decide (d∈aB L)) EG
  (fun W r hr hb=>ready1_any L r (hd r hr) g bh w.heap.size V2 V3 W (HBB.o.below hb) ((sK (hb.block _ hQ3.lt)).trans hqc) (sD hQ3.lt hb.size))
 rw[hok]at C1;go_at_call 47;refine C1.mono ?_;rintro e w2 ⟨rfl,hb⟩;replace HW:Hid (Below w.heap.size w w2):=HW.o.trans (hb.mono HW.o.size);go_wp2_with fail
 go_ret;exact⟨rfl,HW.o⟩
end
section
theorem kP:∀(os:List OpD) (i:Nat) (o:OpD) (A:Option Addr) (c:Nat),os[i]?=some o→(eF os).set (i*13+12) (.slice A o.l.length c)=eF (os.set i { o with A:=A,c:=c })
 | [],i,o,A,c,h=>by simp at h
 |x::os,0,o,A,c,h=>by
  simp only[List.getElem?_cons_zero,tW]at h;subst h;rfl
 |x::os,i+1,o,A,c,h=>by
  have ih:=kP os i o A c (by simpa using h);rw[show(i+1)*13+12=(i*13+12)+13 from by omega,rY];show(opC x++eF os).set _ _=opC x++eF _
  rw[←ih,List.set_append];rw[sT (by simp[opC])];rw[show i*13+12+13-(opC x).length=i*13+12 from by simp[opC]]
structure OpsUp(w0 w:World)(l os:List OpD)(i:Nat)(g:Nat):Prop where
 len:os.length=l.length
 bs:os.map base=l.map base
 old:∀j,i≤j→os[j]?=l[j]?
 new_:∀j o,j<i→os[j]?=some o→aC (fun k=>w0.heap.size+2≤k∧k<w.heap.size∧k≠g) w 2 o.A o.l.length (aF o.l)
theorem map_set_base{os:List OpD}{i:Nat}{o:OpD}(h:os[i]?=some o)(A:Option Addr)(c:Nat):(os.set i { o with A:=A,c:=c }).map base=os.map base:=by
 rw[List.map_set];refine List.ext_getElem? fun j=>?_
 rw[List.getElem?_set];split
 ·rename_i hij;subst hij;obtain⟨hi,he⟩:=sE.1 h
  rw[tA (by simpa using hi),uQ,h];rfl
 ·rfl
theorem OpsUp.step{w0 w w':World}{l os:List OpD}{i g:Nat}(h:OpsUp w0 w l os i g){o:OpD}(ho:os[i]?=some o){A:Option Addr}{c:Nat}(hs:w.heap.size≤w'.heap.size)
 (hk:∀k,w0.heap.size+2≤k→k<w.heap.size→k≠g→w'.heap[k]?=w.heap[k]?) (hr:aC (fun k=>w0.heap.size+2≤k∧k<w'.heap.size∧k≠g) w' 2 A o.l.length (aF o.l)) :
 OpsUp w0 w' l (os.set i { o with A:=A,c:=c }) (i+1) g:=by
 refine⟨by rw[List.length_set];exact h.len,by rw[map_set_base ho];exact h.bs,fun j hj=>?_,fun j o' hj ho'=>?_⟩
 ·rw[List.getElem?_set_ne (by omega)];exact h.old j (by omega)
 ·by_cases hij:i=j
  ·subst hij;rw[List.getElem?_set_self (sE.1 ho).1]at ho';cases ho';exact hr
  ·rw[List.getElem?_set_ne hij]at ho';exact((h.new_ j o' (by omega) ho').keep fun k hk'=>hk k hk'.1 hk'.2.1 hk'.2.2).more fun k hk'=>⟨hk'.1,sD hk'.2.1 hs,hk'.2.2⟩
theorem clone_any(c:ChD)(w:World)(hc:ChIn (fun k=>k<w.heap.size) w c)(h1:c.deps.length≤1000000)(h2:c.ops.length≤1000000)(h3:∀o∈c.ops,o.l.length≤1000000):
 Calls Tryz.prog 40 #[c.v] w fun e w'=>∃c':ChD,e=.returned c'.v∧c'.base=c.base∧ChIn (fun k=>w.heap.size≤k∧k<w'.heap.size) w' c'∧Below w.heap.size w w':=by
 have hres:Tryz.f40.results=#[.cell 2 33]:=by kernel_rfl
 have HC:=Hi hc;have HH:=Hi h3;have hQ1:=Blk.new w 33 #[.int .i64 c.a,.int .i64 c.s,.int .i64 c.st,.slice c.DA c.deps.length c.DC,.slice c.OA c.ops.length c.OC];have hW1:Below w.heap.size w (w.alloc (.cells #[.int .i64 c.a,.int .i64 c.s,.int .i64 c.st,.slice c.DA c.deps.length c.DC,.slice c.OA c.ops.length c.OC] 33)):=(sA _ w).alloc (sB _) _;have hs1:(w.alloc (.cells #[.int .i64 c.a,.int .i64 c.s,.int .i64 c.st,.slice c.DA c.deps.length c.DC,.slice c.OA c.ops.length c.OC] 33)).heap.size=w.heap.size+1:=by simp
 unfold ChD.v;clear hc h3;go_enter Tryz.func40,Tryz.ntmps40;go_upto_region 1 with fail
 generalize w.alloc (.cells #[.int .i64 c.a,.int .i64 c.s,.int .i64 c.st,.slice c.DA c.deps.length c.DC,.slice c.OA c.ops.length c.OC] 33)=V1 at *;have HQ:Hid (Blk (V1.alloc (.cells #[.int .i64 0,.int .i64 0,.int .i64 0,.slice none 0 0,.slice none 0 0] 33)) w.heap.size 33 #[.int .i64 c.a,.int .i64 c.s,.int .i64 c.st,.slice c.DA c.deps.length c.DC,.slice c.OA c.ops.length c.OC]):=hQ1.keep (((sA _ V1).alloc (sB _) _).block _ hQ1.lt);have HQR:Hid (Blk (V1.alloc (.cells #[.int .i64 0,.int .i64 0,.int .i64 0,.slice none 0 0,.slice none 0 0] 33)) (w.heap.size+1) 33 #[.int .i64 0,.int .i64 0,.int .i64 0,.slice none 0 0,.slice none 0 0]):=by show Blk _ _ _ _;rw[←hs1];exact Blk.new V1 _ _
 have HW:Hid (Below w.heap.size w (V1.alloc (.cells #[.int .i64 0,.int .i64 0,.int .i64 0,.slice none 0 0,.slice none 0 0] 33))):=hW1.alloc hW1.size _;clear hQ1 hW1;generalize V1.alloc (.cells #[.int .i64 0,.int .i64 0,.int .i64 0,.slice none 0 0,.slice none 0 0] 33)=V at *;have hsV:w.heap.size+1<V.heap.size:=HQR.o.lt;have c3:=cZ HQ.o 3 rfl;have C1:=cloneR_any c.deps (fun k=>k<V.heap.size) c.DA c.DC V (aA HC.o.hd HW.o) (fun _ h=>h) h1;go_wp2_with fail
 go_at_call 87;refine C1.mono ?_;rintro e w2 ⟨A1,k1,rfl,ho,hb⟩;have HO1:Hid (w2.ownsRow (w.heap.size+2) 45 2 (.slice A1 c.deps.length k1) c.deps.length (aF c.deps)):=bG ho fun g hg=>by have:=(aD ho hg).1;omega
 replace HQ:=Hi (HQ.o.keep (hb.block _ HQ.o.lt));replace HQR:=Hi (HQR.o.keep (hb.block _ HQR.o.lt));replace HW:Hid (Below w.heap.size w w2):=HW.o.trans (hb.mono HW.o.size);have hs2:w.heap.size+1<w2.heap.size:=HQR.o.lt;clear hb ho C1 c3 hsV hs1;have t1:=cZ HQ.o 3 rfl;have t2:w2.frozen? ⟨w.heap.size,3,none⟩=false:=HQ.o.frozen 3;go_upto_region 2 with fail
 have HO2:Hid ((w2.setCell ⟨w.heap.size,3,none⟩ (.slice A1 c.deps.length k1)).ownsRow (w.heap.size+2) 45 2 (.slice A1 c.deps.length k1) c.deps.length (aF c.deps)) :=
  aT HO1.o fun k hk=>sU _ _ _ _ (by have:=(aD HO1.o hk).1;show k≠w.heap.size;omega)
 replace HQ:Hid (Blk (w2.setCell ⟨w.heap.size,3,none⟩ (.slice A1 c.deps.length k1)) w.heap.size 33 #[.int .i64 c.a,.int .i64 c.s,.int .i64 c.st,.slice A1 c.deps.length k1,.slice c.OA c.ops.length c.OC]):=HQ.o.set_ 3 _;replace HQR:=Hi (HQR.o.far (p:=⟨w.heap.size,3,none⟩) (by show w.heap.size+1≠w.heap.size;omega) (.slice A1 c.deps.length k1));replace HW:Hid (Below w.heap.size w (w2.setCell ⟨w.heap.size,3,none⟩ (.slice A1 c.deps.length k1))):=HW.o.setCell (sB _) _;clear t1 t2 HO1 hs2;generalize w2.setCell ⟨w.heap.size,3,none⟩ (.slice A1 c.deps.length k1)=V2 at HO2 HQ HQR HW ⊢;have c4:=cZ HQ.o 4 rfl;have C2:=cloneO_any c.ops (fun k=>k<V2.heap.size) c.OA c.OC V2 (aA HC.o.ho HW.o) (fun _ h=>h) h2;go_wp2_with fail
 go_at_call 88;refine C2.mono ?_;rintro e w3 ⟨A2,k2,rfl,ho,hb⟩;have hsV:w.heap.size+1<V2.heap.size:=HQR.o.lt;have HO3:Hid (w3.ownsRow (w.heap.size+2) 53 13 (.slice A2 c.ops.length k2) c.ops.length (eF c.ops)):=bG ho fun g hg=>by have:=(aD ho hg).1;omega
 have HNE:Hid (∀k,(Value.slice A1 c.deps.length k1).ownBlock=some k→(Value.slice A2 c.ops.length k2).ownBlock≠some k):=fun k e e'=>by have:=(aD HO2.o e).2;have:=(aD ho e').1;omega
 replace HO2:=Hi (aO HO2.o hb);replace HQ:=Hi (HQ.o.keep (hb.block _ HQ.o.lt));replace HQR:=Hi (HQR.o.keep (hb.block _ HQR.o.lt));replace HW:Hid (Below w.heap.size w w3):=HW.o.trans (hb.mono HW.o.size);clear hb ho C2 c4 hsV;have t1:=cZ HQ.o 4 rfl;have t2:w3.frozen? ⟨w.heap.size,4,none⟩=false:=HQ.o.frozen 4;go_upto_region 3 with fail
 have HO4:Hid ((w3.setCell ⟨w.heap.size,4,none⟩ (.slice A2 c.ops.length k2)).ownsRow (w.heap.size+2) 53 13 (.slice A2 c.ops.length k2) c.ops.length (eF c.ops)) :=
  aT HO3.o fun k hk=>sU _ _ _ _ (by have:=(aD HO3.o hk).1;show k≠w.heap.size;omega)
 have HO5:Hid ((w3.setCell ⟨w.heap.size,4,none⟩ (.slice A2 c.ops.length k2)).ownsRow (w.heap.size+2) 45 2 (.slice A1 c.deps.length k1) c.deps.length (aF c.deps)) :=
  aT HO2.o fun k hk=>sU _ _ _ _ (by have:=(aD HO2.o hk).1;show k≠w.heap.size;omega)
 replace HQ:Hid (Blk (w3.setCell ⟨w.heap.size,4,none⟩ (.slice A2 c.ops.length k2)) w.heap.size 33 #[.int .i64 c.a,.int .i64 c.s,.int .i64 c.st,.slice A1 c.deps.length k1,.slice A2 c.ops.length k2]):=HQ.o.set_ 4 _;replace HQR:=Hi (HQR.o.far (p:=⟨w.heap.size,4,none⟩) (by show w.heap.size+1≠w.heap.size;omega) (.slice A2 c.ops.length k2));replace HW:Hid (Below w.heap.size w (w3.setCell ⟨w.heap.size,4,none⟩ (.slice A2 c.ops.length k2))):=HW.o.setCell (sB _) _;clear t1 t2 HO2 HO3;generalize w3.setCell ⟨w.heap.size,4,none⟩ (.slice A2 c.ops.length k2)=V3 at HO4 HO5 HQ HQR HW ⊢;obtain⟨n,hn⟩:∃n,c.ops.length=n:=⟨_,rfl⟩
 have HN:=Hi hn;rw[hn]at HO4 HQ HNE h2;rw[hn];clear hn;obtain⟨g2,hg2⟩:∃g2,0<n→A2=some ⟨g2,0,none⟩:=by
  rcases vH n with h|h
  ·exact⟨0,fun h'=>by omega⟩
  ·obtain⟨g2,_,hv,_⟩:=HO4.o.form h
   simp only[tS]at hv;exact⟨g2,fun _=>hv.1⟩
 have HG2:=Hi hg2;clear hg2;have c4:=cZ HQ.o 4 rfl;go_wp2_with fail
 clear c4;go_loopw [3,15] (fun _ s15 wr=>∃(i:Nat) (os:List OpD),s15=.int .i64 i∧i≤n∧Hid (OpsUp w wr c.ops os i g2)∧Hid (Blk wr w.heap.size 33 #[.int .i64 c.a,.int .i64 c.s,.int .i64 c.st,.slice A1 c.deps.length k1,.slice A2 n k2])∧Hid (Blk wr (w.heap.size+1) 33 #[.int .i64 0,.int .i64 0,.int .i64 0,.slice none 0 0,.slice none 0 0])∧Hid (wr.ownsRow (w.heap.size+2) 45 2 (.slice A1 c.deps.length k1) c.deps.length (aF c.deps))∧Hid (wr.ownsRow (w.heap.size+2) 53 13 (.slice A2 n k2) n (eF os))∧Hid (Below w.heap.size w wr)) (fun _ s15 _=>n-(intOf s15).toNat)
 case atStart=>exact⟨0,c.ops,rfl,by omega,⟨rfl,rfl,fun _ _=>rfl,fun j o hj=>by omega⟩,HQ,HQR,HO5,HO4,HW⟩
 case round =>
  clear HQ HQR HO5 HO4 HW;obtain⟨i,os,rfl,hi,HU,HQ,HQR,HO1,HO2,HW⟩:=hrel
  by_cases hlt:i<n
  ·have ha:=HG2.o (by omega);subst ha;obtain⟨o,ho⟩:∃o,c.ops[i]?=some o:=⟨_,sC (by rw[HN.o];exact hlt)⟩
   have hos:os[i]?=some o:=by rw[HU.o.old i (sB _)];exact ho
   have hom:=sJ ho;have HOI:=Hi (HC.o.hp o hom);have hol:=HH.o o hom;have HOS:=Hi hos;have hgb:w.heap.size+2≤g2∧g2<wr.heap.size:=aD HO2.o (by simp[Value.ownBlock]);have hql:w.heap.size<wr.heap.size:=HQ.o.lt;have c4:=cZ HQ.o 4 rfl;have e12:wr.cell? ⟨g2,i*13+12,none⟩=some (.slice o.A o.l.length o.c):=by
    rw[World.ownsRow.cellAt HO2.o (i*13+12) (by omega),bM hos 12 (by omega)];rfl
   have f12:wr.frozen? ⟨g2,i*13+12,none⟩=false:=World.ownsRow.frozenAt HO2.o _;have KS:∀V:World,Below wr.heap.size wr V→V.cell? ⟨w.heap.size,4,none⟩=some (.slice (some ⟨g2,0,none⟩) n k2)∧V.frozen? ⟨g2,i*13+12,none⟩=false:=fun V hv =>
    ⟨(sK (hv.block _ hql)).trans c4,(World.frozen?_of_block (hv.block _ hgb.2)).trans f12⟩
   have C3:=cloneI_any o.l (fun k=>k<wr.drew.heap.size) o.A o.c wr.drew (aA HOI.o.1 HW.o.drew) (fun _ h=>h) hol;have hd0:decide (0≤(i:Int))=true:=sH (by omega);have hd1:decide ((i:Int)<(n:Int))=true:=sH (by omega);clear ho hos hom;go_wp2_with fail
   refine wp_region_any (by kernel_rfl) ?_;change wpAny _ _ _ _ _ _ _ (World.drew _);refine wpAny_take (i:=0) (v:=?_) rfl (by kernel_rfl) (by kernel_rfl) (by kernel_rfl) (fun _ _ _ h=>h) (Or.inl ⟨by rfl,?_⟩) ?_
   rotate_left
   ·(intro w;go_simp;try with_reducible rfl)
   try simp only[Act.put,zA,zB,zC]
   refine wpAny_take (i:=2) (v:=?_) rfl (by kernel_rfl) (by kernel_rfl) (by kernel_rfl) (fun _ _ _ h=>h) (Or.inl ⟨by rfl,?_⟩) ?_
   rotate_left
   ·(intro w;go_simp;try with_reducible rfl)
   try simp only[Act.put,zA,zB,zC]
   refine wpAny_take (i:=3) (v:=?_) rfl (by kernel_rfl) (by kernel_rfl) (by kernel_rfl) (fun _ _ _ h=>h) (Or.inl ⟨by rfl,?_⟩) ?_
   rotate_left
   ·(intro w;go_simp;try with_reducible rfl)
   try simp only[Act.put,zA,zB,zC]
   refine wpAny_take (i:=5) (v:=?_) rfl (by kernel_rfl) (by kernel_rfl) (by kernel_rfl) (fun _ _ _ h=>h) (Or.inl ⟨by rfl,?_⟩) ?_
   rotate_left
   ·(intro w;go_simp;try with_reducible rfl)
   try simp only[Act.put,zA,zB,zC]
   refine wpAny_ready (rs:=[1,4]) (by kernel_rfl) (by simp) ?_;refine sR rfl (fun K hK=>?_) (sR rfl (fun K hK=>?_) tC)
   ·skip
    go_simp;refine hK _ _ ?_;clear hK K;try simp only[Act.put,zA,zB,zC]
    refine wpAny_ready (rs:=[4]) (by kernel_rfl) (by simp) ?_;refine sR rfl (fun K hK=>?_) tC;go_simp;refine hK _ _ ?_;clear hK K;try simp only[Act.put,zA,zB,zC]
    refine wpAny_take (i:=6) (v:=?_) rfl (by kernel_rfl) (by kernel_rfl) (by kernel_rfl) (fun _ _ _ h=>h) (Or.inl ⟨by rfl,?_⟩) ?_
    rotate_left
    ·(intro w;go_simp;try with_reducible rfl)
    try simp only[Act.put,zA,zB,zC]
    refine wpAny_take (i:=7) (v:=?_) rfl (by kernel_rfl) (by kernel_rfl) (by kernel_rfl) (fun _ _ _ h=>h) (Or.inl ⟨by rfl,?_⟩) ?_
    rotate_left
    ·(intro w;go_simp;try with_reducible rfl)
    try simp only[Act.put,zA,zB,zC]
    refine wpAny_ready (rs:=[8]) (by kernel_rfl) (by simp) ?_;refine sR rfl (fun K hK=>?_) tC;go_simp;refine hK _ _ ?_;clear hK K;try simp only[Act.put,zA,zB,zC]
    refine wpAny_ready (rs:=[9]) (by kernel_rfl) (by simp) ?_;refine sR rfl (fun K hK=>?_) tC;go_simp;refine C3.mono ?_;rintro e w7 ⟨A7,k7,rfl,ho7,hb7⟩;obtain⟨q1,q3⟩:=KS w7 ((sA _ wr).drew.trans hb7)
    have q2:w7.cell? ⟨g2,i*13+12,none⟩=some (.slice o.A o.l.length o.c):=(sK (w:=wr) (((sA _ wr).drew.trans hb7).block _ hgb.2)).trans e12;refine hK _ _ ?_;clear hK K;try simp only[Act.put,zA,zB,zC]
    refine wpAny_take (i:=10) (v:=?_) rfl (by kernel_rfl) (by kernel_rfl) (by kernel_rfl) (fun _ _ _ h=>h) (Or.inl ⟨by rfl,?_⟩) ?_
    rotate_left
    ·(intro w;go_simp;try with_reducible rfl)
    try simp only[Act.put,zA,zB,zC]
    refine wpAny_take (i:=11) (v:=?_) rfl (by kernel_rfl) (by kernel_rfl) (by kernel_rfl) (fun _ _ _ h=>h) (Or.inl ⟨by rfl,?_⟩) ?_
    rotate_left
    ·(intro w;go_simp;try with_reducible rfl)
    try simp only[Act.put,zA,zB,zC]
    refine wpAny_ready (rs:=[12]) (by kernel_rfl) (by simp) ?_;refine sR rfl (fun K hK=>?_) tC;go_simp;refine hK _ _ ?_;clear hK K;try simp only[Act.put,zA,zB,zC]
    refine wpAny_done (by kernel_rfl) ?_ _;have hb8:Below wr.heap.size wr w7:=(sA _ wr).drew.trans hb7;have hne:w.heap.size≠g2∧w.heap.size+1≠g2:=by omega
    have hsz:(w7.setCell ⟨g2,i*13+12,none⟩ (.slice A7 o.l.length k7)).heap.size=w7.heap.size:=by simp
    have HU2:Hid (OpsUp w (w7.setCell ⟨g2,i*13+12,none⟩ (.slice A7 o.l.length k7)) c.ops (os.set i { o with A:=A7,c:=k7 }) (i+1) g2):=by
     refine HU.o.step HOS.o (by rw[hsz];exact hb8.size) (fun k _ h2 h3=>(sU _ _ _ _ h3).trans (hb8.block k h2)) ?_;obtain⟨A',c',hv,-,-,hr⟩:=aC.of_own ho7
     simp only[tS,true_and]at hv;obtain⟨rfl,rfl⟩:=hv
     have hbd:∀k,(Value.slice A7 o.l.length k7).ownBlock=some k→wr.heap.size≤k∧k<w7.heap.size:=fun k hk=>aD ho7 hk
     refine(hr.keep fun k hk=>sU _ _ _ _ (by have:=hbd k hk;show k≠g2;omega)).more fun k hk=>?_
     have:=hbd k hk
     rw[hsz];have:=HQR.o.lt
     exact⟨by omega,by omega,by omega⟩
    have HQ2:=Hi ((HQ.o.keep (hb8.block _ HQ.o.lt)).far (p:=⟨g2,i*13+12,none⟩) hne.1 (.slice A7 o.l.length k7));have HQR2:=Hi ((HQR.o.keep (hb8.block _ HQR.o.lt)).far (p:=⟨g2,i*13+12,none⟩) hne.2 (.slice A7 o.l.length k7));have HO3:Hid ((w7.setCell ⟨g2,i*13+12,none⟩ (.slice A7 o.l.length k7)).ownsRow (w.heap.size+2) 45 2 (.slice A1 c.deps.length k1) c.deps.length (aF c.deps)) :=
     aT (aO HO1.o hb8) fun k hk=>sU _ _ _ _ fun e=>HNE.o k hk (by rw[show k=g2 from e];simp[Value.ownBlock])
    have HO4:Hid ((w7.setCell ⟨g2,i*13+12,none⟩ (.slice A7 o.l.length k7)).ownsRow (w.heap.size+2) 53 13 (.slice (some ⟨g2,0,none⟩) n k2) n (eF (os.set i { o with A:=A7,c:=k7 }))):=by
     show World.ownsRow _ _ _ _ _ _ _;rw[←kP os i o A7 k7 HOS.o];exact((aO HO2.o hb8).stored (i*13+12) _).1
    have HW2:Hid (Below w.heap.size w (w7.setCell ⟨g2,i*13+12,none⟩ (.slice A7 o.l.length k7))):=(HW.o.trans (hb8.mono HW.o.size)).setCell (by show w.heap.size≤g2;omega) _;clear q1 q2 q3 KS C3 c4 e12 f12 ho7 hb7 hb8 hsz;go_wp2_with fail
    first
     |exact⟨⟨i+1,_,by go_num,by omega,HU2,HQ2,HQR2,HO3,HO4,HW2⟩,by simp[intOf];omega⟩
     |(go_roundw
       case rel=>exact⟨i+1,_,by go_num,by omega,HU2,HQ2,HQR2,HO3,HO4,HW2⟩
       case measure=>simp[intOf];omega)
   ·skip
    go_simp;refine hK _ _ ?_;clear hK K;try simp only[Act.put,zA,zB,zC]
    refine wpAny_take (i:=6) (v:=?_) rfl (by kernel_rfl) (by kernel_rfl) (by kernel_rfl) (fun _ _ _ h=>h) (Or.inl ⟨by rfl,?_⟩) ?_
    rotate_left
    ·(intro w;go_simp;try with_reducible rfl)
    try simp only[Act.put,zA,zB,zC]
    refine wpAny_take (i:=7) (v:=?_) rfl (by kernel_rfl) (by kernel_rfl) (by kernel_rfl) (fun _ _ _ h=>h) (Or.inl ⟨by rfl,?_⟩) ?_
    rotate_left
    ·(intro w;go_simp;try with_reducible rfl)
    try simp only[Act.put,zA,zB,zC]
    refine wpAny_ready (rs:=[1,8]) (by kernel_rfl) (by simp) ?_;refine sR rfl (fun K hK=>?_) (sR rfl (fun K hK=>?_) tC)
    ·skip
     go_simp;refine hK _ _ ?_;clear hK K;try simp only[Act.put,zA,zB,zC]
     refine wpAny_ready (rs:=[8]) (by kernel_rfl) (by simp) ?_;refine sR rfl (fun K hK=>?_) tC;go_simp;refine hK _ _ ?_;clear hK K;try simp only[Act.put,zA,zB,zC]
     refine wpAny_ready (rs:=[9]) (by kernel_rfl) (by simp) ?_;refine sR rfl (fun K hK=>?_) tC;go_simp;refine C3.mono ?_;rintro e w7 ⟨A7,k7,rfl,ho7,hb7⟩;obtain⟨q1,q3⟩:=KS w7 ((sA _ wr).drew.trans hb7)
     have q2:w7.cell? ⟨g2,i*13+12,none⟩=some (.slice o.A o.l.length o.c):=(sK (w:=wr) (((sA _ wr).drew.trans hb7).block _ hgb.2)).trans e12;refine hK _ _ ?_;clear hK K;try simp only[Act.put,zA,zB,zC]
     refine wpAny_take (i:=10) (v:=?_) rfl (by kernel_rfl) (by kernel_rfl) (by kernel_rfl) (fun _ _ _ h=>h) (Or.inl ⟨by rfl,?_⟩) ?_
     rotate_left
     ·(intro w;go_simp;try with_reducible rfl)
     try simp only[Act.put,zA,zB,zC]
     refine wpAny_take (i:=11) (v:=?_) rfl (by kernel_rfl) (by kernel_rfl) (by kernel_rfl) (fun _ _ _ h=>h) (Or.inl ⟨by rfl,?_⟩) ?_
     rotate_left
     ·(intro w;go_simp;try with_reducible rfl)
     try simp only[Act.put,zA,zB,zC]
     refine wpAny_ready (rs:=[12]) (by kernel_rfl) (by simp) ?_;refine sR rfl (fun K hK=>?_) tC;go_simp;refine hK _ _ ?_;clear hK K;try simp only[Act.put,zA,zB,zC]
     refine wpAny_done (by kernel_rfl) ?_ _;have hb8:Below wr.heap.size wr w7:=(sA _ wr).drew.trans hb7;have hne:w.heap.size≠g2∧w.heap.size+1≠g2:=by omega
     have hsz:(w7.setCell ⟨g2,i*13+12,none⟩ (.slice A7 o.l.length k7)).heap.size=w7.heap.size:=by simp
     have HU2:Hid (OpsUp w (w7.setCell ⟨g2,i*13+12,none⟩ (.slice A7 o.l.length k7)) c.ops (os.set i { o with A:=A7,c:=k7 }) (i+1) g2):=by
      refine HU.o.step HOS.o (by rw[hsz];exact hb8.size) (fun k _ h2 h3=>(sU _ _ _ _ h3).trans (hb8.block k h2)) ?_;obtain⟨A',c',hv,-,-,hr⟩:=aC.of_own ho7
      simp only[tS,true_and]at hv;obtain⟨rfl,rfl⟩:=hv
      have hbd:∀k,(Value.slice A7 o.l.length k7).ownBlock=some k→wr.heap.size≤k∧k<w7.heap.size:=fun k hk=>aD ho7 hk
      refine(hr.keep fun k hk=>sU _ _ _ _ (by have:=hbd k hk;show k≠g2;omega)).more fun k hk=>?_
      have:=hbd k hk
      rw[hsz];have:=HQR.o.lt
      exact⟨by omega,by omega,by omega⟩
     have HQ2:=Hi ((HQ.o.keep (hb8.block _ HQ.o.lt)).far (p:=⟨g2,i*13+12,none⟩) hne.1 (.slice A7 o.l.length k7));have HQR2:=Hi ((HQR.o.keep (hb8.block _ HQR.o.lt)).far (p:=⟨g2,i*13+12,none⟩) hne.2 (.slice A7 o.l.length k7));have HO3:Hid ((w7.setCell ⟨g2,i*13+12,none⟩ (.slice A7 o.l.length k7)).ownsRow (w.heap.size+2) 45 2 (.slice A1 c.deps.length k1) c.deps.length (aF c.deps)) :=
      aT (aO HO1.o hb8) fun k hk=>sU _ _ _ _ fun e=>HNE.o k hk (by rw[show k=g2 from e];simp[Value.ownBlock])
     have HO4:Hid ((w7.setCell ⟨g2,i*13+12,none⟩ (.slice A7 o.l.length k7)).ownsRow (w.heap.size+2) 53 13 (.slice (some ⟨g2,0,none⟩) n k2) n (eF (os.set i { o with A:=A7,c:=k7 }))):=by
      show World.ownsRow _ _ _ _ _ _ _;rw[←kP os i o A7 k7 HOS.o];exact((aO HO2.o hb8).stored (i*13+12) _).1
     have HW2:Hid (Below w.heap.size w (w7.setCell ⟨g2,i*13+12,none⟩ (.slice A7 o.l.length k7))):=(HW.o.trans (hb8.mono HW.o.size)).setCell (by show w.heap.size≤g2;omega) _;clear q1 q2 q3 KS C3 c4 e12 f12 ho7 hb7 hb8 hsz;go_wp2_with fail
     first
      |exact⟨⟨i+1,_,by go_num,by omega,HU2,HQ2,HQR2,HO3,HO4,HW2⟩,by simp[intOf];omega⟩
      |(go_roundw
        case rel=>exact⟨i+1,_,by go_num,by omega,HU2,HQ2,HQR2,HO3,HO4,HW2⟩
        case measure=>simp[intOf];omega)
    ·skip
     go_simp;refine hK _ _ ?_;clear hK K;try simp only[Act.put,zA,zB,zC]
     refine wpAny_ready (rs:=[1,9]) (by kernel_rfl) (by simp) ?_;refine sR rfl (fun K hK=>?_) (sR rfl (fun K hK=>?_) tC)
     ·skip
      go_simp;refine hK _ _ ?_;clear hK K;try simp only[Act.put,zA,zB,zC]
      refine wpAny_ready (rs:=[9]) (by kernel_rfl) (by simp) ?_;refine sR rfl (fun K hK=>?_) tC;go_simp;refine C3.mono ?_;rintro e w7 ⟨A7,k7,rfl,ho7,hb7⟩;obtain⟨q1,q3⟩:=KS w7 ((sA _ wr).drew.trans hb7)
      have q2:w7.cell? ⟨g2,i*13+12,none⟩=some (.slice o.A o.l.length o.c):=(sK (w:=wr) (((sA _ wr).drew.trans hb7).block _ hgb.2)).trans e12;refine hK _ _ ?_;clear hK K;try simp only[Act.put,zA,zB,zC]
      refine wpAny_take (i:=10) (v:=?_) rfl (by kernel_rfl) (by kernel_rfl) (by kernel_rfl) (fun _ _ _ h=>h) (Or.inl ⟨by rfl,?_⟩) ?_
      rotate_left
      ·(intro w;go_simp;try with_reducible rfl)
      try simp only[Act.put,zA,zB,zC]
      refine wpAny_take (i:=11) (v:=?_) rfl (by kernel_rfl) (by kernel_rfl) (by kernel_rfl) (fun _ _ _ h=>h) (Or.inl ⟨by rfl,?_⟩) ?_
      rotate_left
      ·(intro w;go_simp;try with_reducible rfl)
      try simp only[Act.put,zA,zB,zC]
      refine wpAny_ready (rs:=[12]) (by kernel_rfl) (by simp) ?_;refine sR rfl (fun K hK=>?_) tC;go_simp;refine hK _ _ ?_;clear hK K;try simp only[Act.put,zA,zB,zC]
      refine wpAny_done (by kernel_rfl) ?_ _;have hb8:Below wr.heap.size wr w7:=(sA _ wr).drew.trans hb7;have hne:w.heap.size≠g2∧w.heap.size+1≠g2:=by omega
      have hsz:(w7.setCell ⟨g2,i*13+12,none⟩ (.slice A7 o.l.length k7)).heap.size=w7.heap.size:=by simp
      have HU2:Hid (OpsUp w (w7.setCell ⟨g2,i*13+12,none⟩ (.slice A7 o.l.length k7)) c.ops (os.set i { o with A:=A7,c:=k7 }) (i+1) g2):=by
       refine HU.o.step HOS.o (by rw[hsz];exact hb8.size) (fun k _ h2 h3=>(sU _ _ _ _ h3).trans (hb8.block k h2)) ?_;obtain⟨A',c',hv,-,-,hr⟩:=aC.of_own ho7
       simp only[tS,true_and]at hv;obtain⟨rfl,rfl⟩:=hv
       have hbd:∀k,(Value.slice A7 o.l.length k7).ownBlock=some k→wr.heap.size≤k∧k<w7.heap.size:=fun k hk=>aD ho7 hk
       refine(hr.keep fun k hk=>sU _ _ _ _ (by have:=hbd k hk;show k≠g2;omega)).more fun k hk=>?_
       have:=hbd k hk
       rw[hsz];have:=HQR.o.lt
       exact⟨by omega,by omega,by omega⟩
      have HQ2:=Hi ((HQ.o.keep (hb8.block _ HQ.o.lt)).far (p:=⟨g2,i*13+12,none⟩) hne.1 (.slice A7 o.l.length k7));have HQR2:=Hi ((HQR.o.keep (hb8.block _ HQR.o.lt)).far (p:=⟨g2,i*13+12,none⟩) hne.2 (.slice A7 o.l.length k7));have HO3:Hid ((w7.setCell ⟨g2,i*13+12,none⟩ (.slice A7 o.l.length k7)).ownsRow (w.heap.size+2) 45 2 (.slice A1 c.deps.length k1) c.deps.length (aF c.deps)) :=
       aT (aO HO1.o hb8) fun k hk=>sU _ _ _ _ fun e=>HNE.o k hk (by rw[show k=g2 from e];simp[Value.ownBlock])
      have HO4:Hid ((w7.setCell ⟨g2,i*13+12,none⟩ (.slice A7 o.l.length k7)).ownsRow (w.heap.size+2) 53 13 (.slice (some ⟨g2,0,none⟩) n k2) n (eF (os.set i { o with A:=A7,c:=k7 }))):=by
       show World.ownsRow _ _ _ _ _ _ _;rw[←kP os i o A7 k7 HOS.o];exact((aO HO2.o hb8).stored (i*13+12) _).1
      have HW2:Hid (Below w.heap.size w (w7.setCell ⟨g2,i*13+12,none⟩ (.slice A7 o.l.length k7))):=(HW.o.trans (hb8.mono HW.o.size)).setCell (by show w.heap.size≤g2;omega) _;clear q1 q2 q3 KS C3 c4 e12 f12 ho7 hb7 hb8 hsz;go_wp2_with fail
      first
       |exact⟨⟨i+1,_,by go_num,by omega,HU2,HQ2,HQR2,HO3,HO4,HW2⟩,by simp[intOf];omega⟩
       |(go_roundw
         case rel=>exact⟨i+1,_,by go_num,by omega,HU2,HQ2,HQR2,HO3,HO4,HW2⟩
         case measure=>simp[intOf];omega)
     ·skip
      go_simp;refine C3.mono ?_;rintro e w7 ⟨A7,k7,rfl,ho7,hb7⟩;obtain⟨q1,q3⟩:=KS w7 ((sA _ wr).drew.trans hb7)
      have q2:w7.cell? ⟨g2,i*13+12,none⟩=some (.slice o.A o.l.length o.c):=(sK (w:=wr) (((sA _ wr).drew.trans hb7).block _ hgb.2)).trans e12;refine hK _ _ ?_;clear hK K;try simp only[Act.put,zA,zB,zC]
      refine wpAny_ready (rs:=[1]) (by kernel_rfl) (by simp) ?_;refine sR rfl (fun K hK=>?_) tC;go_simp;refine hK _ _ ?_;clear hK K;try simp only[Act.put,zA,zB,zC]
      refine wpAny_take (i:=10) (v:=?_) rfl (by kernel_rfl) (by kernel_rfl) (by kernel_rfl) (fun _ _ _ h=>h) (Or.inl ⟨by rfl,?_⟩) ?_
      rotate_left
      ·(intro w;go_simp;try with_reducible rfl)
      try simp only[Act.put,zA,zB,zC]
      refine wpAny_take (i:=11) (v:=?_) rfl (by kernel_rfl) (by kernel_rfl) (by kernel_rfl) (fun _ _ _ h=>h) (Or.inl ⟨by rfl,?_⟩) ?_
      rotate_left
      ·(intro w;go_simp;try with_reducible rfl)
      try simp only[Act.put,zA,zB,zC]
      refine wpAny_ready (rs:=[12]) (by kernel_rfl) (by simp) ?_;refine sR rfl (fun K hK=>?_) tC;go_simp;refine hK _ _ ?_;clear hK K;try simp only[Act.put,zA,zB,zC]
      refine wpAny_done (by kernel_rfl) ?_ _;have hb8:Below wr.heap.size wr w7:=(sA _ wr).drew.trans hb7;have hne:w.heap.size≠g2∧w.heap.size+1≠g2:=by omega
      have hsz:(w7.setCell ⟨g2,i*13+12,none⟩ (.slice A7 o.l.length k7)).heap.size=w7.heap.size:=by simp
      have HU2:Hid (OpsUp w (w7.setCell ⟨g2,i*13+12,none⟩ (.slice A7 o.l.length k7)) c.ops (os.set i { o with A:=A7,c:=k7 }) (i+1) g2):=by
       refine HU.o.step HOS.o (by rw[hsz];exact hb8.size) (fun k _ h2 h3=>(sU _ _ _ _ h3).trans (hb8.block k h2)) ?_;obtain⟨A',c',hv,-,-,hr⟩:=aC.of_own ho7
       simp only[tS,true_and]at hv;obtain⟨rfl,rfl⟩:=hv
       have hbd:∀k,(Value.slice A7 o.l.length k7).ownBlock=some k→wr.heap.size≤k∧k<w7.heap.size:=fun k hk=>aD ho7 hk
       refine(hr.keep fun k hk=>sU _ _ _ _ (by have:=hbd k hk;show k≠g2;omega)).more fun k hk=>?_
       have:=hbd k hk
       rw[hsz];have:=HQR.o.lt
       exact⟨by omega,by omega,by omega⟩
      have HQ2:=Hi ((HQ.o.keep (hb8.block _ HQ.o.lt)).far (p:=⟨g2,i*13+12,none⟩) hne.1 (.slice A7 o.l.length k7));have HQR2:=Hi ((HQR.o.keep (hb8.block _ HQR.o.lt)).far (p:=⟨g2,i*13+12,none⟩) hne.2 (.slice A7 o.l.length k7));have HO3:Hid ((w7.setCell ⟨g2,i*13+12,none⟩ (.slice A7 o.l.length k7)).ownsRow (w.heap.size+2) 45 2 (.slice A1 c.deps.length k1) c.deps.length (aF c.deps)) :=
       aT (aO HO1.o hb8) fun k hk=>sU _ _ _ _ fun e=>HNE.o k hk (by rw[show k=g2 from e];simp[Value.ownBlock])
      have HO4:Hid ((w7.setCell ⟨g2,i*13+12,none⟩ (.slice A7 o.l.length k7)).ownsRow (w.heap.size+2) 53 13 (.slice (some ⟨g2,0,none⟩) n k2) n (eF (os.set i { o with A:=A7,c:=k7 }))):=by
       show World.ownsRow _ _ _ _ _ _ _;rw[←kP os i o A7 k7 HOS.o];exact((aO HO2.o hb8).stored (i*13+12) _).1
      have HW2:Hid (Below w.heap.size w (w7.setCell ⟨g2,i*13+12,none⟩ (.slice A7 o.l.length k7))):=(HW.o.trans (hb8.mono HW.o.size)).setCell (by show w.heap.size≤g2;omega) _;clear q1 q2 q3 KS C3 c4 e12 f12 ho7 hb7 hb8 hsz;go_wp2_with fail
      first
       |exact⟨⟨i+1,_,by go_num,by omega,HU2,HQ2,HQR2,HO3,HO4,HW2⟩,by simp[intOf];omega⟩
       |(go_roundw
         case rel=>exact⟨i+1,_,by go_num,by omega,HU2,HQ2,HQR2,HO3,HO4,HW2⟩
         case measure=>simp[intOf];omega)
  ·have hin:i=n:=by omega
   have HOL:Hid (os.length=n):=by show _=_;rw[HU.o.len,HN.o]
   obtain⟨c0,c1,c2,c3,c4⟩:=ce5 HQ.o
   obtain⟨r0,r1,r2,r3,r4⟩:=ce5 HQR.o
   have f0:wr.frozen? ⟨w.heap.size+1,0,none⟩=false:=HQR.o.frozen 0;have f1:wr.frozen? ⟨w.heap.size+1,1,none⟩=false:=HQR.o.frozen 1;have f2:wr.frozen? ⟨w.heap.size+1,2,none⟩=false:=HQR.o.frozen 2;have f3:wr.frozen? ⟨w.heap.size+1,3,none⟩=false:=HQR.o.frozen 3;have f4:wr.frozen? ⟨w.heap.size+1,4,none⟩=false:=HQR.o.frozen 4;go_wp2_with fail
   have HF:Hid (Blk (((((wr.setCell ⟨w.heap.size+1,0,none⟩ (.int .i64 c.a)).setCell ⟨w.heap.size+1,1,none⟩ (.int .i64 c.s)).setCell ⟨w.heap.size+1,2,none⟩ (.int .i64 c.st)).setCell ⟨w.heap.size+1,3,none⟩ (.slice A1 c.deps.length k1)).setCell ⟨w.heap.size+1,4,none⟩ (.slice A2 n k2)) (w.heap.size+1) 33 #[.int .i64 c.a,.int .i64 c.s,.int .i64 c.st,.slice A1 c.deps.length k1,.slice A2 n k2]):=((((HQR.o.set_ 0 _).set_ 1 _).set_ 2 _).set_ 3 _).set_ 4 _;have hother:∀k,k≠w.heap.size+1→(((((wr.setCell ⟨w.heap.size+1,0,none⟩ (.int .i64 c.a)).setCell ⟨w.heap.size+1,1,none⟩ (.int .i64 c.s)).setCell ⟨w.heap.size+1,2,none⟩ (.int .i64 c.st)).setCell ⟨w.heap.size+1,3,none⟩ (.slice A1 c.deps.length k1)).setCell ⟨w.heap.size+1,4,none⟩ (.slice A2 n k2)).heap[k]?=wr.heap[k]?:=fun k hk=>by
    rw[sU _ _ _ _ hk,sU _ _ _ _ hk,sU _ _ _ _ hk,sU _ _ _ _ hk,sU _ _ _ _ hk]
   have hsz:(((((wr.setCell ⟨w.heap.size+1,0,none⟩ (.int .i64 c.a)).setCell ⟨w.heap.size+1,1,none⟩ (.int .i64 c.s)).setCell ⟨w.heap.size+1,2,none⟩ (.int .i64 c.st)).setCell ⟨w.heap.size+1,3,none⟩ (.slice A1 c.deps.length k1)).setCell ⟨w.heap.size+1,4,none⟩ (.slice A2 n k2)).heap.size=wr.heap.size:=by simp
   have HWF:Hid (Below w.heap.size w (((((wr.setCell ⟨w.heap.size+1,0,none⟩ (.int .i64 c.a)).setCell ⟨w.heap.size+1,1,none⟩ (.int .i64 c.s)).setCell ⟨w.heap.size+1,2,none⟩ (.int .i64 c.st)).setCell ⟨w.heap.size+1,3,none⟩ (.slice A1 c.deps.length k1)).setCell ⟨w.heap.size+1,4,none⟩ (.slice A2 n k2))):=by
    show Below _ _ _;have h:w.heap.size≤w.heap.size+1:=Nat.le_succ _;exact((((HW.o.setCell h _).setCell h _).setCell h _).setCell h _).setCell h _
   clear r0 r1 r2 r3 r4 f0 f1 f2 f3 f4 c0 c1 c2 c3 c4;generalize ((((wr.setCell ⟨w.heap.size+1,0,none⟩ (.int .i64 c.a)).setCell ⟨w.heap.size+1,1,none⟩ (.int .i64 c.s)).setCell ⟨w.heap.size+1,2,none⟩ (.int .i64 c.st)).setCell ⟨w.heap.size+1,3,none⟩ (.slice A1 c.deps.length k1)).setCell ⟨w.heap.size+1,4,none⟩ (.slice A2 n k2)=wf at HF hother hsz HWF ⊢;obtain⟨v0,v1,v2,v3,v4⟩:=ce5 HF.o
   refine bodyPost_ret (v:=.agg #[.int .i64 c.a,.int .i64 c.s,.int .i64 c.st,.slice A1 c.deps.length k1,.slice A2 n k2]) ?_ rfl ⟨{ c with DA:=A1,DC:=k1,ops:=os,OA:=A2,OC:=k2 },by show _=Ending.returned (.agg #[.int .i64 c.a,.int .i64 c.s,.int .i64 c.st,.slice A1 c.deps.length k1,.slice A2 os.length k2]);rw[HOL.o],?_,?_,HWF.o⟩
   ·simp only[results,hres];go_simp
   ·show({ c with DA:=none,DC:=0,ops:=os.map base,OA:=none,OC:=0 } : ChD)={ c with DA:=none,DC:=0,ops:=c.ops.map base,OA:=none,OC:=0 }
    rw[HU.o.bs]
   ·have keep:∀k,w.heap.size+2≤k→wf.heap[k]?=wr.heap[k]?:=fun k hk=>hother k (by omega)
    refine⟨?_,HC.o.hdl,?_,by show os.length≤_;rw[HOL.o];omega,fun o ho=>?_⟩
    ·obtain⟨A',c',hv,-,-,hr⟩:=aC.of_own HO1.o
     simp only[tS,true_and]at hv;obtain⟨rfl,rfl⟩:=hv
     refine(hr.keep fun k hk=>keep k (aD HO1.o hk).1).more fun k hk=>?_
     have:=aD HO1.o hk
     exact⟨by omega,by rw[hsz];omega⟩
    ·obtain⟨A',c',hv,-,-,hr⟩:=aC.of_own HO2.o
     simp only[tS,true_and]at hv;obtain⟨rfl,rfl⟩:=hv
     show aC _ _ _ _ os.length _;rw[HOL.o];refine(hr.keep fun k hk=>keep k (aD HO2.o hk).1).more fun k hk=>?_
     have:=aD HO2.o hk
     exact⟨by omega,by rw[hsz];omega⟩
    ·obtain⟨j,hj⟩:=wU ho
     have hjn:j<i:=by have:=(sE.1 hj).1;rw[show os.length=n from HOL.o]at this;omega
     have hr:=HU.o.new_ j o hjn hj;refine⟨(hr.keep fun k hk=>keep k hk.1).more fun k hk=>⟨by have:=hk.1;omega,by rw[hsz];exact hk.2.1⟩,?_⟩
     have hb:os.map base=c.ops.map base:=HU.o.bs;have hm:base o∈c.ops.map base:=by rw[←hb];exact sW.2 ⟨o,ho,rfl⟩
     obtain⟨o',ho',he⟩:=sW.1 hm
     have hl:o.l=o'.l:=(congrArg OpD.l he).symm;rw[hl];have:=HH.o o' ho'
     omega
end
section
set_option maxRecDepth 100000 in
theorem eq_id9(a b c d:Int)(w:World):(Op.equalIn 9999 48 (.agg #[.int .i64 a,.int .i64 b]) (.agg #[.int .i64 c,.int .i64 d])).run Tryz.prog w=.ok (a == c&&b == d) w:=by
 have hS:Tryz.prog.underlying 48=some (.struct (Tryz.prog.fieldsOf 48)):=by kernel_rfl
 have hp:Tryz.prog.stoodInHeld 48=false:=by kernel_rfl
 rw[show(9999:Nat)=9998+1 from rfl,run_equalIn_agg w 9998 48 _ _ hS hp];simp only[Program.fieldsOf,Tryz.underlying48];go_simp;by_cases h1:a=c<;>by_cases h2:b=d<;>simp[h1,h2]
set_option maxRecDepth 100000 in
theorem eq_val(a b:Int)(t:ByteArray)(c d a' b':Int)(t':ByteArray)(c' d':Int)(w:World):
 (Op.equalIn 10000 50 (.agg #[.int .i64 a,.int .i64 b,.string t,.int .i64 c,.int .i64 d]) (.agg #[.int .i64 a',.int .i64 b',.string t',.int .i64 c',.int .i64 d'])).run Tryz.prog w=.ok (a == a'&&(b == b'&&(t.toList == t'.toList&&(c == c'&&d == d')))) w:=by
 have hS:Tryz.prog.underlying 50=some (.struct (Tryz.prog.fieldsOf 50)):=by kernel_rfl
 have hp:Tryz.prog.stoodInHeld 50=false:=by kernel_rfl
 have hI:∀(x y:Int) (w:World),(Op.equalIn 9999 3 (.int .i64 x) (.int .i64 y)).run Tryz.prog w=.ok (x == y) w:=fun x y w=>run_equalIn_int w 9998 3 .i64 .i64 x y Tryz.underlying3
 have hT:∀(x y:ByteArray) (w:World),(Op.equalIn 9999 9 (.string x) (.string y)).run Tryz.prog w=.ok (x.toList == y.toList) w:=fun x y w=>run_equalIn_string w 9998 9 x y Tryz.underlying9
 have hD:=eq_id9;rw[show(10000:Nat)=9999+1 from rfl,run_equalIn_agg w 9999 50 _ _ hS hp];simp only[Program.fieldsOf,Tryz.underlying50,Op.eqFields];generalize Op.equalIn 9999=EQ at hI hT hD ⊢;go_simp;by_cases h1:a=a'<;>by_cases h2:b=b'<;>by_cases h3:t.toList=t'.toList<;>by_cases h4:c=c'<;>by_cases h5:d=d'<;>simp[h1,h2,h3,h4,h5]
def idE(a b c d:Int):Bool:=a == c&&b == d
def valE(x y:OpD):Bool:=x.vk == y.vk&&(x.vn == y.vn&&(x.vt.toList == y.vt.toList&&(x.va == y.va&&x.vb == y.vb)))
def qW(x y:OpD):Bool:=(x.k == y.k)&&(idE x.on x.oa y.on y.oa&&((x.key.toList == y.key.toList)&&(idE x.en x.ea y.en y.ea&&((x.ins == y.ins)&&(valE x y&&decide (x.l=y.l))))))
def opV(x:OpD):Value:=.agg #[.int .i64 x.k,.int .i64 x.on,.int .i64 x.oa,.string x.key,.int .i64 x.en,.int .i64 x.ea,.bool x.ins,.int .i64 x.vk,.int .i64 x.vn,.string x.vt,.int .i64 x.va,.int .i64 x.vb,.slice x.A x.l.length x.c]
theorem same1_any(x y:OpD)(w:World)(hx:aC (fun k=>k<w.heap.size) w 2 x.A x.l.length (aF x.l))(hy:aC (fun k=>k<w.heap.size) w 2 y.A y.l.length (aF y.l))(hxl:x.l.length≤9223372036854775807)(hyl:y.l.length≤9223372036854775807):
 Calls Tryz.prog 85 #[opV x,opV y] w fun e w'=>e=.returned (.bool (qW x y))∧Below w.heap.size w w':=by
 have hW1:Below w.heap.size w (w.alloc (.cells #[.int .i64 x.k,.int .i64 x.on,.int .i64 x.oa,.string x.key,.int .i64 x.en,.int .i64 x.ea,.bool x.ins,.int .i64 x.vk,.int .i64 x.vn,.string x.vt,.int .i64 x.va,.int .i64 x.vb,.slice x.A x.l.length x.c] 53)):=(sA _ w).alloc (sB _) _;have hQ1:=Blk.new w 53 #[.int .i64 x.k,.int .i64 x.on,.int .i64 x.oa,.string x.key,.int .i64 x.en,.int .i64 x.ea,.bool x.ins,.int .i64 x.vk,.int .i64 x.vn,.string x.vt,.int .i64 x.va,.int .i64 x.vb,.slice x.A x.l.length x.c];have hs1:(w.alloc (.cells #[.int .i64 x.k,.int .i64 x.on,.int .i64 x.oa,.string x.key,.int .i64 x.en,.int .i64 x.ea,.bool x.ins,.int .i64 x.vk,.int .i64 x.vn,.string x.vt,.int .i64 x.va,.int .i64 x.vb,.slice x.A x.l.length x.c] 53)).heap.size=w.heap.size+1:=by simp
 have E1:=fun w=>kC x.on x.oa y.on y.oa w
 have E2:=fun w=>kC x.en x.ea y.en y.ea w
 have E3:=fun w=>eq_val x.vk x.vn x.vt x.va x.vb y.vk y.vn y.vt y.va y.vb w
 obtain⟨b1,e1⟩:∃b,(x.k == y.k)=b:=⟨_,rfl⟩
 obtain⟨b2,e2⟩:∃b,idE x.on x.oa y.on y.oa=b:=⟨_,rfl⟩
 obtain⟨b3,e3⟩:∃b,(x.key.toList == y.key.toList)=b:=⟨_,rfl⟩
 obtain⟨b4,e4⟩:∃b,idE x.en x.ea y.en y.ea=b:=⟨_,rfl⟩
 obtain⟨b5,e5⟩:∃b,(x.ins == y.ins)=b:=⟨_,rfl⟩
 obtain⟨b6,e6⟩:∃b,valE x y=b:=⟨_,rfl⟩
 obtain⟨b7,e7⟩:∃b,decide (x.l=y.l)=b:=⟨_,rfl⟩
 unfold qW;rw[e1,e2,e3,e4,e5,e6,e7];unfold idE at e2 e4;unfold valE at e6;rw[e2]at E1;rw[e4]at E2;rw[e6]at E3;clear e2 e4 e6;unfold opV;go_enter Tryz.func85,Tryz.ntmps85;go_upto_region 1 with fail
 generalize w.alloc (.cells #[.int .i64 x.k,.int .i64 x.on,.int .i64 x.oa,.string x.key,.int .i64 x.en,.int .i64 x.ea,.bool x.ins,.int .i64 x.vk,.int .i64 x.vn,.string x.vt,.int .i64 x.va,.int .i64 x.vb,.slice x.A x.l.length x.c] 53)=V1 at *;have hQ2:=hQ1.keep (w':=V1.alloc (.cells #[.int .i64 y.k,.int .i64 y.on,.int .i64 y.oa,.string y.key,.int .i64 y.en,.int .i64 y.ea,.bool y.ins,.int .i64 y.vk,.int .i64 y.vn,.string y.vt,.int .i64 y.va,.int .i64 y.vb,.slice y.A y.l.length y.c] 53)) (((sA _ V1).alloc (sB _) _).block _ hQ1.lt);have hQ3:Blk (V1.alloc (.cells #[.int .i64 y.k,.int .i64 y.on,.int .i64 y.oa,.string y.key,.int .i64 y.en,.int .i64 y.ea,.bool y.ins,.int .i64 y.vk,.int .i64 y.vn,.string y.vt,.int .i64 y.va,.int .i64 y.vb,.slice y.A y.l.length y.c] 53)) (w.heap.size+1) 53 #[.int .i64 y.k,.int .i64 y.on,.int .i64 y.oa,.string y.key,.int .i64 y.en,.int .i64 y.ea,.bool y.ins,.int .i64 y.vk,.int .i64 y.vn,.string y.vt,.int .i64 y.va,.int .i64 y.vb,.slice y.A y.l.length y.c]:=by rw[←hs1];exact Blk.new V1 _ _
 have HW:Hid (Below w.heap.size w (V1.alloc (.cells #[.int .i64 y.k,.int .i64 y.on,.int .i64 y.oa,.string y.key,.int .i64 y.en,.int .i64 y.ea,.bool y.ins,.int .i64 y.vk,.int .i64 y.vn,.string y.vt,.int .i64 y.va,.int .i64 y.vb,.slice y.A y.l.length y.c] 53))):=hW1.alloc hW1.size _;generalize V1.alloc (.cells #[.int .i64 y.k,.int .i64 y.on,.int .i64 y.oa,.string y.key,.int .i64 y.en,.int .i64 y.ea,.bool y.ins,.int .i64 y.vk,.int .i64 y.vn,.string y.vt,.int .i64 y.va,.int .i64 y.vb,.slice y.A y.l.length y.c] 53)=V at hQ2 hQ3 HW ⊢;obtain⟨x0,x1,x2,x3,x4,x5,x6,x7,x8,x9,x10,x11,x12⟩:=ce13 hQ2
 obtain⟨y0,y1,y2,y3,y4,y5,y6,y7,y8,y9,y10,y11,y12⟩:=ce13 hQ3
 have C1:=equalI_any x.l y.l x.A y.A x.c y.c V (aA hx HW.o) (aA hy HW.o) hxl hyl;rw[e7]at C1;clear hW1 hQ1 hs1 hQ2 hQ3 hx hy e7;cases b1 with
 |false=>(go_wp2_with fail;go_ret;exact⟨rfl,HW.o⟩)
 |true =>
  cases b2 with
  |false=>(go_wp2_with fail;go_ret;exact⟨rfl,HW.o⟩)
  |true =>
   cases b3 with
   |false=>(go_wp2_with fail;go_ret;exact⟨rfl,HW.o⟩)
   |true =>
    cases b4 with
    |false=>(go_wp2_with fail;go_ret;exact⟨rfl,HW.o⟩)
    |true =>
     cases b5 with
     |false=>(go_wp2_with fail;go_ret;exact⟨rfl,HW.o⟩)
     |true =>
      cases b6 with
      |false=>(go_wp2_with fail;go_ret;exact⟨rfl,HW.o⟩)
      |true =>
       go_wp2_with fail
       go_at_call 86;refine C1.mono ?_;rintro e w2 ⟨rfl,hb⟩;replace HW:Hid (Below w.heap.size w w2):=HW.o.trans (hb.mono HW.o.size);go_wp2_with fail
       go_ret;exact⟨rfl,HW.o⟩
end
section
def eC:List OpD→List OpD→Bool
 | [],[]=>true
 |x::l,y::m=>qW x y&&eC l m
 |_,_=>false
theorem qV:∀ {l m:List OpD},l.length≠m.length→eC l m=false
 | [],[],h=>absurd rfl h
 | [],_::_,_=>rfl
 |_::_,[],_=>rfl
 |x::l,y::m,h=>by
  have:=qV (l:=l) (m:=m) (by simpa using h)
  simp[eC,this]
theorem sameOs_step{l m:List OpD}{i:Nat}{x y:OpD}(hx:l[i]?=some x)(hy:m[i]?=some y):eC (l.drop i) (m.drop i)=(qW x y&&eC (l.drop (i+1)) (m.drop (i+1))):=by
 obtain⟨h1,e1⟩:=sE.1 hx
 obtain⟨h2,e2⟩:=sE.1 hy
 rw[uE h1,uE h2,e1,e2];rfl
theorem equalFn_any(l l2:List OpD)(A A2:Option Addr)(c c2:Nat)(w:World)(hr:aC (fun k=>k<w.heap.size) w 13 A l.length (eF l))(hr2:aC (fun k=>k<w.heap.size) w 13 A2 l2.length (eF l2))
 (hl:l.length≤9223372036854775807) (hl2:l2.length≤9223372036854775807) (hp:∀o∈l,aC (fun k=>k<w.heap.size) w 2 o.A o.l.length (aF o.l)∧o.l.length≤9223372036854775807) (hp2:∀o∈l2,aC (fun k=>k<w.heap.size) w 2 o.A o.l.length (aF o.l)∧o.l.length≤9223372036854775807) :
 Calls Tryz.prog 84 #[.slice A l.length c,.slice A2 l2.length c2,.func (.func 85) #[] #[]] w fun e w'=>e=.returned (.bool (eC l l2))∧Below w.heap.size w w':=by
 have eg:∀args w,(callFunc 85 args).run Tryz.prog w=.ok (.enter 85 args) w:=enters_of Tryz.func85 (by kernel_rfl) (wV (show Tryz.f85.body.isSome=true by kernel_rfl)).symm;obtain⟨n,hn⟩:∃n,l.length=n:=⟨_,rfl⟩
 obtain⟨n2,hn2⟩:∃n2,l2.length=n2:=⟨_,rfl⟩
 have HN:=Hi hn;have HN2:=Hi hn2;have HR:=Hi hr;have HR2:=Hi hr2;have HP:=Hi hp;have HP2:=Hi hp2;rw[hn]at hl;rw[hn2]at hl2;rw[hn,hn2];clear hr hr2 hp hp2;by_cases hnn:n=n2
 ·subst hnn;clear hn hn2;go_enter Tryz.func84,Tryz.ntmps84;go_wp2_with fail
  go_loopw [7,8,9,17] (fun _ _ _ s17 wr=>∃k:Nat,s17=.int .i64 k∧k≤n∧Hid (eC l l2=eC (l.drop k) (l2.drop k))∧Hid (Below w.heap.size w wr)) (fun _ _ _ s17 _=>n-(intOf s17).toNat)
  case atStart=>exact⟨0,rfl,by omega,rfl,sA _ _⟩
  case round =>
   obtain⟨k,rfl,hk,HI,HW⟩:=hrel
   by_cases hlt:k<n
   ·obtain⟨b1,o1,rfl,-,hc1⟩:=(aA HR.o HW.o).at_ (by rw[HN.o];omega) (by omega)
    obtain⟨x,hx⟩:∃x,l[k]?=some x:=⟨_,sC (by rw[HN.o];exact hlt)⟩
    obtain⟨y,hy⟩:∃y,l2[k]?=some y:=⟨_,sC (by rw[HN2.o];exact hlt)⟩
    have HPX:=Hi (HP.o x (sJ hx));have HPY:=Hi (HP2.o y (sJ hy));have HS:=Hi (sameOs_step hx hy);have HY:=Hi hy;have x0:wr.cell? ⟨b1,o1+k*13,none⟩=some (.int .i64 x.k):=hc1 _ _ ((bM hx 0 (by omega)).trans rfl);have x1:wr.cell? ⟨b1,o1+k*13+1,none⟩=some (.int .i64 x.on):=hc1 _ _ ((bM hx 1 (by omega)).trans rfl);have x2:wr.cell? ⟨b1,o1+k*13+2,none⟩=some (.int .i64 x.oa):=hc1 _ _ ((bM hx 2 (by omega)).trans rfl);have x3:wr.cell? ⟨b1,o1+k*13+3,none⟩=some (.string x.key):=hc1 _ _ ((bM hx 3 (by omega)).trans rfl);have x4:wr.cell? ⟨b1,o1+k*13+4,none⟩=some (.int .i64 x.en):=hc1 _ _ ((bM hx 4 (by omega)).trans rfl);have x5:wr.cell? ⟨b1,o1+k*13+5,none⟩=some (.int .i64 x.ea):=hc1 _ _ ((bM hx 5 (by omega)).trans rfl);have x6:wr.cell? ⟨b1,o1+k*13+6,none⟩=some (.bool x.ins):=hc1 _ _ ((bM hx 6 (by omega)).trans rfl);have x7:wr.cell? ⟨b1,o1+k*13+7,none⟩=some (.int .i64 x.vk):=hc1 _ _ ((bM hx 7 (by omega)).trans rfl);have x8:wr.cell? ⟨b1,o1+k*13+8,none⟩=some (.int .i64 x.vn):=hc1 _ _ ((bM hx 8 (by omega)).trans rfl);have x9:wr.cell? ⟨b1,o1+k*13+9,none⟩=some (.string x.vt):=hc1 _ _ ((bM hx 9 (by omega)).trans rfl);have x10:wr.cell? ⟨b1,o1+k*13+10,none⟩=some (.int .i64 x.va):=hc1 _ _ ((bM hx 10 (by omega)).trans rfl);have x11:wr.cell? ⟨b1,o1+k*13+11,none⟩=some (.int .i64 x.vb):=hc1 _ _ ((bM hx 11 (by omega)).trans rfl);have x12:wr.cell? ⟨b1,o1+k*13+12,none⟩=some (.slice x.A x.l.length x.c):=hc1 _ _ ((bM hx 12 (by omega)).trans rfl);clear hc1 hx hy;have hd1:decide ((k:Int)<(n:Int))=true:=sH (by omega);have hd0:decide (0≤(k:Int))=true:=sH (by omega);go_upto_region 6 with fail
    have HW1:Hid (Below w.heap.size w (wr.alloc (.cells #[.int .i64 x.k,.int .i64 x.on,.int .i64 x.oa,.string x.key,.int .i64 x.en,.int .i64 x.ea,.bool x.ins,.int .i64 x.vk,.int .i64 x.vn,.string x.vt,.int .i64 x.va,.int .i64 x.vb,.slice x.A x.l.length x.c] 53))):=HW.o.alloc HW.o.size _;have HQ1:Hid (Blk (wr.alloc (.cells #[.int .i64 x.k,.int .i64 x.on,.int .i64 x.oa,.string x.key,.int .i64 x.en,.int .i64 x.ea,.bool x.ins,.int .i64 x.vk,.int .i64 x.vn,.string x.vt,.int .i64 x.va,.int .i64 x.vb,.slice x.A x.l.length x.c] 53)) wr.heap.size 53 #[.int .i64 x.k,.int .i64 x.on,.int .i64 x.oa,.string x.key,.int .i64 x.en,.int .i64 x.ea,.bool x.ins,.int .i64 x.vk,.int .i64 x.vn,.string x.vt,.int .i64 x.va,.int .i64 x.vb,.slice x.A x.l.length x.c]):=Blk.new wr _ _;clear x0 x1 x2 x3 x4 x5 x6 x7 x8 x9 x10 x11 x12;generalize wr.alloc (.cells #[.int .i64 x.k,.int .i64 x.on,.int .i64 x.oa,.string x.key,.int .i64 x.en,.int .i64 x.ea,.bool x.ins,.int .i64 x.vk,.int .i64 x.vn,.string x.vt,.int .i64 x.va,.int .i64 x.vb,.slice x.A x.l.length x.c] 53)=V1 at HW1 HQ1 ⊢;generalize wr.heap.size=B1 at HQ1 ⊢;obtain⟨b2,o2,rfl,-,hc2⟩:=(aA HR2.o HW1.o).at_ (by rw[HN2.o];omega) (by omega)
    have y0:V1.cell? ⟨b2,o2+k*13,none⟩=some (.int .i64 y.k):=hc2 _ _ ((bM HY.o 0 (by omega)).trans rfl);have y1:V1.cell? ⟨b2,o2+k*13+1,none⟩=some (.int .i64 y.on):=hc2 _ _ ((bM HY.o 1 (by omega)).trans rfl);have y2:V1.cell? ⟨b2,o2+k*13+2,none⟩=some (.int .i64 y.oa):=hc2 _ _ ((bM HY.o 2 (by omega)).trans rfl);have y3:V1.cell? ⟨b2,o2+k*13+3,none⟩=some (.string y.key):=hc2 _ _ ((bM HY.o 3 (by omega)).trans rfl);have y4:V1.cell? ⟨b2,o2+k*13+4,none⟩=some (.int .i64 y.en):=hc2 _ _ ((bM HY.o 4 (by omega)).trans rfl);have y5:V1.cell? ⟨b2,o2+k*13+5,none⟩=some (.int .i64 y.ea):=hc2 _ _ ((bM HY.o 5 (by omega)).trans rfl);have y6:V1.cell? ⟨b2,o2+k*13+6,none⟩=some (.bool y.ins):=hc2 _ _ ((bM HY.o 6 (by omega)).trans rfl);have y7:V1.cell? ⟨b2,o2+k*13+7,none⟩=some (.int .i64 y.vk):=hc2 _ _ ((bM HY.o 7 (by omega)).trans rfl);have y8:V1.cell? ⟨b2,o2+k*13+8,none⟩=some (.int .i64 y.vn):=hc2 _ _ ((bM HY.o 8 (by omega)).trans rfl);have y9:V1.cell? ⟨b2,o2+k*13+9,none⟩=some (.string y.vt):=hc2 _ _ ((bM HY.o 9 (by omega)).trans rfl);have y10:V1.cell? ⟨b2,o2+k*13+10,none⟩=some (.int .i64 y.va):=hc2 _ _ ((bM HY.o 10 (by omega)).trans rfl);have y11:V1.cell? ⟨b2,o2+k*13+11,none⟩=some (.int .i64 y.vb):=hc2 _ _ ((bM HY.o 11 (by omega)).trans rfl);have y12:V1.cell? ⟨b2,o2+k*13+12,none⟩=some (.slice y.A y.l.length y.c):=hc2 _ _ ((bM HY.o 12 (by omega)).trans rfl);clear hc2;go_upto_region 7 with fail
    have HW2:Hid (Below w.heap.size w (V1.alloc (.cells #[.int .i64 y.k,.int .i64 y.on,.int .i64 y.oa,.string y.key,.int .i64 y.en,.int .i64 y.ea,.bool y.ins,.int .i64 y.vk,.int .i64 y.vn,.string y.vt,.int .i64 y.va,.int .i64 y.vb,.slice y.A y.l.length y.c] 53))):=HW1.o.alloc HW1.o.size _;have HQ2:Hid (Blk (V1.alloc (.cells #[.int .i64 y.k,.int .i64 y.on,.int .i64 y.oa,.string y.key,.int .i64 y.en,.int .i64 y.ea,.bool y.ins,.int .i64 y.vk,.int .i64 y.vn,.string y.vt,.int .i64 y.va,.int .i64 y.vb,.slice y.A y.l.length y.c] 53)) V1.heap.size 53 #[.int .i64 y.k,.int .i64 y.on,.int .i64 y.oa,.string y.key,.int .i64 y.en,.int .i64 y.ea,.bool y.ins,.int .i64 y.vk,.int .i64 y.vn,.string y.vt,.int .i64 y.va,.int .i64 y.vb,.slice y.A y.l.length y.c]):=Blk.new V1 _ _;have HQ3:=Hi (HQ1.o.keep (w':=V1.alloc (.cells #[.int .i64 y.k,.int .i64 y.on,.int .i64 y.oa,.string y.key,.int .i64 y.en,.int .i64 y.ea,.bool y.ins,.int .i64 y.vk,.int .i64 y.vn,.string y.vt,.int .i64 y.va,.int .i64 y.vb,.slice y.A y.l.length y.c] 53)) (((sA _ V1).alloc (sB _) _).block _ HQ1.o.lt));clear y0 y1 y2 y3 y4 y5 y6 y7 y8 y9 y10 y11 y12 HQ1 HW1;generalize V1.alloc (.cells #[.int .i64 y.k,.int .i64 y.on,.int .i64 y.oa,.string y.key,.int .i64 y.en,.int .i64 y.ea,.bool y.ins,.int .i64 y.vk,.int .i64 y.vn,.string y.vt,.int .i64 y.va,.int .i64 y.vb,.slice y.A y.l.length y.c] 53)=V2 at HW2 HQ2 HQ3 ⊢;generalize V1.heap.size=B2 at HQ2 ⊢;obtain⟨x0,x1,x2,x3,x4,x5,x6,x7,x8,x9,x10,x11,x12⟩:=ce13 HQ3.o
    obtain⟨y0,y1,y2,y3,y4,y5,y6,y7,y8,y9,y10,y11,y12⟩:=ce13 HQ2.o
    have C1:=same1_any x y V2 (aA HPX.o.1 HW2.o) (aA HPY.o.1 HW2.o) HPX.o.2 HPY.o.2;unfold opV at C1;generalize qW x y=ok at C1 HS;go_wp2_with fail
    go_at_call 85;refine C1.mono ?_;rintro e w3 ⟨rfl,hb⟩;have HW3:Hid (Below w.heap.size w w3):=HW2.o.trans (hb.mono HW2.o.size);clear x0 x1 x2 x3 x4 x5 x6 x7 x8 x9 x10 x11 x12 y0 y1 y2 y3 y4 y5 y6 y7 y8 y9 y10 y11 y12 C1 hb HW2 HQ2 HQ3;cases ok with
    |false =>
     have HE:Hid (eC l l2=false):=by show _=_;rw[HI.o,HS.o];rfl
     go_wp2_with fail
     go_ret;exact⟨by rw[HE.o];rfl,HW3.o⟩
    |true =>
     have HI2:Hid (eC l l2=eC (l.drop (k+1)) (l2.drop (k+1))):=by show _=_;rw[HI.o,HS.o];rfl
     go_wp2_with fail
     go_roundw
     case rel=>exact⟨k+1,by go_num,by omega,HI2,HW3⟩
     case measure=>simp[intOf];omega
   ·have HE:Hid (eC l l2=true):=by show _=_;rw[HI.o,uR (by rw[HN.o];omega),uR (by rw[HN2.o];omega)];rfl
    go_wp2_with fail
    go_ret;exact⟨by rw[HE.o];rfl,HW.o⟩
 ·have HE:Hid (eC l l2=false):=qV (by rw[hn,hn2];exact hnn);have hd:((n:Int) != (n2:Int))=true:=by simp;omega
  clear hn hn2;go_enter Tryz.func84,Tryz.ntmps84;go_wp2_with fail
  go_ret;exact⟨by rw[HE.o];rfl,sA _ _⟩
def pI(c d:ChD):Bool:=(c.st == d.st)&&(decide (c.deps=d.deps)&&eC c.ops d.ops)
theorem same_any(c d:ChD)(w:World)(hc:ChIn (fun k=>k<w.heap.size) w c)(hd:ChIn (fun k=>k<w.heap.size) w d):
 Calls Tryz.prog 39 #[c.v,d.v] w fun e w'=>e=.returned (.bool (pI c d))∧Below w.heap.size w w':=by
 have hW1:Below w.heap.size w (w.alloc (.cells #[.int .i64 c.a,.int .i64 c.s,.int .i64 c.st,.slice c.DA c.deps.length c.DC,.slice c.OA c.ops.length c.OC] 33)):=(sA _ w).alloc (sB _) _;have hQ1:=Blk.new w 33 #[.int .i64 c.a,.int .i64 c.s,.int .i64 c.st,.slice c.DA c.deps.length c.DC,.slice c.OA c.ops.length c.OC];have hs1:(w.alloc (.cells #[.int .i64 c.a,.int .i64 c.s,.int .i64 c.st,.slice c.DA c.deps.length c.DC,.slice c.OA c.ops.length c.OC] 33)).heap.size=w.heap.size+1:=by simp
 have HC:=Hi hc;have HD:=Hi hd;obtain⟨b1,e1⟩:∃b,(c.st == d.st)=b:=⟨_,rfl⟩
 obtain⟨b2,e2⟩:∃b,decide (c.deps=d.deps)=b:=⟨_,rfl⟩
 obtain⟨b3,e3⟩:∃b,eC c.ops d.ops=b:=⟨_,rfl⟩
 unfold pI;rw[e1,e2,e3];unfold ChD.v;clear hc hd;go_enter Tryz.func39,Tryz.ntmps39;go_upto_region 1 with fail
 generalize w.alloc (.cells #[.int .i64 c.a,.int .i64 c.s,.int .i64 c.st,.slice c.DA c.deps.length c.DC,.slice c.OA c.ops.length c.OC] 33)=V1 at *;have hQ2:=hQ1.keep (w':=V1.alloc (.cells #[.int .i64 d.a,.int .i64 d.s,.int .i64 d.st,.slice d.DA d.deps.length d.DC,.slice d.OA d.ops.length d.OC] 33)) (((sA _ V1).alloc (sB _) _).block _ hQ1.lt);have hQ3:Blk (V1.alloc (.cells #[.int .i64 d.a,.int .i64 d.s,.int .i64 d.st,.slice d.DA d.deps.length d.DC,.slice d.OA d.ops.length d.OC] 33)) (w.heap.size+1) 33 #[.int .i64 d.a,.int .i64 d.s,.int .i64 d.st,.slice d.DA d.deps.length d.DC,.slice d.OA d.ops.length d.OC]:=by rw[←hs1];exact Blk.new V1 _ _
 have HW:Hid (Below w.heap.size w (V1.alloc (.cells #[.int .i64 d.a,.int .i64 d.s,.int .i64 d.st,.slice d.DA d.deps.length d.DC,.slice d.OA d.ops.length d.OC] 33))):=hW1.alloc hW1.size _;generalize V1.alloc (.cells #[.int .i64 d.a,.int .i64 d.s,.int .i64 d.st,.slice d.DA d.deps.length d.DC,.slice d.OA d.ops.length d.OC] 33)=V at hQ2 hQ3 HW ⊢;have HQ2:=Hi hQ2;have HQ3:=Hi hQ3;clear hW1 hQ1 hs1 hQ2 hQ3;have c2:=cZ HQ2.o 2 rfl;have c3:=cZ HQ2.o 3 rfl;have c4:=cZ HQ2.o 4 rfl;have d2:=cZ HQ3.o 2 rfl;have d3:=cZ HQ3.o 3 rfl;have d4:=cZ HQ3.o 4 rfl;have C1:=equalR_any c.deps d.deps c.DA d.DA c.DC d.DC V (aA HC.o.hd HW.o) (aA HD.o.hd HW.o) HC.o.hdl HD.o.hdl;rw[e2]at C1;cases b1 with
 |false=>(go_wp2_with fail;go_ret;exact⟨rfl,HW.o⟩)
 |true =>
  go_wp2_with fail
  go_at_call 83;refine C1.mono ?_;rintro e w2 ⟨rfl,hb⟩;replace HW:Hid (Below w.heap.size w w2):=HW.o.trans (hb.mono HW.o.size);replace HQ2:=Hi (HQ2.o.keep (hb.block _ HQ2.o.lt));replace HQ3:=Hi (HQ3.o.keep (hb.block _ HQ3.o.lt));clear c2 c3 c4 d2 d3 d4 hb C1;have c4:=cZ HQ2.o 4 rfl;have d4:=cZ HQ3.o 4 rfl;have C2:=equalFn_any c.ops d.ops c.OA d.OA c.OC d.OC w2 (aA HC.o.ho HW.o) (aA HD.o.ho HW.o) HC.o.hol HD.o.hol
   (fun o ho=>⟨aA (HC.o.hp o ho).1 HW.o,(HC.o.hp o ho).2⟩) (fun o ho=>⟨aA (HD.o.hp o ho).1 HW.o,(HD.o.hp o ho).2⟩)
  rw[e3]at C2;cases b2 with
  |false=>(go_wp2_with fail;go_ret;exact⟨rfl,HW.o⟩)
  |true =>
   go_wp2_with fail
   go_at_call 84;refine C2.mono ?_;rintro e w3 ⟨rfl,hb⟩;replace HW:Hid (Below w.heap.size w w3):=HW.o.trans (hb.mono HW.o.size);go_wp2_with fail
   go_ret;exact⟨rfl,HW.o⟩
end
section
def Gr(w w':World):Prop:=∃(q:Nat) (os':Array Obj),w'=Sort.grow (w.drewN q) os'
theorem Gr.refl(w:World):Gr w w:=⟨0,#[],by rw[Sort.grow_empty];rfl⟩
theorem Gr.alloc{w w':World}(h:Gr w w')(o:Obj):Gr w (w'.alloc o):=by
 obtain⟨q,os,rfl⟩:=h
 exact⟨q,os++#[o],by rw[Sort.alloc_eq_grow,Sort.grow_grow]⟩
theorem Gr.drew{w w':World}(h:Gr w w'):Gr w w'.drew:=by
 obtain⟨q,os,rfl⟩:=h
 exact⟨q+1,os,rfl⟩
theorem pW(x y:Int)(w:World):Calls Tryz.prog 121 #[.int .i64 x,.int .i64 y] w fun e w'=>e=.returned (.int .i64 (Lib.compareInt x y))∧w'=w:=by
 by_cases h1:x<y
 ·have e:Lib.compareInt x y=-1:=by simp[Lib.compareInt,h1]
  rw[e];have d1:decide (x<y)=true:=sH h1;go_enter Tryz.func121,Tryz.ntmps121;go_wp2
  go_ret;exact⟨rfl,rfl⟩
 ·by_cases h2:y<x
  ·have e:Lib.compareInt x y=1:=by simp[Lib.compareInt,h1,h2]
   rw[e];have d1:decide (x<y)=false:=sI h1;have d2:decide (y<x)=true:=sH h2;go_enter Tryz.func121,Tryz.ntmps121;go_wp2
   go_ret;exact⟨rfl,rfl⟩
  ·have e:Lib.compareInt x y=0:=by simp[Lib.compareInt,h1,h2]
   rw[e];have d1:decide (x<y)=false:=sI h1;have d2:decide (y<x)=false:=sI h2;go_enter Tryz.func121,Tryz.ntmps121;go_wp2
   go_ret;exact⟨rfl,rfl⟩
theorem orI_any(x y:Int)(g:Nat)(w:World)(c0:w.cell? ⟨g,0,none⟩=some (.int .i64 x))(c1:w.cell? ⟨g,1,none⟩=some (.int .i64 y)):
 Calls Tryz.prog 120 #[.slice (some ⟨g,0,none⟩) 2 2] w fun e w'=>e=.returned (.int .i64 (if x=0 then y else x))∧w'=w:=by
 by_cases hx:x=0
 ·have HX:=Hi hx;rw[tA hx];rw[hx]at c0;clear hx;go_enter Tryz.func120,Tryz.ntmps120;go_wp2_with fail
  go_loop [8] (fun s8=>∃k:Nat,s8=.int .i64 k∧k≤2∧(k=2→y=0)) (fun s8=>2-(intOf s8).toNat)
  case atStart=>exact⟨0,rfl,by omega,by omega⟩
  case round =>
   obtain⟨k,rfl,hk,h2⟩:=hrel
   have h3:k=0∨k=1∨k=2:=by omega
   have H2:=Hi h2;clear h2;rcases h3 with rfl|rfl|rfl
   ·go_wp2_with fail
    go_round
    case rel=>exact⟨1,by go_num,by omega,by omega⟩
    case measure=>simp[intOf]
   ·by_cases hy:y=0
    ·have HY:=Hi hy;rw[hy]at c1;clear hy;go_wp2_with fail
     go_round
     case rel=>exact⟨2,by go_num,by omega,fun _=>HY.o⟩
     case measure=>simp[intOf]
    ·go_wp2_with fail
     go_ret;exact⟨rfl,rfl⟩
   ·have hy:=H2.o rfl;have HY:=Hi hy;clear hy;go_wp2_with fail
    go_ret;exact⟨by rw[HY.o];rfl,rfl⟩
 ·rw[sT hx];go_enter Tryz.func120,Tryz.ntmps120;go_wp2_with fail
  go_loop [8] (fun s8=>s8=.int .i64 0) (fun _=>0)
  case atStart=>rfl
  case round =>
   subst hrel;go_wp2_with fail
   go_ret;exact⟨rfl,rfl⟩
def cmpR(r q:Rf):Int:=if Lib.compareInt r.1 q.1=0 then Lib.compareInt r.2 q.2 else Lib.compareInt r.1 q.1
theorem qD(r q:Rf)(w:World):Calls Tryz.prog 93 #[dB r,dB q] w fun e w'=>e=.returned (.int .i64 (cmpR r q))∧Gr w w':=by
 obtain⟨ra,rs⟩:=r
 obtain⟨qa,qs⟩:=q
 simp only[dB,cmpR];have hc1:=pW ra qa;have hc2:=pW rs qs;generalize Lib.compareInt ra qa=x at *;generalize Lib.compareInt rs qs=y at *;have OR:=orI_any x y;generalize (if x=0 then y else x)=z at OR ⊢;go_enter Tryz.func93,Tryz.ntmps93;go_wp2_with fail
 have hB:Gr w ((w.alloc (.cells #[.int .i64 ra,.int .i64 rs] 45)).alloc (.cells #[.int .i64 qa,.int .i64 qs] 45)):=((Gr.refl w).alloc _).alloc _;have y0:Blk ((w.alloc (.cells #[.int .i64 ra,.int .i64 rs] 45)).alloc (.cells #[.int .i64 qa,.int .i64 qs] 45)) w.heap.size _ _:=(Blk.new w 45 #[.int .i64 ra,.int .i64 rs]).alloc _;have y1:Blk ((w.alloc (.cells #[.int .i64 ra,.int .i64 rs] 45)).alloc (.cells #[.int .i64 qa,.int .i64 qs] 45)) (w.heap.size+1) 45 #[.int .i64 qa,.int .i64 qs]:=by
  have:=Blk.new (w.alloc (.cells #[.int .i64 ra,.int .i64 rs] 45)) 45 #[.int .i64 qa,.int .i64 qs]
  simpa using this
 generalize (w.alloc (.cells #[.int .i64 ra,.int .i64 rs] 45)).alloc (.cells #[.int .i64 qa,.int .i64 qs] 45)=w1 at hB y0 y1 ⊢;have HB:=Hi hB;obtain⟨x1,x2⟩:=ce2 y0
 obtain⟨x3,x4⟩:=ce2 y1
 clear hB y0 y1;refine wp_region_still_tail 10 (by kernel_rfl) (by kernel_rfl) ?_;simp only[tE,tO,tG,tT];repeat (refine aQ rfl (fun K hK=>?_);go_simp;refine hK _ ?_;clear hK K)
 (refine aQ rfl (fun K hK=>?_);go_simp;refine⟨_,hc1 _,hK _ ?_⟩;clear hK K)
 repeat (refine aQ rfl (fun K hK=>?_);go_simp;refine hK _ ?_;clear hK K)
 (refine aQ rfl (fun K hK=>?_);go_simp;refine⟨_,hc2 _,hK _ ?_⟩;clear hK K)
 repeat (refine aQ rfl (fun K hK=>?_);go_simp;refine hK _ ?_;clear hK K)
 refine wpStill_nil ?_;change wpList _ _ _ _ _ w1.drew;have HB2:Hid (Gr w w1.drew):=HB.o.drew;generalize w1.drew=w2 at HB2 ⊢;clear x1 x2 x3 x4;go_wp2_with fail
 go_at_call 120;refine(OR w2.heap.size _ (by rw[(Blk.new w2 _ _).cell 0];rfl) (by rw[(Blk.new w2 _ _).cell 1];rfl)).mono ?_
 rintro e w3 ⟨rfl,rfl⟩;go_wp2_with fail
 go_ret;exact⟨rfl,HB2.o.alloc _⟩
end
end Go.Proofs.YtjhkcbideddlgaaGreat
