/- The laws on books: what both books' Take leave; small laws. -/
import Derived.Test.YtjhkcbideddlgaaGreatP22
import Derived.Test.YtjhkcbideddlgaaGreatP20
import Derived.Test.YtjhkcbideddlgaaGreatP17
import Derived.Test.YtjhkcbideddlgaaGreatP2
import Derived.Test.YtjhkcbideddlgaaGreatP15
import Derived.Test.YtjhkcbideddlgaaGreatP16
import Derived.Test.YtjhkcbideddlgaaGreatP18
set_option maxHeartbeats 8000000
set_option maxRecDepth 20000
set_option linter.unusedVariables false
set_option linter.unusedSimpArgs false
namespace Go.Proofs.YtjhkcbideddlgaaGreat
open Go.ChangeShapes Go.WideShapes Go.ChangeAt Go.RowKit
section
end
section
open Go.RowKit
end
section
def BRc(w:World)(g:Nat)(L:List ChD):Prop :=
 ∃A c VW,Blk w g 88 #[.slice A L.length c,VW]∧ChsIn (fun k=>k<w.heap.size) w A L∧L.length≤c∧c≤9223372036854775807
theorem BM.brc{D F:Nat→Prop}{w:World}{g:Nat}{L W:List ChD}{VL VW:Value}(h:BM D F w g L W VL VW):BRc w g L:=by
 obtain⟨A,c,A',c',h1,h2,h3⟩:=h.br
 obtain⟨A2,c2,e,hc1,hc2,-⟩:=aC.of_own h.oL
 have hb:=h.blk;have h4:VL=.slice A L.length c:=by
  have:=(h1.cell 0).symm.trans (hb.cell 0)
  simpa using this.symm
 rw[h4]at e;simp only[tS,true_and]at e;obtain⟨rfl,rfl⟩:=e
 exact⟨A,c,VW,by rw[←h4];exact hb,h2,hc1,by simpa[maxLen] using hc2⟩
theorem BRc.below{w w':World}{g:Nat}{L:List ChD}(h:BRc w g L)(hb:Below w.heap.size w w'):BRc w' g L:=by
 obtain⟨A,c,VW,h1,h2,h3⟩:=h
 exact⟨A,c,VW,h1.keep (hb.block _ h1.lt),h2.below hb,h3⟩
end
section
theorem allOps_take{L:List ChD}{k:Nat}{c:ChD}(h:L[k]?=some c):bE (L.take (k+1))=bE (L.take k)++c.opsI:=by
 unfold bE;rw[sQ,h,uH,uC];simp
theorem knownP_self(c:ChD):bV [c] [c.rf]=c.opsI:=by
 unfold bV;rw[vK (by simp)];simp
theorem allOps_len{L:List ChD}(h:∀c∈L,c.ops.length≤40):(bE L).length≤40*L.length:=by
 unfold bE;induction L with
 |nil=>simp
 |cons c L ih =>
  have ih:=ih (fun c hc=>h c (by simp[hc]));have hc:=h c (by simp);rw[tQ,sF,sV,fG];omega
theorem ChsIn.single{D:Nat→Prop}{w:World}{L:List ChD}{b o k:Nat}{c:ChD}(h:∀j v,(aW L)[j]?=some v→w.cell? ⟨b,o+j,none⟩=some v)(hc:L[k]?=some c)(hb:D b)(hi:ChIn D w c):ChsIn D w (some ⟨b,o+k*5,none⟩) [c] where
 row:=⟨rfl,fun _=>⟨⟨b,o+k*5,none⟩,rfl,hb,fun j u hu=>by
  have hj:j<5:=by
   have:=(sE.1 hu).1
   exact this
  have h1:=aI (L:=[c]) (k:=0) (c:=c) rfl j hj;rw[Nat.zero_mul,uX,hu]at h1;have h2:=h (k*5+j) u (by rw[aI hc j hj];exact h1.symm);rw[←tY]at h2;show w.cell? (Addr.add _ _)=_;rw[show(Addr.mk b (o+k*5) none).add j=⟨b,o+k*5+j,none⟩ from by simp[Addr.add]];exact h2⟩⟩
 each:=fun x hx=>by rw[sP.1 hx];exact hi
theorem slice_ch(b o n c k:Nat)(hk:k<n)(hc:n≤c)(w:World):
 (Instr.slice 23 (.slice (some ⟨b,o,none⟩) n c) (some (.int .i64 k)) (some (.int .i64 ((k:Int)+1))) none).run Tryz.prog w=.ok (.slice (some ⟨b,o+k*5,none⟩) 1 (c-k)) w:=by
 have u:=Tryz.underlying23;have h0:(0:Int)≤(k:Int):=by omega
 have h1:(k:Int)≤(k:Int)+1:=by omega
 have h2:(k:Int)+1≤(c:Int):=by omega
 have h3:((k:Int)+1).toNat-k=1:=by omega
 have h:¬c=k:=by omega
 go_simp
theorem sState_more(L:List ChD)(A:Option Addr)(cA:Nat)(M:List OpI)(AM:Option Addr)(cM:Nat)(w:World)(hL:ChsIn (fun k=>k<w.heap.size) w A L)(hM:aC (fun k=>k<w.heap.size) w 15 AM M.length (bS M))(hml:M.length≤1000)(hok:∀c∈L,ChOk c)(hl:L.length≤120)(hcA:L.length≤cA)(hcm:cA≤9223372036854775807):
 Calls Tryz.prog 20 #[.slice A L.length cA,.slice AM M.length cM] w fun e w'=>∃v,e=.returned (.agg #[v])∧w'.ownsRow w.heap.size 115 15 v (bE L++M).length (bS (bE L++M))∧Below w.heap.size w w':=by
 obtain⟨mn,hmn⟩:∃m,M.length=m:=⟨_,rfl⟩
 have HMN:=Hi hmn;have HMR:=Hi hM;rw[hmn]at hml ⊢;clear hM hmn;obtain⟨n,hn⟩:∃n,L.length=n:=⟨_,rfl⟩
 have HN:=Hi hn;have HL:=Hi hL;have HOK:=Hi hok;rw[hn]at hl hcA ⊢;clear hn hL hok;go_enter Tryz.func20,Tryz.ntmps20;go_upto_region 3 with fail
 have HG:=Hi (Blk.new w 58 #[.slice none 0 0]);have HW0:Hid (Below w.heap.size w (w.alloc (.cells #[.slice none 0 0] 58))):=(sA _ w).alloc (sB _) _;generalize w.alloc (.cells #[.slice none 0 0] 58)=w1 at HG HW0 ⊢;obtain⟨g,hg⟩:∃g,w.heap.size=g:=⟨_,rfl⟩
 have HGS:=Hi hg;rw[hg]at HG HW0 ⊢;clear hg;go_loopw [5,6] (fun s5 s6 wr=>∃(k:Nat) (v5:Value),v5=s5∧s6=.int .i64 k∧k≤n∧Hid (wr.ownsRow (g+1) 115 15 v5 (bE (L.take k)).length (bS (bE (L.take k))))∧Hid (Blk wr g 58 #[.slice none 0 0])∧Hid (Below g w wr)) (fun _ s6 _=>n-(intOf s6).toNat)
 case atStart=>exact⟨0,_,rfl,rfl,by omega,by show World.ownsRow _ _ _ _ _ _ _;simpa[bE,bS] using bB _ _ _ _,HG,HW0⟩
 case round =>
  clear HG HW0;obtain⟨k,v5,rfl,rfl,hk,HO,HG,HB⟩:=hrel
  by_cases hlt:k<n
  ·obtain⟨c,hc⟩:∃c,L[k]?=some c:=⟨_,sC (by rw[HN.o];exact hlt)⟩
   have HT:=Hi (allOps_take hc);have HLB:=Hi (HL.o.below (by rw[HGS.o];exact HB.o));obtain⟨b1,o1,hA,hbl,hc1⟩:=HLB.o.row.at_ (by rw[HN.o];omega) (by omega)
   have HCM:=Hi (sJ hc);have hcl:=HOK.o c HCM.o;have HS1:=Hi (ChsIn.single hc1 hc hbl (HLB.o.each c HCM.o));have hlen:(bE (L.take k)).length≤40*k:=by
    have:=allOps_len (L:=L.take k) (fun c hc=>(HOK.o c (uY hc)).2.2.1)
    rw[tD]at this;omega
   have x0:wr.cell? ⟨b1,o1+k*5,none⟩=some (.int .i64 c.a):=hc1 _ _ (aI hc 0 (by omega));have x1:wr.cell? ⟨b1,o1+k*5+1,none⟩=some (.int .i64 c.s):=hc1 _ _ (aI hc 1 (by omega));have x2:wr.cell? ⟨b1,o1+k*5+2,none⟩=some (.int .i64 c.st):=hc1 _ _ (aI hc 2 (by omega));have x3:wr.cell? ⟨b1,o1+k*5+3,none⟩=some (.slice c.DA c.deps.length c.DC):=hc1 _ _ (aI hc 3 (by omega));have x4:wr.cell? ⟨b1,o1+k*5+4,none⟩=some (.slice c.OA c.ops.length c.OC):=hc1 _ _ (aI hc 4 (by omega));subst hA;have hsl:=slice_ch b1 o1 n cA k hlt hcA;have hwr:IntKind.i64.wrap ((k:Int)+1)=(k:Int)+1:=tH _ (by omega);clear hc hbl hc1;go_upto_region 5 with fail
   have HOPS:Hid (∀(V:World) (B:Nat),Below wr.heap.size wr V→aC (fun k=>k<V.heap.size) V 2 (some ⟨B,0,none⟩) 1 (aF [c.rf])→Calls Tryz.prog 60 #[.slice (some ⟨b1,o1+k*5,none⟩) 1 (cA-k),.slice (some ⟨B,0,none⟩) 1 1] V fun e w'=>∃v,e=.returned v∧w'.ownsRow V.heap.size 115 15 v c.opsI.length (bS c.opsI)∧Below V.heap.size V w'):=fun V B hv hr=>by
    have:=sOps_any [c] [c.rf] (some ⟨b1,o1+k*5,none⟩) (cA-k) (some ⟨B,0,none⟩) 1 V (HS1.o.below hv) hr (fun x hx=>by rw[sP.1 hx];exact hcl) (by simp) (by simp)
    rw[knownP_self]at this;exact this
   refine wp_region_any (by kernel_rfl) ?_;change wpAny _ _ _ _ _ _ _ (World.drew _);refine wpAny_take (i:=0) (v:=?_) rfl (by kernel_rfl) (by kernel_rfl) (by kernel_rfl) (fun _ _ _ h=>h) (Or.inl ⟨by rfl,?_⟩) ?_
   rotate_left
   ·(intro w;go_simp;try with_reducible rfl)
   try simp only[Act.put,zA,zB,zC]
   refine wpAny_take (i:=1) (v:=?_) rfl (by kernel_rfl) (by kernel_rfl) (by kernel_rfl) (fun _ _ _ h=>h) (Or.inl ⟨by rfl,?_⟩) ?_
   rotate_left
   ·(intro w;go_simp;try with_reducible rfl)
   try simp only[Act.put,zA,zB,zC]
   refine wpAny_take (i:=2) (v:=?_) rfl (by kernel_rfl) (by kernel_rfl) (by kernel_rfl) (fun _ _ _ h=>h) (Or.inl ⟨by rfl,?_⟩) ?_
   rotate_left
   ·(intro w;go_simp;try with_reducible rfl)
   try simp only[Act.put,zA,zB,zC]
   refine wpAny_take (i:=3) (v:=?_) rfl (by kernel_rfl) (by kernel_rfl) (by kernel_rfl) (fun _ _ _ h=>h) (Or.inl ⟨by rfl,?_⟩) ?_
   rotate_left
   ·(intro w;go_simp;try with_reducible rfl)
   try simp only[Act.put,zA,zB,zC]
   refine wpAny_take (i:=4) (v:=?_) rfl (by kernel_rfl) (by kernel_rfl) (by kernel_rfl) (fun _ _ _ h=>h) (Or.inl ⟨by rfl,?_⟩) ?_
   rotate_left
   ·(intro w;go_simp;try with_reducible rfl)
   try simp only[Act.put,zA,zB,zC]
   refine wpAny_take (i:=5) (v:=?_) rfl (by kernel_rfl) (by kernel_rfl) (by kernel_rfl) (fun _ _ _ h=>h) (Or.inl ⟨by rfl,?_⟩) ?_
   rotate_left
   ·(intro w;go_simp;try with_reducible rfl)
   try simp only[Act.put,zA,zB,zC]
   refine wpAny_take (i:=6) (v:=?_) rfl (by kernel_rfl) (by kernel_rfl) (by kernel_rfl) (fun _ _ _ h=>h) (Or.inl ⟨by rfl,?_⟩) ?_
   rotate_left
   ·(intro w;go_simp;try with_reducible rfl)
   try simp only[Act.put,zA,zB,zC]
   refine wpAny_take (i:=7) (v:=?_) rfl (by kernel_rfl) (by kernel_rfl) (by kernel_rfl) (fun _ _ _ h=>h) (Or.inl ⟨by rfl,?_⟩) ?_
   rotate_left
   ·(intro w;go_simp;try with_reducible rfl)
   try simp only[Act.put,zA,zB,zC]
   refine wpAny_take (i:=8) (v:=?_) rfl (by kernel_rfl) (by kernel_rfl) (by kernel_rfl) (fun _ _ _ h=>h) (Or.inl ⟨by rfl,?_⟩) ?_
   rotate_left
   ·(intro w;go_simp;try with_reducible rfl)
   try simp only[Act.put,zA,zB,zC]
   refine wpAny_ready (rs:=[9]) (by kernel_rfl) (by simp) ?_;refine sR rfl (fun K hK=>?_) tC;go_simp;refine hK _ _ ?_;clear hK K;try simp only[Act.put,zA,zB,zC]
   refine wpAny_ready (rs:=[10]) (by kernel_rfl) (by simp) ?_;refine sR rfl (fun K hK=>?_) tC;go_simp;refine(eI _ _ _ _ _ _ (by rfl) (by rfl) (by rfl)).mono ?_
   rintro e w2 ⟨rfl,hb2⟩;refine hK _ _ ?_;clear hK K;try simp only[Act.put,zA,zB,zC]
   have hb2':Below wr.heap.size wr w2:=bT (sA _ wr).drew (sB _) hb2;have HB2:=Hi hb2';clear hb2 hb2' x0 x1 x2 x3 x4;refine wpAny_ready (rs:=[11]) (by kernel_rfl) (by simp) ?_;refine sR rfl (fun K hK=>?_) tC;go_simp;refine hK _ _ ?_;clear hK K;try simp only[Act.put,zA,zB,zC]
   have hA:Below wr.heap.size wr (w2.alloc (.cells #[.int .i64 c.a,.int .i64 c.s] 45)):=HB2.o.alloc HB2.o.size _;have hR:aC (fun k=>k<(w2.alloc (.cells #[.int .i64 c.a,.int .i64 c.s] 45)).heap.size) (w2.alloc (.cells #[.int .i64 c.a,.int .i64 c.s] 45)) 2 (some ⟨w2.heap.size,0,none⟩) 1 (aF [c.rf]):=(cD (Blk.new w2 45 #[.int .i64 c.a,.int .i64 c.s]) (n:=2) rfl).more fun x hx=>by rw[hx,tB];exact Nat.lt_succ_self _
   refine wpAny_ready (rs:=[12]) (by kernel_rfl) (by simp) ?_;refine sR rfl (fun K hK=>?_) tC;go_simp;refine(HOPS.o _ _ hA hR).mono ?_
   rintro e w3 ⟨v3,rfl,ho3,hb3⟩;refine hK _ _ ?_;clear hK K;try simp only[Act.put,zA,zB,zC]
   obtain⟨A3,c3,rfl,-,-,hr3⟩:=aC.of_own ho3
   have hB3:Below wr.heap.size wr w3:=bT hA (sB _) hb3;have HO3:=Hi (aO HO.o hB3);obtain⟨i0,hi,hz0,hz1,hz2⟩:=info_parts infoO
   have hgl:g<wr.heap.size:=HG.o.lt;have hg3:g<w3.heap.size:=sD hgl hB3.size;have hol:c.opsI.length≤40:=by rw[fG];exact hcl.2.2.1
   refine wpAny_ready (rs:=[13]) (by kernel_rfl) (by simp) ?_;refine sR rfl (fun K hK=>?_) tC;refine bA _ (by rfl) (.tmp 13) (.tmp 25) 56 (by rfl) (g+1) 115 i0 _ 15 152 Tryz.underlying56 hi hz0 hz1 hz2 rfl (by omega) v5 (bE (L.take k)).length (bS (bE (L.take k))) (by rfl) HO3.o _ A3 c.opsI.length c3 (bS c.opsI) (by rfl) hr3 (jK _) (by simp only[maxLen];omega) (by omega) (by omega) ?_;intro v9 w9 ho9 hg9 hat9;refine hK _ _ ?_;clear hK K;try simp only[Act.put,zA,zB,zC]
   refine wpAny_ready (rs:=[14]) (by kernel_rfl) (by simp) ?_;refine sR rfl (fun K hK=>?_) tC;go_simp;refine hK _ _ ?_;clear hK K;try simp only[Act.put,zA,zB,zC]
   refine wpAny_done (by kernel_rfl) ?_ _;have hneg:v5.ownBlock≠some g:=fun e=>by have:=(aD HO3.o e).1;omega
   have HO9:Hid (w9.ownsRow (g+1) 115 15 v9 (bE (L.take (k+1))).length (bS (bE (L.take (k+1))))):=by
    show World.ownsRow _ _ _ _ _ _ _;rw[HT.o,sF,fZ];exact ho9
   have HB9:Hid (Below g w w9):=(HB.o.trans (hB3.mono (Nat.le_of_lt hgl))).grown hg9 (Nat.le_of_lt hg3) (fun j hj=>Nat.le_of_succ_le (aD HO3.o hj).1);have HG9:Hid (Blk w9 g 58 #[.slice none 0 0]):=(HG.o.keep (hB3.block _ hgl)).grown hg9 hneg;clear hneg ho9 hg9 hat9 hb3 ho3 hr3 hB3 HO3 HO HG HB hA hR HOPS HB2 HS1 hsl hol hi hz0 hz1 hz2;go_wp2_with fail
   go_roundw
   case rel=>exact⟨k+1,v9,rfl,by go_num,hlt,HO9,HG9,HB9⟩
   case measure=>simp[intOf];omega
  ·have HK:Hid (bE (L.take k)=bE L):=by show _=_;rw[sL (by rw[HN.o];omega)]
   rw[HK.o]at HO;have c0:=cZ HG.o 0 rfl;have f0:=HG.o.frozen 0;have hgl:g<wr.heap.size:=HG.o.lt;have hlen:(bE L).length≤40*120:=by
    have:=allOps_len (L:=L) (fun c hc=>(HOK.o c hc).2.2.1)
    have:=HN.o
    omega
   obtain⟨i0,hi,hz0,hz1,hz2⟩:=info_parts infoO
   have HMRr:Hid (aC (fun k=>k<wr.heap.size) wr 15 AM mn (bS M)):=by
    have h1:=HMR.o;rw[HMN.o]at h1;exact aA h1 (by rw[HGS.o];exact HB.o)
   go_wp2_with (at_builtin;refine aG _ rfl (.tmp 27) (.tmp 28) _ rfl (g+1) 115 i0 _ 15 152 Tryz.underlying56 hi hz0 hz1 hz2 rfl (by omega) (v5) ((bE L).length) (bS (bE L)) rfl (HO.o) _ (AM) (mn) (cM) (bS M) rfl (HMRr.o) (jK _) ?c1 ?c2 ?c3 ?_)
   case c1=>simp only[maxLen];omega
   case c2=>omega
   case c3=>omega
   intro v9 w9 ho9 hg9 hat9;have hneg:v5.ownBlock≠some g:=fun e=>by have:=(aD HO.o e).1;omega
   have HG9:Hid (Blk w9 g 58 #[.slice none 0 0]):=HG.o.grown hg9 hneg;have HB9:Hid (Below g w w9):=HB.o.grown hg9 (Nat.le_of_lt hgl) (fun j hj=>Nat.le_of_succ_le (aD HO.o hj).1);have HO9:Hid (w9.ownsRow (g+1) 115 15 v9 (bE L++M).length (bS (bE L++M))):=by
    show World.ownsRow _ _ _ _ _ _ _;rw[sF,fZ,HMN.o];exact ho9
   obtain⟨A9,c9,e9,-,-,-⟩:=aC.of_own HO9.o
   subst e9;have c1:=cZ HG9.o 0 rfl;have f1:=HG9.o.frozen 0;clear c0 f0 hneg ho9 hg9 hat9 HO HG HB hi hz0 hz1 hz2 HMRr;go_wp2_with fail
   simp only[←sF];refine bodyPost_ret (results_cell_row rfl _ _ g _ _ _ _ rfl (HG9.o.set_ 0 (.slice A9 (bE L++M).length c9)) Tryz.underlying58 rfl (by kernel_rfl)) rfl ?_;rw[HGS.o];refine⟨_,rfl,bG (aT HO9.o fun k hk=>sU _ _ _ k fun e=>?_) fun k hk=>Nat.le_of_succ_le (aD HO9.o hk).1,HB9.o.setCell (p:=⟨g,0,none⟩) (sB _) _⟩
   have h1:=(aD HO9.o hk).1;have h2:k=g:=e;omega
end
section
def jQ(P:Nat→Prop)(w:World)(l:List ChD)(g:Nat):Prop :=
 ∃bh bw bb X W,PBD P w g bh bw bb X W∧RunB l (X.map Prod.fst) W∧∀k,P k→k<w.heap.size
theorem jQ.keep{P:Nat→Prop}{w w':World}{l:List ChD}{g:Nat}(h:jQ P w l g)(hs:w.heap.size≤w'.heap.size)(hk:∀k,P k→w'.heap[k]?=w.heap[k]?):jQ P w' l g:=by
 obtain⟨bh,bw,bb,X,W,h1,h2,h3⟩:=h
 exact⟨bh,bw,bb,X,W,h1.keep hs (fun k hp _=>hk k hp),h2,fun k hp=>sD (h3 k hp) hs⟩
theorem jQ.below{P:Nat→Prop}{w w':World}{l:List ChD}{g:Nat}(h:jQ P w l g)(hb:Below w.heap.size w w'):jQ P w' l g:=by
 have h3:∀k,P k→k<w.heap.size:=by obtain⟨_,_,_,_,_,_,_,h3⟩:=h;exact h3
 exact h.keep hb.size fun k hp=>hb.block k (h3 k hp)
theorem jQ.chg{P Q:Nat→Prop}{w w':World}{l:List ChD}{g:Nat}(h:jQ P w l g)(hc:Chg Q w w')(hq:∀k,P k→¬Q k):jQ P w' l g:=by
 have h3:∀k,P k→k<w.heap.size:=by obtain⟨_,_,_,_,_,_,_,h3⟩:=h;exact h3
 exact h.keep hc.size fun k hp=>hc.block k (h3 k hp) (hq k hp)
theorem nD(w:World):Calls Tryz.prog 7 #[] w fun e w'=>∃g,e=.returned (.pointer (some ⟨g,0,none⟩))∧jQ (fun k=>w.heap.size≤k∧k<w'.heap.size) w' [] g∧Below w.heap.size w w':=by
 refine(new_any w).mono ?_
 rintro e w' ⟨g,bh,bw,bb,rfl,h1,h2,h3,h4,h5,h6,h7⟩;have hp:=PB.nil h1 h2 h3 h4 h5;exact⟨g,rfl,⟨bh,bw,bb,[],[],⟨hp,⟨⟨h6.2.2.2,hp.blk.lt⟩,⟨h6.1,aJ.lt hp.mh⟩,⟨h6.2.1,aJ.lt hp.mw⟩,⟨h6.2.2.1,aJ.lt hp.mb⟩⟩,(fun x hx=>by cases hx),(fun x hx=>by cases hx)⟩,RunB.nil,fun k hk=>hk.2⟩,h7⟩
theorem lF{P:Nat→Prop}{w:World}{l:List ChD}{i g:Nat}{c:ChD}(h:jQ P w (l.take i) g)(hc:l[i]?=some c)(hin:ChIn (fun k=>k<w.heap.size) w c)(hw:∀o∈c.ops,(Lit.int .i64 o.vn).wf=true):
 Calls Tryz.prog 8 #[.pointer (some ⟨g,0,none⟩),c.v] w fun e w'=>e=.returned (jN (aS (fV (l.take i)).1 (fV (l.take i)).2 c).2)∧jQ (fun k=>P k∨w.heap.size≤k∧k<w'.heap.size) w' (l.take (i+1)) g∧Chg P w w':=by
 obtain⟨bh,bw,bb,X,W,h1,h2,h3⟩:=h
 refine(take_any X W c g bh bw bb w h1.pb h2.inv hin hw).mono ?_
 rintro e w' ⟨c',X',hb,rfl,hp,hx,hch,hfx,hfy⟩;obtain⟨r1,r2⟩:=h2.take hc hb ((base_same hb).2.2 hw)
 rw[r2];have hch2:Chg P w w':=hch.mono fun k _ hk=>by
  have:=h1.pg
  rcases hk with e|e|e
  ·rw[e];exact this.2.1
  ·rw[e];exact this.2.2.1
  ·rw[e];exact this.2.2.2
 refine⟨rfl,⟨bh,bw,bb,X',_,h1.take hp hch hfx (by rw[hx];exact hfy),by rw[hx];exact r1,fun k hk=>?_⟩,hch2⟩
 rcases hk with hk|hk
 ·exact sD (h3 k hk) hch.size
 ·exact hk.2
theorem oC{P:Nat→Prop}{w:World}{l:List ChD}{g:Nat}(h:jQ P w l g):
 Calls Tryz.prog 9 #[.pointer (some ⟨g,0,none⟩)] w fun e w'=>∃(A:Option Addr) (c:Nat) (Lr:List ChD),e=.returned (.slice A Lr.length c)∧Lr.map ChD.base=(dU (fV l).1).map ChD.base∧ChsIn (fun k=>k<w'.heap.size) w' A Lr∧Below w.heap.size w w':=by
 obtain⟨bh,bw,bb,X,W,h1,h2,h3⟩:=h
 have hm:=h2.inv.most;refine(all_any (X.map Prod.fst) g bh _ _ w h1.pb.hb h2.inv.bk (by omega) (fun c hc=>by
  obtain⟨x,hx,rfl⟩:=sW.1 hc
  exact(h1.px x hx).2.more h3)).mono ?_
 rintro e w' ⟨A,c,Lr,rfl,hb,hin,hbl⟩;exact⟨A,c,Lr,rfl,by rw[hb,←allP_base,h2.l1,allP_base],hin,hbl⟩
theorem oN{L:List ChD}(hL:Bk L)(hm:L.length≤120)(La Lb:List ChD)(A B:Option Addr)(ca cb:Nat)(w:World)(ha:ChsIn (fun k=>k<w.heap.size) w A La)(hb:ChsIn (fun k=>k<w.heap.size) w B Lb)(ea:La.map ChD.base=L.map ChD.base)(eb:Lb.map ChD.base=L.map ChD.base):
 Calls Tryz.prog 11 #[.slice A La.length ca,.slice B Lb.length cb] w fun e w'=>e=.returned (.bool true)∧Below w.heap.size w w':=by
 have hg:∀M:List ChD,M.map ChD.base=L.map ChD.base→∀c∈M,EncG c.a c.s c.st c.deps c.ops:=fun M e c hc=>by
  have h1:=(Bk.of_base hL e).err c hc;exact jM h1.1 h1.2
 have hl:La.length=L.length:=by have:=congrArg List.length ea;simpa using this
 exact sameChs_any La Lb A B ca cb w ha hb (ea.trans eb.symm) (hg La ea) (hg Lb eb) (by omega)
def c0:ChD:=⟨1,1,1,[],none,0,[],none,0⟩
theorem take_c0:aS [] [] c0=(([c0],[]),0):=by rfl
theorem c0_in(D:Nat→Prop)(w:World):ChIn D w c0:=⟨aC.none_,by simp[c0],aC.none_,by simp[c0],fun o ho=>by cases ho⟩
end
end Go.Proofs.YtjhkcbideddlgaaGreat
