/- The laws on books: what both books' Take leave; small laws. -/
import Derived.Test.YtmpkejflgpodkaaGreatDoorP24
import Derived.Test.YtmpkejflgpodkaaGreatDoorP22
import Derived.Test.YtmpkejflgpodkaaGreatDoorP18
import Derived.Test.YtmpkejflgpodkaaGreatDoorP2
import Derived.Test.YtmpkejflgpodkaaGreatDoorP16
import Derived.Test.YtmpkejflgpodkaaGreatDoorP17
import Derived.Test.YtmpkejflgpodkaaGreatDoorP19
import Derived.Test.YtmpkejflgpodkaaGreatDoorP20
import Derived.Test.YtmpkejflgpodkaaGreatDoorP15
import Derived.Deep.MidRow
import Derived.Test.YtmpkejflgpodkaaGreatDoorP1
set_option linter.unusedVariables false
set_option linter.unusedSimpArgs false
namespace Go.Proofs.YtmpkejflgpodkaaGreatDoor
open Go.ChangeShapes Go.WideShapes Go.ChangeAt Go.RowKit
theorem told_same (k : Nat) (w : World) (hE : ErrT w) : Calls Tryz.prog 11 #[errN k,.int .i64 k] w fun e w'=>e=.returned (.bool true)∧Below w.heap.size w w':=by
 have:=same_error k k w hE
 rwa [show ((k : Int) == (k : Int))=true from by simp] at this
theorem step_same {XL Wp L Wr : List ChD} {c c' : ChD} (h1 : XL.map ChD.base=L.map ChD.base) (h2 : Wp.map ChD.base=Wr.map ChD.base) (h3 : c'.base=c.base) :
 (takeP XL Wp c').1.1.map ChD.base=(takeP L Wr c).1.1.map ChD.base∧(takeP XL Wp c').1.2.map ChD.base=(takeP L Wr c).1.2.map ChD.base∧(takeP XL Wp c').2=(takeP L Wr c).2:=by
 have a:=take_base XL Wp c'
 have b:=take_base L Wr c
 rw [h1,h2,h3,b] at a
 simp only [Prod.mk.injEq] at a
 exact ⟨a.1.1.symm,a.1.2.symm,a.2.symm⟩
theorem Both.step {B : Nat} {D F F' : Nat→Prop} {w w1 w2 : World} {g bh bw bb gs : Nat} {X X' : List (ChD × Nat × List Rf)} {W W' L Wr L' Wr' : List ChD} {VL VW : Value} (h : Both B D F w g bh bw bb gs X W L Wr)
 (hb1 : BM D F' w1 gs L' Wr' VL VW) (hF' : ∀ k,F' k→F k∨w.heap.size≤k) (hch : Chg F w w1)
 (hpb : PB w2 g bh bw bb X' W') (hch2 : Chg (fun k=>k=bh∨k=bw∨k=bb) w1 w2) (hfx : ∀ x∈X',x∈X∨w1.heap.size≤x.2.1) (hfy : ∀ y,y∈X'.map Prod.fst∨y∈W'→y∈X.map Prod.fst∨y∈W∨ChIn (fun k=>w1.heap.size≤k) w2 y)
 (hi : Inv L' Wr') (hs : X'.map (fun x=>x.1.base)=L'.map ChD.base) (hsW : W'.map ChD.base=Wr'.map ChD.base) : Both B D F' w2 g bh bw bb gs X' W' L' Wr':=by
 have hp1 : PBD (fun k=>B≤k∧k < w1.heap.size∧¬ F' k) w1 g bh bw bb X W :=
  (h.pbd.keep hch.size fun k hk _=>hch.block k hk.2.1 hk.2.2).more fun k hk=>⟨hk.1,Nat.lt_of_lt_of_le hk.2.1 hch.size,fun e=>(hF' k e).elim hk.2.2 fun h=>by have:=hk.2.1;omega⟩
 have hF1 : ∀ k,F' k→B≤k:=fun k hk=>(hF' k hk).elim (h.hF k) fun h1=>Nat.le_trans h.size h1
 have hB1 : B≤w1.heap.size:=Nat.le_trans h.size hch.size
 refine ⟨(hp1.take hpb hch2 hfx hfy).more fun k hk=>?_,⟨VL,VW,hb1.keep hch2.size (fun k hk=>?_) fun k hk=>?_⟩,h.hD,hF1,Nat.le_trans hB1 hch2.size,hi,hs,hsW⟩
 · rcases hk with hk | hk
   · exact ⟨hk.1,Nat.lt_of_lt_of_le hk.2.1 hch2.size,hk.2.2⟩
   · exact ⟨Nat.le_trans hB1 hk.1,hk.2,fun e=>by have:=hb1.flt e;have:=hk.1;omega⟩
 · refine hch2.block k (hb1.hD k hk).1 fun e=>?_
   have h1:=h.hD k hk
   have h2:=hp1.pg
   rcases e with e | e | e
   · have:=h2.2.1.1;omega
   · have:=h2.2.2.1.1;omega
   · have:=h2.2.2.2.1;omega
 · refine hch2.block k (hb1.flt hk) fun e=>?_
   have h2:=hp1.pg
   rcases e with e | e | e
   · exact h2.2.1.2.2 (e▸hk)
   · exact h2.2.2.1.2.2 (e▸hk)
   · exact h2.2.2.2.2.2 (e▸hk)
theorem base_refs' {XL L : List ChD} (h : XL.map ChD.base=L.map ChD.base) : refsOf XL=refsOf L:=by rw [← refs_base XL,← refs_base L,h]
end Go.Proofs.YtmpkejflgpodkaaGreatDoor
namespace Go.Proofs.YtmpkejflgpodkaaGreatDoor
open Go.RowKit
theorem take_one (L : List ChD) (c : ChD) : ((takeP L [] c).2≠0→(takeP L [] c).1=(L,[])) ∧
 ((takeP L [] c).2=0→(c.rf∈refsOf L∧(takeP L [] c).1=(L,[]))∨(c.rf∉refsOf L∧((takeP L [] c).1=(L,[c])∨(takeP L [] c).1=(L++[c],[])))):=by
 unfold takeP
 by_cases he : c.err≠0
 · rw [if_pos he]
   exact ⟨fun _=>rfl,fun h=>(he h).elim⟩
 · rw [if_neg he]
   cases hf : findC L c.rf with
   | some d =>
     obtain ⟨h1,h2⟩:=findC_some hf
     exact ⟨fun _=>rfl,fun _=>.inl ⟨by rw [← h2];exact mem_refs h1,rfl⟩⟩
   | none =>
     have hn:=findC_none.1 hf
     have hw : findC [] c.rf=none:=rfl
     simp only [hw]
     by_cases hl : 120≤L.length+([] : List ChD).length
     · rw [if_pos hl]
       exact ⟨fun _=>rfl,fun h=>by cases h⟩
     · rw [if_neg hl]
       by_cases hr : readyP L c=false
       · rw [if_pos hr]
         exact ⟨fun h=>(h rfl).elim,fun _=>.inr ⟨hn,.inl rfl⟩⟩
       · rw [if_neg hr]
         by_cases hp : fitsP L c=false
         · rw [if_pos hp]
           exact ⟨fun _=>rfl,fun h=>by cases h⟩
         · rw [if_neg hp]
           exact ⟨fun h=>(h rfl).elim,fun _=>.inr ⟨hn,.inr rfl⟩⟩
def bookE (L : List ChD) (c : ChD) : Nat :=
 if (takeP L [] c).2=8 then 8 else if (takeP L [] c).2≠0 then 7 else if c.rf∈refsOf L then 8 else if (takeP L [] c).1.2=[] then 0 else 7
def bookP : List ChD→List ChD→Nat × List ChD
 | L,[]=>(0,L)
 | L,c::l=>if bookE L c=0 then bookP (L++[c]) l else (bookE L c,L)
theorem bookE_zero {L : List ChD} {c : ChD} (h : bookE L c=0) : (takeP L [] c).2=0∧(takeP L [] c).1=(L++[c],[])∧c.rf∉refsOf L:=by
 unfold bookE at h
 by_cases h8 : (takeP L [] c).2=8
 · rw [if_pos h8] at h;cases h
 · rw [if_neg h8] at h
   by_cases h0 : (takeP L [] c).2≠0
   · rw [if_pos h0] at h;cases h
   · rw [if_neg h0] at h
     by_cases hm : c.rf∈refsOf L
     · rw [if_pos hm] at h;cases h
     · rw [if_neg hm] at h
       have h0' : (takeP L [] c).2=0:=Decidable.not_not.1 h0
       rcases (take_one L c).2 h0' with ⟨h1,-⟩ | ⟨-,h1 | h1⟩
       · exact (hm h1).elim
       · rw [h1] at h
         simp at h
       · exact ⟨h0',h1,hm⟩
theorem bookE_base {L L' : List ChD} {c c' : ChD} (h1 : L'.map ChD.base=L.map ChD.base) (h2 : c'.base=c.base) : bookE L' c'=bookE L c:=by
 obtain ⟨-,e2,e3⟩:=step_same (XL:=L') (Wp:=[]) (L:=L) (Wr:=[]) (c:=c) (c':=c') h1 rfl h2
 have e4 : c'.rf=c.rf:=by rw [← base_rf c',← base_rf c,h2]
 have e5 : (takeP L' [] c').1.2=[]↔(takeP L [] c).1.2=[]:=by
  have:=congrArg List.length e2
  simp only [List.length_map] at this
  constructor
  · intro h;exact List.eq_nil_of_length_eq_zero (by rw [← this,h];rfl)
  · intro h;exact List.eq_nil_of_length_eq_zero (by rw [this,h];rfl)
 unfold bookE
 rw [e3,base_refs' h1,e4]
 simp only [e5]
theorem book_inv {L : List ChD} (h : Inv L []) {c : ChD} (hw : ∀ o∈c.ops,(Lit.int .i64 o.vn).wf=true) (h0 : bookE L c=0) : Inv (L++[c]) []:=by
 have:=takeP_inv h hw
 rw [(bookE_zero h0).2.1] at this
 exact this
end Go.Proofs.YtmpkejflgpodkaaGreatDoor
namespace Go.Proofs.YtmpkejflgpodkaaGreatDoor
open Go.ChangeShapes Go.WideShapes Go.ChangeAt Go.RowKit
def StBookR (La : List ChD) (B : Nat) (e : Ending) (w' : World) : Prop :=
 ((bookP [] La).1=0∧∃ g bh bw bb X,e=.returned (.tuple #[.pointer (some ⟨g,0,none⟩),.nilIface])∧PBD (fun k=>B≤k) w' g bh bw bb X []∧(X.map Prod.fst).map ChD.base=(bookP [] La).2.map ChD.base∧Inv (X.map Prod.fst) []) ∨
 ((bookP [] La).1≠0∧e=.returned (.tuple #[.pointer none,errN (bookP [] La).1]))
theorem bookP_drop' {L La : List ChD} {i : Nat} {c : ChD} (hc : La[i]?=some c) : bookP L (La.drop i)=if bookE L c=0 then bookP (L++[c]) (La.drop (i+1)) else (bookE L c,L):=by
 obtain ⟨h1,h2⟩:=List.getElem?_eq_some_iff.1 hc
 rw [List.drop_eq_getElem_cons h1,h2]
 rfl
theorem errno_eq (a b : Int) (w : World) : (binOp .eql 38 (.iface 101 (.int .i64 a)) (.iface 101 (.int .i64 b))).run Tryz.prog w=.ok (.bool (a == b)) w:=by
 first | kernel_rfl | (have u:=Tryz.underlying101;have u2:=Tryz.underlying38;go_simp;trace_state;done)
set_option maxHeartbeats 8000000 in
set_option maxRecDepth 20000 in
theorem stBook_any (La : List ChD) (A : Option Addr) (cA : Nat) (w : World) (hl : La.length≤9223372036854775807) (hL : ChsIn (fun k=>k < w.heap.size) w A La) (hw : ∀ c∈La,∀ o∈c.ops,(Lit.int .i64 o.vn).wf=true) :
 Calls Tryz.prog 57 #[.slice A La.length cA] w fun e w'=>StBookR La w.heap.size e w'∧Below w.heap.size w w':=by
 obtain ⟨n,hn⟩ : ∃ n,La.length=n:=⟨_,rfl⟩
 have HN:=Lib.hid hn
 have HL:=Lib.hid hL
 have HV:=Lib.hid hw
 rw [hn] at hl ⊢
 clear hn hL hw
 have C1:=new_any w
 go_enter Tryz.func57,Tryz.ntmps57
 go_wp2_with fail
 go_at_call 83
 refine C1.mono ?_
 rintro e w1 ⟨g,bh,bw,bb,rfl,hg1,hh1,hw1,hb1,hne,hsz,hbel⟩
 have HPB1 : Hid (PBD (fun k=>w.heap.size≤k) w1 g bh bw bb [] []):=⟨PB.nil hg1 hh1 hw1 hb1 hne,⟨hsz.2.2.2,hsz.1,hsz.2.1,hsz.2.2.1⟩,(fun x hx=>by cases hx),(fun x hx=>by cases hx)⟩
 have HW1:=Lib.hid hbel
 clear C1 hg1 hh1 hw1 hb1 hne hsz hbel
 go_upto_region 3 with fail
 go_loopw [12] (fun s12 wr=>∃ (i : Nat) (L : List ChD) (X : List (ChD × Nat × List Rf)),s12=.int .i64 i∧i≤n∧Hid (PBD (fun k=>w.heap.size≤k) wr g bh bw bb X [])∧Hid (Inv (X.map Prod.fst) [])∧Hid ((X.map Prod.fst).map ChD.base=L.map ChD.base)∧Hid (bookP [] La=bookP L (La.drop i))∧Hid (Below w.heap.size w wr)) (fun s12 _=>n - (intOf s12).toNat)
 case atStart=>exact ⟨0,[],[],rfl,by omega,HPB1,Inv.nil,rfl,(by show _=_;rw [List.drop_zero]),HW1⟩
 case round =>
  clear HPB1 HW1
  obtain ⟨i,L,X,rfl,hi,HPB,HIN,HLB,HP,HW⟩:=hrel
  by_cases hlt : i < n
  · obtain ⟨c,hc⟩ : ∃ c,La[i]?=some c:=⟨_,List.getElem?_eq_getElem (by rw [HN.out];exact hlt)⟩
    have HCM:=Lib.hid (List.mem_of_getElem? hc)
    have HPD:=Lib.hid (bookP_drop' (L:=L) hc)
    obtain ⟨b1,o1,hA,hbl,hc1⟩:=HL.out.row.at_ (by rw [HN.out];omega) (by omega)
    have HCX : Hid (∀ V,Below w.heap.size w V→∀ j v,c.cells[j]?=some v→j < 5→V.cell? ⟨b1,o1+i*5+j,none⟩=some v):=fun V hv j v hj h5=>by
     have h3:=chsC_at hc j h5
     rw [hj] at h3
     have h4:=hc1 _ _ h3
     rw [← Nat.add_assoc] at h4
     exact (World.cell?_of_block (hv.block _ hbl)).trans h4
    have HLT:=Lib.hid hlt
    subst hA
    clear hc hbl hc1
    have x0 : wr.cell? ⟨b1,o1+i*5,none⟩=some (.int .i64 c.a):=HCX.out wr HW.out 0 _ rfl (by omega)
    have x1 : wr.cell? ⟨b1,o1+i*5+1,none⟩=some (.int .i64 c.s):=HCX.out wr HW.out 1 _ rfl (by omega)
    have x2 : wr.cell? ⟨b1,o1+i*5+2,none⟩=some (.int .i64 c.st):=HCX.out wr HW.out 2 _ rfl (by omega)
    have x3 : wr.cell? ⟨b1,o1+i*5+3,none⟩=some (.slice c.DA c.deps.length c.DC):=HCX.out wr HW.out 3 _ rfl (by omega)
    have x4 : wr.cell? ⟨b1,o1+i*5+4,none⟩=some (.slice c.OA c.ops.length c.OC):=HCX.out wr HW.out 4 _ rfl (by omega)
    go_upto_region 5 with fail
    have HQ:=Lib.hid (Blk.new wr 82 #[.int .i64 c.a,.int .i64 c.s,.int .i64 c.st,.slice c.DA c.deps.length c.DC,.slice c.OA c.ops.length c.OC])
    have hb2 : Below wr.heap.size wr (wr.alloc (.cells #[.int .i64 c.a,.int .i64 c.s,.int .i64 c.st,.slice c.DA c.deps.length c.DC,.slice c.OA c.ops.length c.OC] 82)):=(Below.refl _ wr).alloc (Nat.le_refl _) _
    have HW2 : Hid (Below w.heap.size w (wr.alloc (.cells #[.int .i64 c.a,.int .i64 c.s,.int .i64 c.st,.slice c.DA c.deps.length c.DC,.slice c.OA c.ops.length c.OC] 82))):=HW.out.trans (hb2.mono HW.out.size)
    have HPB2:=Lib.hid (HPB.out.keep hb2.size fun k _ hk=>hb2.block k hk)
    obtain ⟨q,hq⟩ : ∃ q,wr.heap.size=q:=⟨_,rfl⟩
    have HQW : Hid (w.heap.size≤q):=by rw [← hq];exact HW.out.size
    have HNE : Hid (bh < q∧bw < q∧bb < q):=by rw [← hq];exact ⟨MapL.lt HPB.out.pb.mh,MapL.lt HPB.out.pb.mw,MapL.lt HPB.out.pb.mb⟩
    rw [hq] at HQ ⊢
    clear hb2 HW HPB x0 x1 x2 x3 x4 HCX hq
    generalize wr.alloc (.cells #[.int .i64 c.a,.int .i64 c.s,.int .i64 c.st,.slice c.DA c.deps.length c.DC,.slice c.OA c.ops.length c.OC] 82)=w2 at HQ HW2 HPB2 ⊢
    obtain ⟨nX,hnX⟩ : ∃ k,(X.map Prod.fst).length=k:=⟨_,rfl⟩
    have HNX:=Lib.hid hnX
    have hx120 : nX≤120:=by have:=HIN.out.most;simp only [List.length_nil] at this;omega
    clear hnX
    have C2:=all_any (X.map Prod.fst) g bh (.map (some bw)) (.map (some bb)) w2 HPB2.out.pb.hb HIN.out.bk (by rw [HNX.out];omega) (fun c hc=>by
     obtain ⟨x,hx,rfl⟩:=List.mem_map.1 hc
     exact (HPB2.out.pb.inL x hx).more fun k hk=>hk.1)
    go_wp2_with fail
    go_at_call 59
    refine C2.mono ?_
    rintro e w3 ⟨A3,c3,Lr,rfl,hlr,-,hb⟩
    have hll : Lr.length=nX:=by
     have h1:=congrArg List.length hlr
     simp only [List.length_map] at h1
     rw [h1,all_len HIN.out.bk,HNX.out]
    rw [hll]
    have HQ3:=Lib.hid (HQ.out.keep (hb.block _ HQ.out.lt))
    have HPB3:=Lib.hid (HPB2.out.keep hb.size fun k _ hk=>hb.block k hk)
    have HW3 : Hid (Below w.heap.size w w3):=HW2.out.trans (hb.mono HW2.out.size)
    clear C2 hlr hll hb HQ HPB2 HW2
    have c0 : w3.cell? ⟨q,0,none⟩=some (.int .i64 c.a):=HQ3.out.cell 0
    have c1 : w3.cell? ⟨q,1,none⟩=some (.int .i64 c.s):=HQ3.out.cell 1
    have c2 : w3.cell? ⟨q,2,none⟩=some (.int .i64 c.st):=HQ3.out.cell 2
    have c3 : w3.cell? ⟨q,3,none⟩=some (.slice c.DA c.deps.length c.DC):=HQ3.out.cell 3
    have c4 : w3.cell? ⟨q,4,none⟩=some (.slice c.OA c.ops.length c.OC):=HQ3.out.cell 4
    have C3:=take_any X [] c g bh bw bb w3 HPB3.out.pb HIN.out (((HL.out.each c HCM.out).keep fun k hk=>HW3.out.block k hk).more fun k hk=>Nat.lt_of_lt_of_le hk HW3.out.size) (HV.out c HCM.out)
    unfold ChD.v at C3
    go_wp2_with fail
    go_at_call 84
    refine C3.mono ?_
    rintro e w4 ⟨c',X',hcb,rfl,hpb4,hx4,hch4,hfx4,hfy4⟩
    have hbe:=bookE_base HLB.out hcb
    have hip:=takeP_inv HIN.out ((base_same hcb).2.2 (HV.out c HCM.out))
    rw [← hx4] at hip hfy4
    have HPB4 : Hid (PBD (fun k=>w.heap.size≤k) w4 g bh bw bb X' (takeP (X.map Prod.fst) [] c').1.2):=(HPB3.out.take hpb4 hch4 hfx4 hfy4).more fun k hk=>hk.elim id fun h=>Nat.le_trans HW3.out.size h.1
    have HW4 : Hid (Below w.heap.size w w4):=HW3.out.trans (hch4.below HW3.out.size fun k hk=>by
     have h2:=HPB3.out.pg
     rcases hk with e | e | e
     · rw [e];exact h2.2.1
     · rw [e];exact h2.2.2.1
     · rw [e];exact h2.2.2.2)
    have HQ4:=Lib.hid (HQ3.out.keep (hch4.block _ HQ3.out.lt (fun e=>by have:=HNE.out;omega)))
    have HBE:=Lib.hid hbe
    have HIP:=Lib.hid hip
    have HX4:=Lib.hid hx4
    have HCB:=Lib.hid hcb
    have HTW:=Lib.hid (take_one (X.map Prod.fst) c')
    clear C3 hbe hcb hip hpb4 hx4 hch4 hfx4 hfy4 HPB3 HW3 HQ3 c0 c1 c2 c3 c4
    obtain ⟨te,hte⟩ : ∃ k,(takeP (X.map Prod.fst) [] c').2=k:=⟨_,rfl⟩
    have HTE:=Lib.hid hte
    rw [hte]
    clear hte
    by_cases h8 : te=8
    · subst h8
      have HE : Hid (bookE L c=8):=by show _=_;rw [← HBE.out];unfold bookE;rw [HTE.out];rfl
      have HR : Hid (bookP [] La=(8,L)):=by show _=_;rw [HP.out,HPD.out,HE.out];rfl
      clear HP HPD
      have hee:=fun w=>errno_eq 8 8 w
      rw [show errN 8=.iface 101 (.int .i64 8) from rfl]
      go_wp2_with fail
      go_ret2
      exact ⟨.inr ⟨by rw [HR.out];simp,by rw [HR.out];rfl⟩,HW4.out⟩
    · by_cases h0 : te=0
      · subst h0
        rw [show errN 0=.nilIface from rfl]
        obtain ⟨mX,hmX⟩ : ∃ k,(X'.map Prod.fst).length=k:=⟨_,rfl⟩
        have HMX:=Lib.hid hmX
        have hm120 : mX≤120:=by have:=HIP.out.most;omega
        clear hmX
        have C4:=all_any (X'.map Prod.fst) g bh (.map (some bw)) (.map (some bb)) w4 HPB4.out.pb.hb HIP.out.bk (by rw [HMX.out];omega) (fun c hc=>by
         obtain ⟨x,hx,rfl⟩:=List.mem_map.1 hc
         exact (HPB4.out.pb.inL x hx).more fun k hk=>hk.1)
        go_wp2_with fail
        go_at_call 59
        refine C4.mono ?_
        rintro e w5 ⟨A5,c5,Lr5,rfl,hlr,-,hb⟩
        have hll : Lr5.length=mX:=by
         have h1:=congrArg List.length hlr
         simp only [List.length_map] at h1
         rw [h1,all_len HIP.out.bk,HMX.out]
        rw [hll]
        have HQ5:=Lib.hid (HQ4.out.keep (hb.block _ HQ4.out.lt))
        have HPB5:=Lib.hid (HPB4.out.keep hb.size fun k _ hk=>hb.block k hk)
        have HW5 : Hid (Below w.heap.size w w5):=HW4.out.trans (hb.mono HW4.out.size)
        have ht:=HTW.out.2 HTE.out
        clear C4 hlr hll hb HQ4 HPB4 HW4
        have c0 : w5.cell? ⟨q,0,none⟩=some (.int .i64 c.a):=HQ5.out.cell 0
        have c1 : w5.cell? ⟨q,1,none⟩=some (.int .i64 c.s):=HQ5.out.cell 1
        have hrf : c'.rf=c.rf:=by rw [← base_rf c',← base_rf c,HCB.out]
        by_cases hrd : (takeP (X.map Prod.fst) [] c').1=(X.map Prod.fst++[c'],[])
        · have hnm : c'.rf∉refsOf (X.map Prod.fst):=by
           rcases ht with ⟨h1,h2⟩ | h1
           · rw [h2] at hrd
             have:=congrArg (fun p=>p.1.length) hrd
             simp at this
           · exact h1.1
          have HE : Hid (bookE L c=0):=by show _=_;rw [← HBE.out];unfold bookE;rw [HTE.out,if_neg (by decide),if_neg (by decide),if_neg hnm,hrd];rfl
          have hXX : X'.map Prod.fst=X.map Prod.fst++[c']:=by rw [HX4.out,hrd]
          have hmn : mX=nX+1:=by rw [← HMX.out,hXX,List.length_append,HNX.out];rfl
          have HP5 : Hid (bookP [] La=bookP (L++[c]) (La.drop (i+1))):=by show _=_;rw [HP.out,HPD.out,HE.out];rfl
          have HLB5 : Hid ((X'.map Prod.fst).map ChD.base=(L++[c]).map ChD.base):=by show _=_;rw [hXX,List.map_append,List.map_append,HLB.out,List.map_singleton,List.map_singleton,HCB.out]
          rw [hrd] at HPB5 HIP
          have hne : ((mX : Int) == (nX : Int))=false:=by simp;omega
          clear ht hrd hnm hXX HP HPD HBE HTE HTW HX4 HLB HMX HNX c0 c1
          go_wp2_with fail
          go_roundw
          case rel=>exact ⟨i+1,L++[c],X',by go_num,HLT.out,HPB5,HIP,HLB5,HP5,HW5⟩
          case measure=>have:=HLT.out;simp [intOf];omega
        · have hXX : X'.map Prod.fst=X.map Prod.fst:=by
           rcases ht with ⟨-,h2⟩ | ⟨-,h2 | h2⟩
           · rw [HX4.out,h2]
           · rw [HX4.out,h2]
           · exact (hrd h2).elim
          have hmn : mX=nX:=by rw [← HMX.out,hXX,HNX.out]
          subst hmn
          have herr : c'.err=0:=by
           by_cases h : c'.err=0
           · exact h
           · exfalso
             have h1:=HTE.out
             unfold takeP at h1
             rw [if_pos h] at h1
             exact h h1
          have C5:=has_any (X'.map Prod.fst) c.rf (by rw [← hrf];exact rf_i64 herr) g bh (.map (some bw)) (.map (some bb)) w5 HPB5.out.pb.blk HPB5.out.pb.mh
          rw [hXX] at C5
          unfold ChD.rf at C5
          go_wp2_with fail
          go_at_call 85
          refine C5.mono ?_
          rintro e w6 ⟨rfl,hb⟩
          have HW6 : Hid (Below w.heap.size w w6):=HW5.out.trans (hb.mono HW5.out.size)
          clear C5 hb HW5 HPB5 HQ5 c0 c1
          by_cases hm : c'.rf∈refsOf (X.map Prod.fst)
          · have HE : Hid (bookE L c=8):=by show _=_;rw [← HBE.out];unfold bookE;rw [HTE.out,if_neg (by decide),if_neg (by decide),if_pos hm]
            have HR : Hid (bookP [] La=(8,L)):=by show _=_;rw [HP.out,HPD.out,HE.out];rfl
            have hd : decide ((c.a,c.s)∈refsOf (X.map Prod.fst))=true:=decide_eq_true (by rw [hrf] at hm;exact hm)
            rw [hd]
            clear HP HPD ht
            go_wp2_with fail
            go_ret2
            exact ⟨.inr ⟨by rw [HR.out];simp,by rw [HR.out];rfl⟩,HW6.out⟩
          · have h1 : (takeP (X.map Prod.fst) [] c').1=(X.map Prod.fst,[c']):=by
             rcases ht with ⟨h1,-⟩ | ⟨-,h2 | h2⟩
             · exact (hm h1).elim
             · exact h2
             · exact (hrd h2).elim
            have HE : Hid (bookE L c=7):=by show _=_;rw [← HBE.out];unfold bookE;rw [HTE.out,if_neg (by decide),if_neg (by decide),if_neg hm,h1];simp
            have HR : Hid (bookP [] La=(7,L)):=by show _=_;rw [HP.out,HPD.out,HE.out];rfl
            have hd : decide ((c.a,c.s)∈refsOf (X.map Prod.fst))=false:=decide_eq_false (by rw [hrf] at hm;exact hm)
            rw [hd]
            clear HP HPD ht h1
            go_wp2_with fail
            go_ret2
            exact ⟨.inr ⟨by rw [HR.out];simp,by rw [HR.out];rfl⟩,HW6.out⟩
      · have HE : Hid (bookE L c=7):=by show _=_;rw [← HBE.out];unfold bookE;rw [HTE.out,if_neg h8,if_pos h0]
        have HR : Hid (bookP [] La=(7,L)):=by show _=_;rw [HP.out,HPD.out,HE.out];rfl
        have e8 : ((te : Int) == 8)=false:=by simp;omega
        have hee:=fun w=>errno_eq te 8 w
        rw [show errN te=.iface 101 (.int .i64 te) from if_neg h0]
        clear HP HPD
        go_wp2_with fail
        go_ret2
        exact ⟨.inr ⟨by rw [HR.out];simp,by rw [HR.out];rfl⟩,HW4.out⟩
  · have hLd : Hid (bookP [] La=(0,L)):=by
     show _=_
     rw [HP.out,List.drop_eq_nil_of_le (by rw [HN.out];omega)]
     rfl
    clear HP
    go_wp2_with fail
    go_ret2
    exact ⟨.inl ⟨by rw [hLd.out],g,bh,bw,bb,X,rfl,HPB.out,by rw [hLd.out];exact HLB.out,HIN.out⟩,HW.out⟩
end Go.Proofs.YtmpkejflgpodkaaGreatDoor
namespace Go.Proofs.YtmpkejflgpodkaaGreatDoor
open Go.ChangeShapes Go.WideShapes Go.ChangeAt Go.RowKit
def NewDoes (R : List ChD→Nat→World→Prop) (L : List ChD) : Prop :=
 ∀ (Lr : List ChD) (A : Option Addr) (c : Nat) (V : World),Lr.map ChD.base=(allP L).map ChD.base→ChsIn (fun k=>k < V.heap.size) V A Lr →
  Calls Tryz.prog 58 #[.slice A Lr.length c] V fun e w'=>∃ g,e=.returned (.pointer (some ⟨g,0,none⟩))∧R Lr g w'∧Below V.heap.size V w'
def StFromR (R : List ChD→Nat→World→Prop) (La : List ChD) (e : Ending) (w' : World) : Prop :=
 ((bookP [] La).1=0∧∃ g Lr,e=.returned (.tuple #[.pointer (some ⟨g,0,none⟩),.nilIface])∧Lr.map ChD.base=(allP (bookP [] La).2).map ChD.base∧R Lr g w') ∨
 ((bookP [] La).1≠0∧e=.returned (.tuple #[.pointer none,errN (bookP [] La).1]))
set_option maxHeartbeats 4000000 in
set_option maxRecDepth 20000 in
theorem stFrom_any (R : List ChD→Nat→World→Prop) (La : List ChD) (A : Option Addr) (cA : Nat) (w : World) (hl : La.length≤9223372036854775807) (hL : ChsIn (fun k=>k < w.heap.size) w A La) (hw : ∀ c∈La,∀ o∈c.ops,(Lit.int .i64 o.vn).wf=true) (hN : NewDoes R (bookP [] La).2) :
 Calls Tryz.prog 33 #[.slice A La.length cA] w fun e w'=>StFromR R La e w'∧Below w.heap.size w w':=by
 have C1:=stBook_any La A cA w hl hL hw
 have HN:=Lib.hid hN
 clear hl hL hw hN
 generalize La.length=n at C1 ⊢
 go_enter Tryz.func33,Tryz.ntmps33
 go_wp2_with fail
 go_at_call 57
 refine C1.mono ?_
 rintro e w1 ⟨⟨h0,g,bh,bw,bb,X,rfl,hp,hb,hi⟩ | ⟨h0,rfl⟩,hbw⟩
 · have HW:=Lib.hid hbw
   have HP:=Lib.hid hp
   have HB:=Lib.hid hb
   have HI:=Lib.hid hi
   have H0:=Lib.hid h0
   have C2:=all_any (X.map Prod.fst) g bh (.map (some bw)) (.map (some bb)) w1 hp.pb.hb hi.bk (by have:=hi.most;omega) (fun c hc=>by
    obtain ⟨x,hx,rfl⟩:=List.mem_map.1 hc
    exact (hp.pb.inL x hx).more fun k hk=>hk.1)
   clear C1 hp hb hi h0 hbw
   go_wp2_with fail
   go_at_call 59
   refine C2.mono ?_
   rintro e w2 ⟨A2,c2,Lr,rfl,hlr,hin,hb2⟩
   have HW2 : Hid (Below w.heap.size w w2):=HW.out.trans (hb2.mono HW.out.size)
   have hlr' : Lr.map ChD.base=(allP (bookP [] La).2).map ChD.base:=by rw [hlr,← allP_base,HB.out,allP_base]
   have HLR:=Lib.hid hlr'
   have C3:=HN.out Lr A2 c2 w2 hlr' hin
   clear C2 hlr hlr' hin hb2 HW HP HB HI
   go_wp2_with fail
   go_at_call 58
   refine C3.mono ?_
   rintro e w3 ⟨g3,rfl,hr3,hb3⟩
   have HR3:=Lib.hid hr3
   have HW3 : Hid (Below w.heap.size w w3):=HW2.out.trans (hb3.mono HW2.out.size)
   clear C3 hr3 hb3 HW2
   go_wp2_with fail
   go_ret2
   exact ⟨.inl ⟨H0.out,g3,Lr,rfl,HLR.out,HR3.out⟩,HW3.out⟩
 · have HW:=Lib.hid hbw
   have H0:=Lib.hid h0
   clear C1 hbw
   have HEN : Hid (errN (bookP [] La).1=.iface 101 (.int .i64 (bookP [] La).1)):=if_neg h0
   rw [HEN.out]
   clear h0
   go_wp2_with fail
   go_ret2
   exact ⟨.inr ⟨H0.out,by rw [HEN.out];rfl⟩,HW.out⟩
end Go.Proofs.YtmpkejflgpodkaaGreatDoor
namespace Go.Proofs.YtmpkejflgpodkaaGreatDoor
open Go.ChangeShapes Go.WideShapes Go.ChangeAt Go.RowKit
def StM (Lr : List ChD) (g : Nat) (w : World) : Prop:=∃ B kb vb cb lb V C,SMem B w g kb vb cb lb (allOps Lr) V C
set_option maxHeartbeats 4000000 in
set_option maxRecDepth 20000 in
theorem stElementsBad_any (La : List ChD) (o1 o2 : Int) (A : Option Addr) (cA : Nat) (w : World) (hl : La.length≤9223372036854775807) (hL : ChsIn (fun k=>k < w.heap.size) w A La) (hw : ∀ c∈La,∀ o∈c.ops,(Lit.int .i64 o.vn).wf=true) (hN : NewDoes StM (bookP [] La).2) (h0 : (bookP [] La).1≠0) :
 Calls Tryz.prog 10 #[.slice A La.length cA,.agg #[.int .i64 o1,.int .i64 o2]] w fun e w'=>e=.returned (.tuple #[.slice none 0 0,errN (bookP [] La).1])∧Below w.heap.size w w':=by
 have hb : Below w.heap.size w (w.alloc (.cells #[.int .i64 o1,.int .i64 o2] 24)):=(Below.refl _ w).alloc (Nat.le_refl _) _
 have C1:=stFrom_any StM La A cA _ hl (hL.below hb) hw hN
 have HB:=Lib.hid hb
 have HEN : Hid (errN (bookP [] La).1=.iface 101 (.int .i64 (bookP [] La).1)):=if_neg h0
 clear hb hl hL hw hN
 generalize La.length=n at C1 ⊢
 go_enter Tryz.func10,Tryz.ntmps10
 go_wp2_with fail
 go_at_call 33
 refine C1.mono ?_
 rintro e w1 ⟨⟨h1,-⟩ | ⟨h1,rfl⟩,hbw⟩
 · exact (h0 h1).elim
 · have HW : Hid (Below w.heap.size w w1):=HB.out.trans (hbw.mono HB.out.size)
   rw [HEN.out]
   clear h0 h1 C1 hbw
   go_wp2_with fail
   go_ret2
   exact ⟨by rw [HEN.out];rfl,HW.out⟩
end Go.Proofs.YtmpkejflgpodkaaGreatDoor
namespace Go.Proofs.YtmpkejflgpodkaaGreatDoor
open Go.ChangeShapes Go.WideShapes Go.ChangeAt Go.RowKit
theorem bookP_drop {L La : List ChD} {i : Nat} {c : ChD} (hc : La[i]?=some c) : bookP L (La.drop i)=if bookE L c=0 then bookP (L++[c]) (La.drop (i+1)) else (bookE L c,L):=by
 obtain ⟨h1,h2⟩:=List.getElem?_eq_some_iff.1 hc
 rw [List.drop_eq_getElem_cons h1,h2]
 rfl
def BRc (w : World) (g : Nat) (L : List ChD) : Prop :=
 ∃ A c VW,Blk w g 34 #[.slice A L.length c,VW]∧ChsIn (fun k=>k < w.heap.size) w A L∧L.length≤c∧c≤9223372036854775807
theorem BM.brc {D F : Nat→Prop} {w : World} {g : Nat} {L W : List ChD} {VL VW : Value} (h : BM D F w g L W VL VW) : BRc w g L:=by
 obtain ⟨A,c,A',c',h1,h2,h3⟩:=h.br
 obtain ⟨A2,c2,e,hc1,hc2,-⟩:=Reads.of_own h.oL
 have hb:=h.blk
 have h4 : VL=.slice A L.length c:=by
  have:=(h1.cell 0).symm.trans (hb.cell 0)
  simpa using this.symm
 rw [h4] at e
 simp only [Value.slice.injEq,true_and] at e
 obtain ⟨rfl,rfl⟩:=e
 exact ⟨A,c,VW,by rw [← h4];exact hb,h2,hc1,by simpa [maxLen] using hc2⟩
theorem BRc.below {w w' : World} {g : Nat} {L : List ChD} (h : BRc w g L) (hb : Below w.heap.size w w') : BRc w' g L:=by
 obtain ⟨A,c,VW,h1,h2,h3⟩:=h
 exact ⟨A,c,VW,h1.keep (hb.block _ h1.lt),h2.below hb,h3⟩
def SBookR (La : List ChD) (e : Ending) (w' : World) : Prop :=
 ((bookP [] La).1=0∧∃ gs,e=.returned (.tuple #[.pointer (some ⟨gs,0,none⟩),.int .i64 0])∧BRc w' gs (bookP [] La).2∧Inv (bookP [] La).2 []) ∨
 ((bookP [] La).1≠0∧e=.returned (.tuple #[.pointer none,.int .i64 ((bookP [] La).1 : Nat)]))
set_option maxHeartbeats 8000000 in
set_option maxRecDepth 20000 in
theorem sBook_any (La : List ChD) (A : Option Addr) (cA : Nat) (w : World) (hl : La.length≤9223372036854775807) (hL : ChsIn (fun k=>k < w.heap.size) w A La) (hw : ∀ c∈La,∀ o∈c.ops,(Lit.int .i64 o.vn).wf=true) :
 Calls Tryz.prog 6 #[.slice A La.length cA] w fun e w'=>SBookR La e w'∧Below w.heap.size w w':=by
 obtain ⟨n,hn⟩ : ∃ n,La.length=n:=⟨_,rfl⟩
 have HN:=Lib.hid hn
 have HL:=Lib.hid hL
 have HV:=Lib.hid hw
 rw [hn] at hl ⊢
 clear hn hL hw
 have HG:=Lib.hid (Blk.new w 34 #[.slice none 0 0,.slice none 0 0])
 have HW0 : Hid (Below w.heap.size w (w.alloc (.cells #[.slice none 0 0,.slice none 0 0] 34))):=(Below.refl _ w).alloc (Nat.le_refl _) _
 go_enter Tryz.func6,Tryz.ntmps6
 go_upto_region 3 with fail
 generalize w.alloc (.cells #[.slice none 0 0,.slice none 0 0] 34)=w1 at HG HW0 ⊢
 obtain ⟨gs,hgs⟩ : ∃ g,w.heap.size=g:=⟨_,rfl⟩
 have HGS:=Lib.hid hgs
 rw [hgs] at HG ⊢
 have HBM : Hid (BM (fun k=>k < w.heap.size) (fun k=>k=gs) w1 gs [] [] (.slice none 0 0) (.slice none 0 0)) :=
  ⟨HG.out,own_nil _ _ _ _,own_nil _ _ _ _,(fun k hk=>by cases hk),(fun k=>⟨.inl,fun h=>h.elim id fun h=>by rcases h with h | h <;> cases h⟩),(fun x hx=>by cases hx),(fun x hx=>by cases hx),fun k hk=>⟨Nat.lt_of_lt_of_le hk HW0.out.size,fun e=>by rw [show k=gs from e,← hgs] at hk;exact Nat.lt_irrefl _ hk⟩⟩
 clear hgs HG
 go_loopw [5,6,7] (fun s5 _ _ wr=>∃ (i : Nat) (F : Nat→Prop) (L : List ChD) (VL VW : Value),s5=.int .i64 i∧i≤n∧Hid (i=L.length)∧Hid (Inv L [])∧Hid (BM (fun k=>k < w.heap.size) F wr gs L [] VL VW)∧Hid (∀ k,F k→w.heap.size≤k)∧Hid (bookP [] La=bookP L (La.drop i))∧Hid (Below w.heap.size w wr)) (fun s5 _ _ _=>n - (intOf s5).toNat)
 case atStart=>exact ⟨0,_,[],_,_,rfl,by omega,rfl,Inv.nil,HBM,(by show ∀ k,_→_;intro k hk;rw [HGS.out];exact Nat.le_of_eq hk.symm),(by show _=_;rw [List.drop_zero]),HW0⟩
 case round =>
  clear HBM HW0
  obtain ⟨i,F,L,VL,VW,rfl,hi,HIL,HIN,HBM,HF,HP,HW⟩:=hrel
  by_cases hlt : i < n
  · obtain ⟨c,hc⟩ : ∃ c,La[i]?=some c:=⟨_,List.getElem?_eq_getElem (by rw [HN.out];exact hlt)⟩
    have HCM:=Lib.hid (List.mem_of_getElem? hc)
    have HPD:=Lib.hid (bookP_drop (L:=L) hc)
    obtain ⟨b1,o1,hA,hbl,hc1⟩:=HL.out.row.at_ (by rw [HN.out];omega) (by omega)
    have HCX : Hid (∀ V,Below w.heap.size w V→∀ j v,c.cells[j]?=some v→j < 5→V.cell? ⟨b1,o1+i*5+j,none⟩=some v):=fun V hv j v hj h5=>by
     have h3:=chsC_at hc j h5
     rw [hj] at h3
     have h4:=hc1 _ _ h3
     rw [← Nat.add_assoc] at h4
     exact (World.cell?_of_block (hv.block _ hbl)).trans h4
    have HLT:=Lib.hid hlt
    subst hA
    obtain ⟨AL,cL,AW,cW,hg2,hL2,hW2⟩:=HBM.out.br
    obtain ⟨nL,hnL⟩ : ∃ k,L.length=k:=⟨_,rfl⟩
    have HNL:=Lib.hid hnL
    have hil : nL≤120:=by have:=HIN.out.most;simp only [List.length_nil] at this;omega
    have s0 : wr.cell? ⟨gs,0,none⟩=some (.slice AL nL cL):=by rw [← hnL];exact hg2.cell 0
    have HLR : Hid (Reads (fun k=>k < wr.heap.size) wr 5 AL L.length (chsC L)):=hL2.row
    clear hc hbl hc1 hg2 hL2 hW2 hnL
    have x0 : wr.cell? ⟨b1,o1+i*5,none⟩=some (.int .i64 c.a):=HCX.out wr HW.out 0 _ rfl (by omega)
    have x1 : wr.cell? ⟨b1,o1+i*5+1,none⟩=some (.int .i64 c.s):=HCX.out wr HW.out 1 _ rfl (by omega)
    have x2 : wr.cell? ⟨b1,o1+i*5+2,none⟩=some (.int .i64 c.st):=HCX.out wr HW.out 2 _ rfl (by omega)
    have x3 : wr.cell? ⟨b1,o1+i*5+3,none⟩=some (.slice c.DA c.deps.length c.DC):=HCX.out wr HW.out 3 _ rfl (by omega)
    have x4 : wr.cell? ⟨b1,o1+i*5+4,none⟩=some (.slice c.OA c.ops.length c.OC):=HCX.out wr HW.out 4 _ rfl (by omega)
    go_upto_region 5 with fail
    have hgl : gs < wr.heap.size:=HBM.out.blk.lt
    have hb1l : b1 < wr.heap.size:=by
     rcases Nat.lt_or_ge b1 wr.heap.size with h | h
     · exact h
     · exfalso
       unfold World.cell? at x0
       rw [Array.getElem?_eq_none h] at x0
       cases x0
    have KS : ∀ V : World,Below wr.heap.size wr V→V.cell? ⟨gs,0,none⟩=some (.slice AL nL cL)∧V.cell? ⟨b1,o1+i*5,none⟩=some (.int .i64 c.a)∧V.cell? ⟨b1,o1+i*5+1,none⟩=some (.int .i64 c.s)∧V.cell? ⟨b1,o1+i*5+2,none⟩=some (.int .i64 c.st)∧V.cell? ⟨b1,o1+i*5+3,none⟩=some (.slice c.DA c.deps.length c.DC)∧V.cell? ⟨b1,o1+i*5+4,none⟩=some (.slice c.OA c.ops.length c.OC)∧Below wr.heap.size wr V:=fun V hv=>by
     have e1 : ∀ j,V.cell? ⟨gs,j,none⟩=wr.cell? ⟨gs,j,none⟩:=fun j=>World.cell?_of_block (hv.block _ hgl)
     have e2 : ∀ j,V.cell? ⟨b1,j,none⟩=wr.cell? ⟨b1,j,none⟩:=fun j=>World.cell?_of_block (hv.block _ hb1l)
     rw [e1]
     simp only [e2]
     exact ⟨s0,x0,x1,x2,x3,x4,hv⟩
    have HFD : Hid (∀ V,Below wr.heap.size wr V→Calls Tryz.prog 26 #[.slice AL nL cL,.agg #[.int .i64 c.a,.int .i64 c.s]] V fun e w'=>∃ i,e=.returned (.int .i64 i)∧FindI L c.rf i∧Below V.heap.size V w'):=fun V hv=>by
     have:=sfind_any L c.rf (fun k=>k < V.heap.size) AL cL V (reads_below HLR.out hv) (fun _ h=>h) (by rw [HNL.out];omega)
     rw [HNL.out] at this
     exact this
    go_region_held3 (fun w'=>w'.cell? ⟨gs,0,none⟩=some (.slice AL nL cL)∧w'.cell? ⟨b1,o1+i*5,none⟩=some (.int .i64 c.a)∧w'.cell? ⟨b1,o1+i*5+1,none⟩=some (.int .i64 c.s)∧w'.cell? ⟨b1,o1+i*5+2,none⟩=some (.int .i64 c.st)∧w'.cell? ⟨b1,o1+i*5+3,none⟩=some (.slice c.DA c.deps.length c.DC)∧w'.cell? ⟨b1,o1+i*5+4,none⟩=some (.slice c.OA c.ops.length c.OC)∧Below wr.heap.size wr w') (first | exact KS _ (Below.refl _ wr).drew | exact q | go_keep)
     ((first
       | (go_at_call 27;refine (sref_any _ _ _ _ _ _ (by rfl) (by rfl) (by rfl)).mono ?_;rintro e w7 ⟨rfl,hb7⟩;have q:=KS w7 (by first | exact below_step q.2.2.2.2.2.2 (Nat.le_refl _) hb7 | exact below_step (Below.refl _ wr).drew (Nat.le_refl _) hb7))
       | (go_at_call 26;refine (HFD.out _ (by first | exact q.2.2.2.2.2.2 | exact (Below.refl _ wr).drew)).mono ?_;rintro e w7 ⟨fi,rfl,hfi,hb7⟩;have q:=KS w7 (by first | exact below_step q.2.2.2.2.2.2 (Nat.le_refl _) hb7 | exact below_step (Below.refl _ wr).drew (Nat.le_refl _) hb7))))
    have hb4 : Below wr.heap.size wr w7:=q.2.2.2.2.2.2
    have HB4 : Hid (Below w.heap.size w w7):=HW.out.trans (hb4.mono HW.out.size)
    have HBM4:=Lib.hid (HBM.out.below hb4)
    have HFM:=Lib.hid (findI_mem hfi)
    clear q hfi hb4 KS HFD hgl hb1l HW HBM HLR s0 x0 x1 x2 x3 x4
    generalize w7=w4 at HB4 HBM4 ⊢
    have x0 : w4.cell? ⟨b1,o1+i*5,none⟩=some (.int .i64 c.a):=HCX.out w4 HB4.out 0 _ rfl (by omega)
    have x1 : w4.cell? ⟨b1,o1+i*5+1,none⟩=some (.int .i64 c.s):=HCX.out w4 HB4.out 1 _ rfl (by omega)
    have x2 : w4.cell? ⟨b1,o1+i*5+2,none⟩=some (.int .i64 c.st):=HCX.out w4 HB4.out 2 _ rfl (by omega)
    have x3 : w4.cell? ⟨b1,o1+i*5+3,none⟩=some (.slice c.DA c.deps.length c.DC):=HCX.out w4 HB4.out 3 _ rfl (by omega)
    have x4 : w4.cell? ⟨b1,o1+i*5+4,none⟩=some (.slice c.OA c.ops.length c.OC):=HCX.out w4 HB4.out 4 _ rfl (by omega)
    have C3:=stake_any L [] c (fun k=>k < w.heap.size) F VL VW gs w4 HBM4.out HIN.out ((HL.out.each c HCM.out).keep fun k hk=>HB4.out.block k hk) (HV.out c HCM.out)
    unfold ChD.v at C3
    go_wp2_with fail
    go_at_call 28
    refine C3.mono ?_
    rintro e w5 ⟨rfl,F',VL',VW',hbm5,hF5,hch5⟩
    have HB5 : Hid (Below w.heap.size w w5):=HB4.out.trans (hch5.below HB4.out.size HF.out)
    have HF5 : Hid (∀ k,F' k→w.heap.size≤k):=fun k hk=>(hF5 k hk).elim (HF.out k) fun h=>Nat.le_trans HB4.out.size h
    have HBM5:=Lib.hid hbm5
    have HTW:=Lib.hid (take_one L c)
    clear C3 hbm5 hF5 hch5 HB4 HBM4 x0 x1 x2 x3 x4
    obtain ⟨te,hte⟩ : ∃ k,(takeP L [] c).2=k:=⟨_,rfl⟩
    have HTE:=Lib.hid hte
    rw [hte]
    clear hte
    by_cases h8 : te=8
    · subst h8
      have HE : Hid (bookE L c=8):=by show _=_;unfold bookE;rw [HTE.out];rfl
      have HR : Hid (bookP [] La=(8,L)):=by show _=_;rw [HP.out,HPD.out,HE.out];rfl
      clear HP HPD
      go_wp2_with fail
      go_ret2
      exact ⟨.inr ⟨by rw [HR.out];simp,by rw [HR.out];rfl⟩,HB5.out⟩
    · by_cases h0 : te=0
      · subst h0
        have ht:=HTW.out.2 HTE.out
        by_cases hm : c.rf∈refsOf L
        · have HE : Hid (bookE L c=8):=by show _=_;unfold bookE;rw [HTE.out,if_neg (by decide),if_neg (by decide),if_pos hm]
          have HR : Hid (bookP [] La=(8,L)):=by show _=_;rw [HP.out,HPD.out,HE.out];rfl
          have hfi : decide (fi ≥ 0)=true:=by rw [show decide (fi ≥ 0)=decide (0≤fi) from rfl,HFM.out,decide_eq_true hm]
          clear HP HPD ht hm
          go_wp2_with fail
          go_ret2
          exact ⟨.inr ⟨by rw [HR.out];simp,by rw [HR.out];rfl⟩,HB5.out⟩
        · have hfi : decide (fi ≥ 0)=false:=by rw [show decide (fi ≥ 0)=decide (0≤fi) from rfl,HFM.out,decide_eq_false hm]
          obtain ⟨AL5,cL5,AW5,cW5,hg5,-,-⟩:=HBM5.out.br
          have hnot:=ht.resolve_left fun h=>hm h.1
          rcases hnot.2 with h1 | h1
          · have HE : Hid (bookE L c=7):=by show _=_;unfold bookE;rw [HTE.out,if_neg (by decide),if_neg (by decide),if_neg hm,h1];simp
            have HR : Hid (bookP [] La=(7,L)):=by show _=_;rw [HP.out,HPD.out,HE.out];rfl
            rw [h1] at hg5
            have s0 : w5.cell? ⟨gs,0,none⟩=some (.slice AL5 nL cL5):=by rw [← HNL.out];exact hg5.cell 0
            have hne : i=nL:=by have:=HIL.out;have:=HNL.out;omega
            subst hne
            clear HP HPD ht hm hnot h1 hg5
            go_wp2_with fail
            go_ret2
            exact ⟨.inr ⟨by rw [HR.out];simp,by rw [HR.out];rfl⟩,HB5.out⟩
          · have HE : Hid (bookE L c=0):=by show _=_;unfold bookE;rw [HTE.out,if_neg (by decide),if_neg (by decide),if_neg hm,h1];rfl
            have HI5:=Lib.hid (book_inv HIN.out (HV.out c HCM.out) HE.out)
            have HP5 : Hid (bookP [] La=bookP (L++[c]) (La.drop (i+1))):=by show _=_;rw [HP.out,HPD.out,HE.out];rfl
            rw [h1] at HBM5 hg5
            have s0 : w5.cell? ⟨gs,0,none⟩=some (.slice AL5 (nL+1) cL5):=by
             have:=hg5.cell 0
             simp only [List.length_append,List.length_singleton,HNL.out] at this
             exact this
            have hne : i=nL:=by have:=HIL.out;have:=HNL.out;omega
            subst hne
            have HIL5 : Hid (i+1=(L++[c]).length):=by show _=_;rw [List.length_append,List.length_singleton,HNL.out]
            clear HP HPD ht hm hnot h1 hg5
            go_wp2_with fail
            go_roundw
            case rel=>exact ⟨i+1,F',L++[c],VL',VW',by go_num,by have:=HLT.out;omega,HIL5,HI5,HBM5,HF5,HP5,HB5⟩
            case measure=>have:=HLT.out;simp [intOf];omega
      · have HE : Hid (bookE L c=7):=by show _=_;unfold bookE;rw [HTE.out,if_neg h8,if_pos h0]
        have HR : Hid (bookP [] La=(7,L)):=by show _=_;rw [HP.out,HPD.out,HE.out];rfl
        have e8 : ((te : Int) == 8)=false:=by simp;omega
        have e0 : ((te : Int) == 0)=false:=by simp;omega
        have e1 : ((te : Int) != 0)=true:=by simp;omega
        clear HP HPD
        go_wp2_with fail
        go_ret2
        exact ⟨.inr ⟨by rw [HR.out];simp,by rw [HR.out];rfl⟩,HB5.out⟩
  · have hLd : Hid (bookP [] La=(0,L)):=by
     show _=_
     rw [HP.out,List.drop_eq_nil_of_le (by rw [HN.out];omega)]
     rfl
    have HBRF:=Lib.hid HBM.out.brc
    clear HP
    go_wp2_with fail
    go_ret2
    exact ⟨.inl ⟨by rw [hLd.out],gs,rfl,by rw [hLd.out];exact HBRF.out,by rw [hLd.out];exact HIN.out⟩,HW.out⟩
end Go.Proofs.YtmpkejflgpodkaaGreatDoor
namespace Go.Proofs.YtmpkejflgpodkaaGreatDoor
open Go.ChangeShapes Go.WideShapes Go.ChangeAt Go.RowKit
theorem allOps_take {L : List ChD} {k : Nat} {c : ChD} (h : L[k]?=some c) : allOps (L.take (k+1))=allOps (L.take k)++c.opsI:=by
 unfold allOps
 rw [List.take_add_one,h,Option.toList_some,List.flatMap_append]
 simp
theorem knownP_self (c : ChD) : knownP [c] [c.rf]=c.opsI:=by
 unfold knownP
 rw [List.filter_cons_of_pos (by simp)]
 simp
theorem allOps_len {L : List ChD} (h : ∀ c∈L,c.ops.length≤40) : (allOps L).length≤40*L.length:=by
 unfold allOps
 induction L with
 | nil=>simp
 | cons c L ih =>
   have ih:=ih (fun c hc=>h c (by simp [hc]))
   have hc:=h c (by simp)
   rw [List.flatMap_cons,List.length_append,List.length_cons,opsI_len];omega
theorem ChsIn.single {D : Nat→Prop} {w : World} {L : List ChD} {b o k : Nat} {c : ChD} (h : ∀ j v,(chsC L)[j]?=some v→w.cell? ⟨b,o+j,none⟩=some v) (hc : L[k]?=some c) (hb : D b) (hi : ChIn D w c) : ChsIn D w (some ⟨b,o+k*5,none⟩) [c] where
 row:=⟨rfl,fun _=>⟨⟨b,o+k*5,none⟩,rfl,hb,fun j u hu=>by
  have hj : j < 5:=by
   have:=(List.getElem?_eq_some_iff.1 hu).1
   exact this
  have h1:=chsC_at (L:=[c]) (k:=0) (c:=c) rfl j hj
  rw [Nat.zero_mul,Nat.zero_add,hu] at h1
  have h2:=h (k*5+j) u (by rw [chsC_at hc j hj];exact h1.symm)
  rw [← Nat.add_assoc] at h2
  show w.cell? (Addr.add _ _)=_
  rw [show (Addr.mk b (o+k*5) none).add j=⟨b,o+k*5+j,none⟩ from by simp [Addr.add]]
  exact h2⟩⟩
 each:=fun x hx=>by rw [List.mem_singleton.1 hx];exact hi
theorem slice_ch (b o n c k : Nat) (hk : k < n) (hc : n≤c) (w : World) :
 (Instr.slice 22 (.slice (some ⟨b,o,none⟩) n c) (some (.int .i64 k)) (some (.int .i64 ((k : Int)+1))) none).run Tryz.prog w=.ok (.slice (some ⟨b,o+k*5,none⟩) 1 (c - k)) w:=by
 have u:=Tryz.underlying22
 have h0 : (0 : Int)≤(k : Int):=by omega
 have h1 : (k : Int)≤(k : Int)+1:=by omega
 have h2 : (k : Int)+1≤(c : Int):=by omega
 have h3 : ((k : Int)+1).toNat - k=1:=by omega
 have h : ¬ c=k:=by omega
 go_simp
set_option maxHeartbeats 8000000 in
set_option maxRecDepth 20000 in
theorem sState_any (L : List ChD) (A : Option Addr) (cA : Nat) (w : World) (hL : ChsIn (fun k=>k < w.heap.size) w A L) (hok : ∀ c∈L,ChOk c) (hl : L.length≤120) (hcA : L.length≤cA) (hcm : cA≤9223372036854775807) :
 Calls Tryz.prog 7 #[.slice A L.length cA,.slice none 0 0] w fun e w'=>∃ v,e=.returned (.agg #[v])∧w'.ownsRow w.heap.size 90 15 v (allOps L).length (opsIC (allOps L))∧Below w.heap.size w w':=by
 obtain ⟨n,hn⟩ : ∃ n,L.length=n:=⟨_,rfl⟩
 have HN:=Lib.hid hn
 have HL:=Lib.hid hL
 have HOK:=Lib.hid hok
 rw [hn] at hl hcA ⊢
 clear hn hL hok
 go_enter Tryz.func7,Tryz.ntmps7
 go_upto_region 3 with fail
 have HG:=Lib.hid (Blk.new w 31 #[.slice none 0 0])
 have HW0 : Hid (Below w.heap.size w (w.alloc (.cells #[.slice none 0 0] 31))):=(Below.refl _ w).alloc (Nat.le_refl _) _
 generalize w.alloc (.cells #[.slice none 0 0] 31)=w1 at HG HW0 ⊢
 obtain ⟨g,hg⟩ : ∃ g,w.heap.size=g:=⟨_,rfl⟩
 have HGS:=Lib.hid hg
 rw [hg] at HG HW0 ⊢
 clear hg
 go_loopw [5,6] (fun s5 s6 wr=>∃ (k : Nat) (v5 : Value),v5=s5∧s6=.int .i64 k∧k≤n∧Hid (wr.ownsRow (g+1) 90 15 v5 (allOps (L.take k)).length (opsIC (allOps (L.take k))))∧Hid (Blk wr g 31 #[.slice none 0 0])∧Hid (Below g w wr)) (fun _ s6 _=>n - (intOf s6).toNat)
 case atStart=>exact ⟨0,_,rfl,rfl,by omega,by show World.ownsRow _ _ _ _ _ _ _;simpa [allOps,opsIC] using own_nil _ _ _ _,HG,HW0⟩
 case round =>
  clear HG HW0
  obtain ⟨k,v5,rfl,rfl,hk,HO,HG,HB⟩:=hrel
  by_cases hlt : k < n
  · obtain ⟨c,hc⟩ : ∃ c,L[k]?=some c:=⟨_,List.getElem?_eq_getElem (by rw [HN.out];exact hlt)⟩
    have HT:=Lib.hid (allOps_take hc)
    have HLB:=Lib.hid (HL.out.below (by rw [HGS.out];exact HB.out))
    obtain ⟨b1,o1,hA,hbl,hc1⟩:=HLB.out.row.at_ (by rw [HN.out];omega) (by omega)
    have HCM:=Lib.hid (List.mem_of_getElem? hc)
    have hcl:=HOK.out c HCM.out
    have HS1:=Lib.hid (ChsIn.single hc1 hc hbl (HLB.out.each c HCM.out))
    have hlen : (allOps (L.take k)).length≤40*k:=by
     have:=allOps_len (L:=L.take k) (fun c hc=>(HOK.out c (List.mem_of_mem_take hc)).2.2.1)
     rw [List.length_take] at this;omega
    have x0 : wr.cell? ⟨b1,o1+k*5,none⟩=some (.int .i64 c.a):=hc1 _ _ (chsC_at hc 0 (by omega))
    have x1 : wr.cell? ⟨b1,o1+k*5+1,none⟩=some (.int .i64 c.s):=hc1 _ _ (chsC_at hc 1 (by omega))
    have x2 : wr.cell? ⟨b1,o1+k*5+2,none⟩=some (.int .i64 c.st):=hc1 _ _ (chsC_at hc 2 (by omega))
    have x3 : wr.cell? ⟨b1,o1+k*5+3,none⟩=some (.slice c.DA c.deps.length c.DC):=hc1 _ _ (chsC_at hc 3 (by omega))
    have x4 : wr.cell? ⟨b1,o1+k*5+4,none⟩=some (.slice c.OA c.ops.length c.OC):=hc1 _ _ (chsC_at hc 4 (by omega))
    subst hA
    have hsl:=slice_ch b1 o1 n cA k hlt hcA
    have hwr : IntKind.i64.wrap ((k : Int)+1)=(k : Int)+1:=IntWalk.i64_in _ (by omega)
    clear hc hbl hc1
    go_upto_region 5 with fail
    have HOPS : Hid (∀ (V : World) (B : Nat),Below wr.heap.size wr V→Reads (fun k=>k < V.heap.size) V 2 (some ⟨B,0,none⟩) 1 (refC [c.rf])→Calls Tryz.prog 29 #[.slice (some ⟨b1,o1+k*5,none⟩) 1 (cA - k),.slice (some ⟨B,0,none⟩) 1 1] V fun e w'=>∃ v,e=.returned v∧w'.ownsRow V.heap.size 90 15 v c.opsI.length (opsIC c.opsI)∧Below V.heap.size V w'):=fun V B hv hr=>by
     have:=sOps_any [c] [c.rf] (some ⟨b1,o1+k*5,none⟩) (cA - k) (some ⟨B,0,none⟩) 1 V (HS1.out.below hv) hr (fun x hx=>by rw [List.mem_singleton.1 hx];exact hcl) (by simp) (by simp)
     rw [knownP_self] at this
     exact this
    refine wp_region_any (by kernel_rfl) ?_
    change wpAny _ _ _ _ _ _ _ (World.drew _)
    refine wpAny_take (i:=0) (v:=?_) rfl (by kernel_rfl) (by kernel_rfl) (by kernel_rfl) (fun _ _ _ h=>h) (Or.inl ⟨by rfl,?_⟩) ?_
    rotate_left
    · (intro w;go_simp;try with_reducible rfl)
    try simp only [Act.put,List.setIfInBounds_toArray,List.set_cons_zero,List.set_cons_succ]
    refine wpAny_take (i:=1) (v:=?_) rfl (by kernel_rfl) (by kernel_rfl) (by kernel_rfl) (fun _ _ _ h=>h) (Or.inl ⟨by rfl,?_⟩) ?_
    rotate_left
    · (intro w;go_simp;try with_reducible rfl)
    try simp only [Act.put,List.setIfInBounds_toArray,List.set_cons_zero,List.set_cons_succ]
    refine wpAny_take (i:=2) (v:=?_) rfl (by kernel_rfl) (by kernel_rfl) (by kernel_rfl) (fun _ _ _ h=>h) (Or.inl ⟨by rfl,?_⟩) ?_
    rotate_left
    · (intro w;go_simp;try with_reducible rfl)
    try simp only [Act.put,List.setIfInBounds_toArray,List.set_cons_zero,List.set_cons_succ]
    refine wpAny_take (i:=3) (v:=?_) rfl (by kernel_rfl) (by kernel_rfl) (by kernel_rfl) (fun _ _ _ h=>h) (Or.inl ⟨by rfl,?_⟩) ?_
    rotate_left
    · (intro w;go_simp;try with_reducible rfl)
    try simp only [Act.put,List.setIfInBounds_toArray,List.set_cons_zero,List.set_cons_succ]
    refine wpAny_take (i:=4) (v:=?_) rfl (by kernel_rfl) (by kernel_rfl) (by kernel_rfl) (fun _ _ _ h=>h) (Or.inl ⟨by rfl,?_⟩) ?_
    rotate_left
    · (intro w;go_simp;try with_reducible rfl)
    try simp only [Act.put,List.setIfInBounds_toArray,List.set_cons_zero,List.set_cons_succ]
    refine wpAny_take (i:=5) (v:=?_) rfl (by kernel_rfl) (by kernel_rfl) (by kernel_rfl) (fun _ _ _ h=>h) (Or.inl ⟨by rfl,?_⟩) ?_
    rotate_left
    · (intro w;go_simp;try with_reducible rfl)
    try simp only [Act.put,List.setIfInBounds_toArray,List.set_cons_zero,List.set_cons_succ]
    refine wpAny_take (i:=6) (v:=?_) rfl (by kernel_rfl) (by kernel_rfl) (by kernel_rfl) (fun _ _ _ h=>h) (Or.inl ⟨by rfl,?_⟩) ?_
    rotate_left
    · (intro w;go_simp;try with_reducible rfl)
    try simp only [Act.put,List.setIfInBounds_toArray,List.set_cons_zero,List.set_cons_succ]
    refine wpAny_take (i:=7) (v:=?_) rfl (by kernel_rfl) (by kernel_rfl) (by kernel_rfl) (fun _ _ _ h=>h) (Or.inl ⟨by rfl,?_⟩) ?_
    rotate_left
    · (intro w;go_simp;try with_reducible rfl)
    try simp only [Act.put,List.setIfInBounds_toArray,List.set_cons_zero,List.set_cons_succ]
    refine wpAny_take (i:=8) (v:=?_) rfl (by kernel_rfl) (by kernel_rfl) (by kernel_rfl) (fun _ _ _ h=>h) (Or.inl ⟨by rfl,?_⟩) ?_
    rotate_left
    · (intro w;go_simp;try with_reducible rfl)
    try simp only [Act.put,List.setIfInBounds_toArray,List.set_cons_zero,List.set_cons_succ]
    refine wpAny_ready (rs:=[9]) (by kernel_rfl) (by simp) ?_
    refine AllReady.cons rfl (fun K hK=>?_) AllReady.nil
    go_simp
    refine hK _ _ ?_
    clear hK K
    try simp only [Act.put,List.setIfInBounds_toArray,List.set_cons_zero,List.set_cons_succ]
    refine wpAny_ready (rs:=[10]) (by kernel_rfl) (by simp) ?_
    refine AllReady.cons rfl (fun K hK=>?_) AllReady.nil
    go_simp
    refine (sref_any _ _ _ _ _ _ (by rfl) (by rfl) (by rfl)).mono ?_
    rintro e w2 ⟨rfl,hb2⟩
    refine hK _ _ ?_
    clear hK K
    try simp only [Act.put,List.setIfInBounds_toArray,List.set_cons_zero,List.set_cons_succ]
    have hb2' : Below wr.heap.size wr w2:=below_step (Below.refl _ wr).drew (Nat.le_refl _) hb2
    have HB2:=Lib.hid hb2'
    clear hb2 hb2' x0 x1 x2 x3 x4
    refine wpAny_ready (rs:=[11]) (by kernel_rfl) (by simp) ?_
    refine AllReady.cons rfl (fun K hK=>?_) AllReady.nil
    go_simp
    refine hK _ _ ?_
    clear hK K
    try simp only [Act.put,List.setIfInBounds_toArray,List.set_cons_zero,List.set_cons_succ]
    have hA : Below wr.heap.size wr (w2.alloc (.cells #[.int .i64 c.a,.int .i64 c.s] 77)):=HB2.out.alloc HB2.out.size _
    have hR : Reads (fun k=>k < (w2.alloc (.cells #[.int .i64 c.a,.int .i64 c.s] 77)).heap.size) (w2.alloc (.cells #[.int .i64 c.a,.int .i64 c.s] 77)) 2 (some ⟨w2.heap.size,0,none⟩) 1 (refC [c.rf]):=(blk_reads (Blk.new w2 77 #[.int .i64 c.a,.int .i64 c.s]) (n:=2) rfl).more fun x hx=>by rw [hx,World.size_alloc];exact Nat.lt_succ_self _
    refine wpAny_ready (rs:=[12]) (by kernel_rfl) (by simp) ?_
    refine AllReady.cons rfl (fun K hK=>?_) AllReady.nil
    go_simp
    refine (HOPS.out _ _ hA hR).mono ?_
    rintro e w3 ⟨v3,rfl,ho3,hb3⟩
    refine hK _ _ ?_
    clear hK K
    try simp only [Act.put,List.setIfInBounds_toArray,List.set_cons_zero,List.set_cons_succ]
    obtain ⟨A3,c3,rfl,-,-,hr3⟩:=Reads.of_own ho3
    have hB3 : Below wr.heap.size wr w3:=below_step hA (Nat.le_refl _) hb3
    have HO3:=Lib.hid (own_below HO.out hB3)
    obtain ⟨i0,hi,hz0,hz1,hz2⟩:=info_parts infoO
    have hgl : g < wr.heap.size:=HG.out.lt
    have hg3 : g < w3.heap.size:=Nat.lt_of_lt_of_le hgl hB3.size
    have hol : c.opsI.length≤40:=by rw [opsI_len];exact hcl.2.2.1
    refine wpAny_ready (rs:=[13]) (by kernel_rfl) (by simp) ?_
    refine AllReady.cons rfl (fun K hK=>?_) AllReady.nil
    refine step_append_any _ (by rfl) (.tmp 13) (.tmp 25) 29 (by rfl) (g+1) 90 i0 _ 15 152 Tryz.underlying29 hi hz0 hz1 hz2 rfl (by omega) v5 (allOps (L.take k)).length (opsIC (allOps (L.take k))) (by rfl) HO3.out _ A3 c.opsI.length c3 (opsIC c.opsI) (by rfl) hr3 (opsIC_one _) (by simp only [maxLen];omega) (by omega) (by omega) ?_
    intro v9 w9 ho9 hg9 hat9
    refine hK _ _ ?_
    clear hK K
    try simp only [Act.put,List.setIfInBounds_toArray,List.set_cons_zero,List.set_cons_succ]
    refine wpAny_ready (rs:=[14]) (by kernel_rfl) (by simp) ?_
    refine AllReady.cons rfl (fun K hK=>?_) AllReady.nil
    go_simp
    refine hK _ _ ?_
    clear hK K
    try simp only [Act.put,List.setIfInBounds_toArray,List.set_cons_zero,List.set_cons_succ]
    refine wpAny_done (by kernel_rfl) ?_ _
    have hneg : v5.ownBlock≠some g:=fun e=>by have:=(own_lt HO3.out e).1;omega
    have HO9 : Hid (w9.ownsRow (g+1) 90 15 v9 (allOps (L.take (k+1))).length (opsIC (allOps (L.take (k+1))))):=by
     show World.ownsRow _ _ _ _ _ _ _
     rw [HT.out,List.length_append,opsIC_append]
     exact ho9
    have HB9 : Hid (Below g w w9):=(HB.out.trans (hB3.mono (Nat.le_of_lt hgl))).grown hg9 (Nat.le_of_lt hg3) (fun j hj=>Nat.le_of_succ_le (own_lt HO3.out hj).1)
    have HG9 : Hid (Blk w9 g 31 #[.slice none 0 0]):=(HG.out.keep (hB3.block _ hgl)).grown hg9 hneg
    clear hneg ho9 hg9 hat9 hb3 ho3 hr3 hB3 HO3 HO HG HB hA hR HOPS HB2 HS1 hsl hol hi hz0 hz1 hz2
    go_wp2_with fail
    go_roundw
    case rel=>exact ⟨k+1,v9,rfl,by go_num,hlt,HO9,HG9,HB9⟩
    case measure=>simp [intOf];omega
  · have HK : Hid (allOps (L.take k)=allOps L):=by show _=_;rw [List.take_of_length_le (by rw [HN.out];omega)]
    rw [HK.out] at HO
    have c0 : wr.cell? ⟨g,0,none⟩=some (.slice none 0 0):=HG.out.cell 0
    have f0:=HG.out.frozen 0
    have hgl : g < wr.heap.size:=HG.out.lt
    have hlen : (allOps L).length≤40*120:=by
     have:=allOps_len (L:=L) (fun c hc=>(HOK.out c hc).2.2.1)
     have:=HN.out
     omega
    obtain ⟨i0,hi,hz0,hz1,hz2⟩:=info_parts infoO
    go_wp2_with (at_builtin;refine wpList_append_any _ rfl (.tmp 27) (.tmp 28) _ rfl (g+1) 90 i0 _ 15 152 Tryz.underlying29 hi hz0 hz1 hz2 rfl (by omega) (v5) ((allOps L).length) (opsIC (allOps L)) rfl (HO.out) _ (none) (0) (0) ([]) rfl (Reads.none_ (D:=fun _=>False)) ((fun u hu=>by cases hu)) ?c1 ?c2 ?c3 ?_)
    case c1=>simp only [maxLen];omega
    case c2=>omega
    case c3=>omega
    intro v9 w9 ho9 hg9 hat9
    have hneg : v5.ownBlock≠some g:=fun e=>by have:=(own_lt HO.out e).1;omega
    have HG9 : Hid (Blk w9 g 31 #[.slice none 0 0]):=HG.out.grown hg9 hneg
    have HB9 : Hid (Below g w w9):=HB.out.grown hg9 (Nat.le_of_lt hgl) (fun j hj=>Nat.le_of_succ_le (own_lt HO.out hj).1)
    have HO9 : Hid (w9.ownsRow (g+1) 90 15 v9 (allOps L).length (opsIC (allOps L))):=by
     show World.ownsRow _ _ _ _ _ _ _
     simpa using ho9
    obtain ⟨A9,c9,e9,-,-,-⟩:=Reads.of_own HO9.out
    subst e9
    have c1 : w9.cell? ⟨g,0,none⟩=some (.slice none 0 0):=HG9.out.cell 0
    have f1:=HG9.out.frozen 0
    clear c0 f0 hneg ho9 hg9 hat9 HO HG HB hi hz0 hz1 hz2
    go_wp2_with fail
    refine bodyPost_ret (results_cell_row rfl _ _ g _ _ _ _ rfl (HG9.out.set_ 0 (.slice A9 (allOps L).length c9)) Tryz.underlying31 rfl (by kernel_rfl)) rfl ?_
    rw [HGS.out]
    refine ⟨_,rfl,own_base (own_keep HO9.out fun k hk=>Below.heap_setCell _ _ _ k fun e=>?_) fun k hk=>Nat.le_of_succ_le (own_lt HO9.out hk).1,HB9.out.setCell (p:=⟨g,0,none⟩) (Nat.le_refl _) _⟩
    have h1:=(own_lt HO9.out hk).1
    have h2 : k=g:=e
    omega
end Go.Proofs.YtmpkejflgpodkaaGreatDoor
namespace Go.Proofs.YtmpkejflgpodkaaGreatDoor
open Go.ChangeShapes Go.WideShapes Go.ChangeAt Go.RowKit
theorem info_Op13 : (Tryz.prog.info? 88).map (·.size)=some 13:=by kernel_rfl
theorem build_id0 (w : World) : (Instr.build 24 #[]).run Tryz.prog w=.ok (.agg #[.int .i64 0,.int .i64 0]) w:=by kernel_rfl
theorem build_state (a b c d : Option Nat) (w : World) : (Instr.build 100 #[(0,.map a),(1,.map b),(2,.map c),(3,.map d)]).run Tryz.prog w=.ok (.agg #[.map a,.map b,.map c,.map d]) w:=by kernel_rfl
theorem SMem.start {w w2 : World} (hm : MapL w2 24 w.heap.size ([]++[(refV (0,0),.int .i64 5)])) (ht : (w.alloc (.map #[] 0)).mapTurned w2 w.heap.size) :
 SMem w.heap.size ((((w2.alloc (.map #[] 0)).alloc (.map #[] 0)).alloc (.map #[] 0)).alloc (.cells #[.map (some w.heap.size),.map (some (w.heap.size+1)),.map (some (w.heap.size+1+1)),.map (some (w.heap.size+1+1+1))] 100)) (w.heap.size+1+1+1+1) w.heap.size (w.heap.size+1) (w.heap.size+1+1) (w.heap.size+1+1+1) [] [] [] ∧
  Below w.heap.size w ((((w2.alloc (.map #[] 0)).alloc (.map #[] 0)).alloc (.map #[] 0)).alloc (.cells #[.map (some w.heap.size),.map (some (w.heap.size+1)),.map (some (w.heap.size+1+1)),.map (some (w.heap.size+1+1+1))] 100)):=by
 have hs : w2.heap.size=w.heap.size+1:=by rw [turned_size ht,World.size_alloc]
 have hb0 : Below w.heap.size w (w.alloc (.map #[] 0)):=(Below.refl _ w).alloc (Nat.le_refl _) _
 have hb2 : Below w.heap.size w w2:=hb0.grown ht.grown (by simp) (fun j hj=>by cases hj;exact Nat.le_refl _)
 have m1:=MapL.made w2 126
 have m2:=MapL.made (w2.alloc (.map #[] 0)) 126
 have m3:=MapL.made ((w2.alloc (.map #[] 0)).alloc (.map #[] 0)) 24
 have b4:=Blk.new (((w2.alloc (.map #[] 0)).alloc (.map #[] 0)).alloc (.map #[] 0)) 100 #[.map (some w.heap.size),.map (some (w.heap.size+1)),.map (some (w.heap.size+1+1)),.map (some (w.heap.size+1+1+1))]
 simp only [World.size_alloc,hs] at m2 m3 b4
 rw [hs] at m1
 have k : ∀ (U : World) (o : Obj) (i : Nat),i < U.heap.size→(U.alloc o).heap[i]?=U.heap[i]?:=fun U o i hi=>Below.heap_alloc U o i hi
 have kk : ∀ i,i < w2.heap.size→((((w2.alloc (.map #[] 0)).alloc (.map #[] 0)).alloc (.map #[] 0)).alloc (.cells #[.map (some w.heap.size),.map (some (w.heap.size+1)),.map (some (w.heap.size+1+1)),.map (some (w.heap.size+1+1+1))] 100)).heap[i]?=w2.heap[i]?:=fun i hi=>by
  rw [k _ _ _ (by simp;omega),k _ _ _ (by simp;omega),k _ _ _ (by simp;omega),k _ _ _ hi]
 refine ⟨⟨b4,hm.keep (kk _ hm.lt),?_,(fun x hx=>by cases hx),rfl,?_,(fun x hx=>by cases hx),rfl,?_,fun i hi=>?_,?_⟩,?_⟩
 · exact m1.keep (by rw [k _ _ _ (by simp;omega),k _ _ _ (by simp;omega),k _ _ _ (by simp;omega)])
 · exact m2.keep (by rw [k _ _ _ (by simp;omega),k _ _ _ (by simp;omega)])
 · exact m3.keep (by rw [k _ _ _ (by simp;omega)])
 · simp [allB,rowB] at hi
   omega
 · simp [allB,rowB]
   omega
 · exact ⟨hb2.os,hb2.tape,hb2.output,by simp;omega,fun i hi=>(kk i (by omega)).trans (hb2.block i hi)⟩
theorem SMem.blk_ne {B : Nat} {w : World} {g kb vb cb lb : Nat} {K : List OpI} {V : ValsL} {C : KidsL} (h : SMem B w g kb vb cb lb K V C) {q : Nat} {t : TypeId} {cs : Array Value} (hq : Blk w q t cs) (h1 : t≠100) (h2 : t≠24) : ¬ q∈allB g kb vb cb lb V C:=by
 have hm : ∀ {k : TypeId} {l : List (Value × Value)},MapL w k q l→False:=fun hm=>MapL.no_cells hm _ _ hq
 intro hk
 rcases mem_allB.1 hk with e | e | e | e | e | ⟨x,hx,e⟩ | ⟨x,hx,e⟩
 · have h3:=h.blk
   rw [← e] at h3
   unfold Blk at h3 hq
   rw [h3] at hq
   injection hq with hq
   injection hq with _ hq
   exact h1 hq.symm
 · exact hm (e▸h.kinds)
 · exact hm (e▸h.vals)
 · exact hm (e▸h.kids)
 · exact hm (e▸h.lists)
 · exact hm (e▸h.each x hx)
 · exact own_blk_ne (h.row x hx) hq (Ne.symm h2) e
theorem SMem.below {B : Nat} {w w' : World} {g kb vb cb lb : Nat} {K : List OpI} {V : ValsL} {C : KidsL} (h : SMem B w g kb vb cb lb K V C) (hb : Below w.heap.size w w') : SMem B w' g kb vb cb lb K V C:=(h.sg.below hb).smem h.isV h.isC
theorem SMem.drew_ {B : Nat} {w : World} {g kb vb cb lb : Nat} {K : List OpI} {V : ValsL} {C : KidsL} (h : SMem B w g kb vb cb lb K V C) : SMem B w.drew g kb vb cb lb K V C:=(h.sg.drew).smem h.isV h.isC
theorem opsC_range {w : World} {D : Nat→Prop} {A : Option Addr} {n : Nat} {l : List OpD} (h : Reads D w 13 A n (opsC l)) (hn : 0 < n) : ∃ b o,A=some ⟨b,o,none⟩∧D b∧∀ (i : Nat) (x : OpD),l[i]?=some x→∀ V : World,V.heap[b]?=w.heap[b]?→V.rangeAt b (o+i*13) [.int .i64 x.k,.int .i64 x.on,.int .i64 x.oa,.string x.key,.int .i64 x.en,.int .i64 x.ea,.bool x.ins,.int .i64 x.vk,.int .i64 x.vn,.string x.vt,.int .i64 x.va,.int .i64 x.vb,.slice x.A x.l.length x.c]:=by
 obtain ⟨b,o,rfl,hb,hc⟩:=h.at_ hn (by omega)
 refine ⟨b,o,rfl,hb,fun i x hx V hv j u hj=>?_⟩
 have hj13 : j < 13:=(List.getElem?_eq_some_iff.1 hj).1
 have h1:=opsC_at hx j hj13
 have h2 : (opC x)[j]?=some u:=hj
 rw [h2] at h1
 have h3:=hc _ _ h1
 rw [← Nat.add_assoc] at h3
 exact (World.cell?_of_block hv).trans h3
set_option maxHeartbeats 16000000 in
set_option maxRecDepth 20000 in
theorem stNew_any (L : List ChD) (A : Option Addr) (cA : Nat) (w : World) (hL : ChsIn (fun k=>k < w.heap.size) w A L) (hb : Bk L) (hl : L.length≤120) :
 Calls Tryz.prog 58 #[.slice A L.length cA] w fun e w'=>∃ g kb vb cb lb V C,e=.returned (.pointer (some ⟨g,0,none⟩))∧SMem w.heap.size w' g kb vb cb lb (allOps L) V C∧Below w.heap.size w w':=by
 obtain ⟨n,hn⟩ : ∃ n,L.length=n:=⟨_,rfl⟩
 have HN:=Lib.hid hn
 have HL:=Lib.hid hL
 have HBK:=Lib.hid hb
 rw [hn] at hl ⊢
 have hst : ∃ w',(Instr.mapUpdate 95 (.map (some w.heap.size)) (refV (0,0)) (.int .i64 5)).run Tryz.prog (w.alloc (.map #[] 0))=.ok () w'∧(MapL w' 24 w.heap.size ([]++[(refV (0,0),.int .i64 5)])∧(w.alloc (.map #[] 0)).mapTurned w' w.heap.size):=by
  obtain ⟨kl,hkl⟩:=keyOf_id (r:=(0,0)) ⟨by omega,by omega⟩
  exact MapL.store (v:=.int .i64 5) (MapL.made w 24) keyed_id Tryz.underlying95 (by simp [maxLen]) hkl (fun p hp=>by cases hp)
 have hmm : ∀ (t : TypeId) (w : World),(Instr.makeMap t none).run Tryz.prog w=.ok (.map (some w.heap.size)) (w.alloc (.map #[] 0)):=fun _ _=>rfl
 have hz:=fun w=>build_id0 w
 have hbs:=fun a b c d w=>build_state a b c d w
 clear hn hL hb
 go_enter Tryz.func58,Tryz.ntmps58
 go_upto_region 3 with (refine wpL_store _ rfl (.tmp 8) (.tmp 9) (.const (.int .i64 5)) 95 (.inr rfl) w.heap.size (refV (0,0)) (.int .i64 5) rfl rfl rfl _ hst ?_;rintro w2 ⟨hm2,ht2⟩;have hs2 : w2.heap.size=w.heap.size+1:=by rw [turned_size ht2,World.size_alloc])
 obtain ⟨hS,hB⟩:=SMem.start hm2 ht2
 have HS:=Lib.hid hS
 have HB:=Lib.hid hB
 clear hm2 ht2 hs2 hmm hz hbs hst hS hB
 generalize (((w2.alloc (.map #[] 0)).alloc (.map #[] 0)).alloc (.map #[] 0)).alloc (.cells #[.map (some w.heap.size),.map (some (w.heap.size+1)),.map (some (w.heap.size+1+1)),.map (some (w.heap.size+1+1+1))] 100)=w3 at HS HB ⊢
 obtain ⟨h,hh⟩ : ∃ h,w.heap.size=h:=⟨_,rfl⟩
 have HH:=Lib.hid hh
 rw [hh] at HS HB ⊢
 clear hh
 generalize h+1+1+1+1=g at HS ⊢
 generalize h+1+1+1=lb at HS ⊢
 generalize h+1+1=cb at HS ⊢
 generalize h+1=vb at HS ⊢
 go_loopw [5,6,7,18,25] (fun _ _ _ s18 _ wr=>∃ (i : Nat) (V : ValsL) (C : KidsL),s18=.int .i64 i∧i≤n∧Hid (SMem h wr g h vb cb lb (allOps (L.take i)) V C)∧Hid (Below h w wr)) (fun _ _ _ s18 _ _=>n - (intOf s18).toNat)
 case atStart=>exact ⟨0,[],[],rfl,by omega,HS,HB⟩
 case round =>
  clear HS HB
  obtain ⟨i,V,C,rfl,hi,HS,HB⟩:=hrel
  by_cases hlt : i < n
  · obtain ⟨c,hc⟩ : ∃ c,L[i]?=some c:=⟨_,List.getElem?_eq_getElem (by rw [HN.out];exact hlt)⟩
    have HT:=Lib.hid (allOps_take hc)
    have HLB:=Lib.hid (HL.out.below (by rw [HH.out];exact HB.out))
    obtain ⟨b1,o1,hA,hbl,hc1⟩:=HLB.out.row.at_ (by rw [HN.out];omega) (by omega)
    have HCM:=Lib.hid (List.mem_of_getElem? hc)
    have hce:=(HBK.out.err c HCM.out).1
    have hok:=err_ok hce
    unfold ChOk at hok
    have HCE:=Lib.hid hce
    have HCI : Hid (ChIn (fun k=>k < h) w c):=by have:=HL.out.each c HCM.out;rw [HH.out] at this;exact this
    have x0 : wr.cell? ⟨b1,o1+i*5,none⟩=some (.int .i64 c.a):=hc1 _ _ (chsC_at hc 0 (by omega))
    have x1 : wr.cell? ⟨b1,o1+i*5+1,none⟩=some (.int .i64 c.s):=hc1 _ _ (chsC_at hc 1 (by omega))
    have x2 : wr.cell? ⟨b1,o1+i*5+2,none⟩=some (.int .i64 c.st):=hc1 _ _ (chsC_at hc 2 (by omega))
    have x3 : wr.cell? ⟨b1,o1+i*5+3,none⟩=some (.slice c.DA c.deps.length c.DC):=hc1 _ _ (chsC_at hc 3 (by omega))
    have x4 : wr.cell? ⟨b1,o1+i*5+4,none⟩=some (.slice c.OA c.ops.length c.OC):=hc1 _ _ (chsC_at hc 4 (by omega))
    obtain ⟨m,hm⟩ : ∃ m,c.ops.length=m:=⟨_,rfl⟩
    obtain ⟨OA,hOA⟩ : ∃ m,c.OA=m:=⟨_,rfl⟩
    have HM:=Lib.hid hm
    have HRO : Hid (Reads (fun k=>k < h) w 13 OA m (opsC c.ops)):=by have:=HCI.out.ho;rw [hm,hOA] at this;exact this
    have HLE : Hid ((allOps (L.take i)).length≤4800):=by
     have h1:=HBK.out.lenOps
     have h2 : (allOps (L.take i)).length≤(allOps L).length:=by
      conv=>rhs;rw [← List.take_append_drop i L]
      rw [allOps_append,List.length_append]
      omega
     have h3:=HN.out
     show _≤_
     omega
    rw [hm] at hok
    rw [hm,hOA] at x4
    obtain ⟨cst,hcst⟩ : ∃ z,c.st=z:=⟨_,rfl⟩
    obtain ⟨ca,hca⟩ : ∃ z,c.a=z:=⟨_,rfl⟩
    have HCST:=Lib.hid hcst
    have HCA:=Lib.hid hca
    rw [hcst] at x2 hok
    rw [hca] at x0
    subst hA
    clear hc hbl hc1 hce hm hOA hcst hca
    go_upto_region 5 with fail
    have HQ:=Lib.hid (Blk.new wr 82 #[.int .i64 ca,.int .i64 c.s,.int .i64 cst,.slice c.DA c.deps.length c.DC,.slice OA m c.OC])
    have hba : Below wr.heap.size wr (wr.alloc (.cells #[.int .i64 ca,.int .i64 c.s,.int .i64 cst,.slice c.DA c.deps.length c.DC,.slice OA m c.OC] 82)):=(Below.refl _ wr).alloc (Nat.le_refl _) _
    have HSa:=Lib.hid (HS.out.below hba)
    have HBa : Hid (Below h w (wr.alloc (.cells #[.int .i64 ca,.int .i64 c.s,.int .i64 cst,.slice c.DA c.deps.length c.DC,.slice OA m c.OC] 82))):=HB.out.trans (hba.mono (by have h1:=HS.out.blk.lt;have h2:=HS.out.low g (by simp [allB]);omega))
    clear x0 x1 x2 x3 x4 hba HS HB
    generalize wr.alloc (.cells #[.int .i64 ca,.int .i64 c.s,.int .i64 cst,.slice c.DA c.deps.length c.DC,.slice OA m c.OC] 82)=wa at HQ HSa HBa ⊢
    generalize wr.heap.size=qc at HQ ⊢
    have x4 : wa.cell? ⟨qc,4,none⟩=some (.slice OA m c.OC):=HQ.out.cell 4
    go_upto_region 6 with fail
    clear x4
    go_loopw [6,7,25] (fun _ _ s25 wr=>∃ (j : Nat) (V : ValsL) (C : KidsL),s25=.int .i64 j∧j≤m∧Hid (SMem h wr g h vb cb lb (allOps (L.take i)++c.opsI.take j) V C)∧Hid (Blk wr qc 82 #[.int .i64 ca,.int .i64 c.s,.int .i64 cst,.slice c.DA c.deps.length c.DC,.slice OA m c.OC])∧Hid (Below h w wr)) (fun _ _ s25 _=>m - (intOf s25).toNat)
    case atStart=>exact ⟨0,V,C,rfl,by omega,(by rw [List.take_zero,List.append_nil];exact HSa),HQ,HBa⟩
    case round =>
     clear HSa HQ HBa
     obtain ⟨j,V,C,rfl,hj,HS,HQ,HB⟩:=hrel
     by_cases hjl : j < m
     · obtain ⟨o,ho⟩ : ∃ o,c.ops[j]?=some o:=⟨_,List.getElem?_eq_getElem (by rw [HM.out];exact hjl)⟩
       obtain ⟨bo,oo,rfl,hbo,hrg⟩:=opsC_range HRO.out (by omega)
       have HRG:=Lib.hid (hrg j o ho wr (HB.out.block _ hbo))
       have HOI : Hid (c.opsI[j]?=some (o,(cst+j,ca))):=by show _=_;rw [← HCST.out,← HCA.out];exact idsFrom_at _ _ _ _ _ ho
       have HOM:=Lib.hid (List.mem_of_getElem? ho)
       have hnum:=HBK.out.num (o,(cst+j,ca)) (allOps_mem.2 ⟨c,HCM.out,List.mem_of_getElem? HOI.out⟩)
       simp only at hnum
       have HNUM:=Lib.hid hnum
       have hw1 : IntKind.i64.wrap (cst+(j : Int))=cst+j:=IntWalk.i64_in _ (by omega)
       clear ho hbo hrg
       go_upto_region 8 with (refine wpList_load_mid rfl 88 (.tmp 28) rfl bo (oo+j*13) rfl [.int .i64 o.k,.int .i64 o.on,.int .i64 o.oa,.string o.key,.int .i64 o.en,.int .i64 o.ea,.bool o.ins,.int .i64 o.vk,.int .i64 o.vn,.string o.vt,.int .i64 o.va,.int .i64 o.vb,.slice o.A o.l.length o.c] _ HRG.out Tryz.underlying88 rfl info_Op13 ?_)
       have hba : Below wr.heap.size wr (wr.alloc (.cells #[.int .i64 o.k,.int .i64 o.on,.int .i64 o.oa,.string o.key,.int .i64 o.en,.int .i64 o.ea,.bool o.ins,.int .i64 o.vk,.int .i64 o.vn,.string o.vt,.int .i64 o.va,.int .i64 o.vb,.slice o.A o.l.length o.c] 88)):=(Below.refl _ wr).alloc (Nat.le_refl _) _
       have HO : Hid (Blk (wr.alloc (.cells #[.int .i64 o.k,.int .i64 o.on,.int .i64 o.oa,.string o.key,.int .i64 o.en,.int .i64 o.ea,.bool o.ins,.int .i64 o.vk,.int .i64 o.vn,.string o.vt,.int .i64 o.va,.int .i64 o.vb,.slice o.A o.l.length o.c] 88)) wr.heap.size 88 [.int .i64 o.k,.int .i64 o.on,.int .i64 o.oa,.string o.key,.int .i64 o.en,.int .i64 o.ea,.bool o.ins,.int .i64 o.vk,.int .i64 o.vn,.string o.vt,.int .i64 o.va,.int .i64 o.vb,.slice o.A o.l.length o.c].toArray):=Blk.new wr 88 #[.int .i64 o.k,.int .i64 o.on,.int .i64 o.oa,.string o.key,.int .i64 o.en,.int .i64 o.ea,.bool o.ins,.int .i64 o.vk,.int .i64 o.vn,.string o.vt,.int .i64 o.va,.int .i64 o.vb,.slice o.A o.l.length o.c]
       have HSa:=Lib.hid (HS.out.below hba)
       have HQa:=Lib.hid (HQ.out.keep (hba.block _ HQ.out.lt))
       have HBa : Hid (Below h w (wr.alloc (.cells #[.int .i64 o.k,.int .i64 o.on,.int .i64 o.oa,.string o.key,.int .i64 o.en,.int .i64 o.ea,.bool o.ins,.int .i64 o.vk,.int .i64 o.vn,.string o.vt,.int .i64 o.va,.int .i64 o.vb,.slice o.A o.l.length o.c] 88))):=HB.out.trans (hba.mono (by have h1:=HS.out.blk.lt;have h2:=HS.out.low g (by simp [allB]);omega))
       clear hba HS HQ HB HRG
       generalize wr.alloc (.cells #[.int .i64 o.k,.int .i64 o.on,.int .i64 o.oa,.string o.key,.int .i64 o.en,.int .i64 o.ea,.bool o.ins,.int .i64 o.vk,.int .i64 o.vn,.string o.vt,.int .i64 o.va,.int .i64 o.vb,.slice o.A o.l.length o.c] 88)=wa at HO HSa HQa HBa ⊢
       generalize wr.heap.size=qo at HO ⊢
       have hoe : opE' o=0:=err_ops HCE.out o HOM.out
       have hp:=HCI.out.hp o HOM.out
       have hids:=opE_ids hoe
       have hsz:=opE_sizes hoe
       have hnd : ((allOps (L.take i)++(c.opsI++allOps (L.drop (i+1)))).map Prod.snd).Nodup:=by
        have h1:=HBK.out.ids
        have h2 : L.flatMap ChD.opsI=allOps (L.take i)++(c.opsI++allOps (L.drop (i+1))):=by
         rw [← List.append_assoc,← HT.out,← allOps_append,List.take_append_drop]
         rfl
        rw [h2] at h1
        exact h1
       have hlen : (allOps (L.take i)++c.opsI.take j).length≤100000:=by
        have h1:=HLE.out
        have h2 : (c.opsI.take j).length≤40:=by rw [List.length_take,opsI_len',HM.out];omega
        rw [List.length_append]
        omega
       have hnew : (cst+(j : Int),ca)∉(allOps (L.take i)++c.opsI.take j).map Prod.snd:=fun hm=>by
        obtain ⟨y,hy,e⟩:=List.mem_map.1 hm
        exact next_new hnd HOI.out y hy e
       have hk : DoOk h wa (allOps (L.take i)++c.opsI.take j) (o,(cst+j,ca)) :=
        ⟨hp.1.keep fun k hk=>HBa.out.block k hk,by show o.l.length≤_;omega,hnew,by intro e;have:=congrArg Prod.snd e;simp only at this;omega,⟨by show _≤cst+(j : Int)∧cst+(j : Int)≤_;omega,by show _≤ca∧ca≤_;omega⟩,hids.1,hids.2.1,hids.2.2,by show o.key.size≤_;simp only [maxLen];omega,hlen⟩
       have C1:=stDo_any (o,(cst+j,ca)) wa HSa.out hk
       unfold opV at C1
       have q0 : wa.cell? ⟨qc,0,none⟩=some (.int .i64 ca):=HQa.out.cell 0
       have q2 : wa.cell? ⟨qc,2,none⟩=some (.int .i64 cst):=HQa.out.cell 2
       clear hk hnew hlen hnd hsz hids hp hoe hnum
       go_wp2_with (refine wpList_load_mid rfl 88 (.tmp 7) rfl qo 0 rfl [.int .i64 o.k,.int .i64 o.on,.int .i64 o.oa,.string o.key,.int .i64 o.en,.int .i64 o.ea,.bool o.ins,.int .i64 o.vk,.int .i64 o.vn,.string o.vt,.int .i64 o.va,.int .i64 o.vb,.slice o.A o.l.length o.c] _ (Blk.range HO.out) Tryz.underlying88 rfl info_Op13 ?_)
       go_at_call 86
       refine C1.mono ?_
       rintro e w5 ⟨rfl,V',C',hs5,hb5,hch⟩
       have HQ5:=Lib.hid (HQa.out.keep (hch.block _ HQa.out.lt (HSa.out.blk_ne HQa.out (by decide) (by decide))))
       have HB5 : Hid (Below h w w5):=HBa.out.trans hb5
       have HS5 : Hid (SMem h w5 g h vb cb lb (allOps (L.take i)++c.opsI.take (j+1)) V' C'):=by
        show SMem _ _ _ _ _ _ _ _ _ _
        rw [List.take_add_one,HOI.out,← List.append_assoc]
        exact hs5
       clear C1 hs5 hb5 hch q0 q2 HO HSa HQa HBa
       go_wp2_with fail
       go_roundw
       case rel=>exact ⟨j+1,V',C',by go_num,hjl,HS5,HQ5,HB5⟩
       case measure=>simp [intOf];omega
     · have HS5 : Hid (SMem h wr g h vb cb lb (allOps (L.take (i+1))) V C):=by
        have h1:=HS.out
        rw [show c.opsI.take j=c.opsI from List.take_of_length_le (by rw [opsI_len',HM.out];omega),← HT.out] at h1
        exact h1
       clear HS HQ
       go_wp2_with fail
       go_roundw
       case rel=>exact ⟨i+1,V,C,by go_num,hlt,HS5,HB⟩
       case measure=>simp [intOf];omega
  · have HF : Hid (SMem h wr g h vb cb lb (allOps L) V C):=by
     have h1:=HS.out
     rw [List.take_of_length_le (by rw [HN.out];omega)] at h1
     exact h1
    clear HS
    go_wp2_with fail
    go_ret
    exact ⟨g,h,vb,cb,lb,V,C,rfl,by rw [HH.out];exact HF.out,by rw [HH.out];exact HB.out⟩
end Go.Proofs.YtmpkejflgpodkaaGreatDoor
namespace Go.Proofs.YtmpkejflgpodkaaGreatDoor
open Go.ChangeShapes Go.WideShapes Go.ChangeAt Go.RowKit
theorem bookP_inv : ∀ (La L : List ChD),Inv L []→(∀ c∈La,∀ o∈c.ops,(Lit.int .i64 o.vn).wf=true)→Inv (bookP L La).2 []
 | [],L,h,_=>h
 | c::La,L,h,hw=>by
   unfold bookP
   split
   · rename_i h0
     exact bookP_inv La _ (book_inv h (hw c (List.mem_cons_self ..)) h0) fun d hd=>hw d (List.mem_cons_of_mem _ hd)
   · exact h
theorem newDoes_book (La : List ChD) (hw : ∀ c∈La,∀ o∈c.ops,(Lit.int .i64 o.vn).wf=true) : NewDoes StM (bookP [] La).2:=fun Lr A c V hb hin=>by
 have hi:=bookP_inv La [] Inv.nil hw
 have hbk : Bk Lr:=Bk.of_base hi.bk.all hb
 have hl : Lr.length≤120:=by
  have h1:=congrArg List.length hb
  rw [List.length_map,List.length_map,all_len hi.bk] at h1
  have:=hi.most
  simp at this
  omega
 refine (stNew_any Lr A c V hin hbk hl).mono ?_
 rintro e w' ⟨g,kb,vb,cb,lb,V',C',rfl,hs,hb⟩
 exact ⟨g,rfl,⟨_,kb,vb,cb,lb,V',C',hs⟩,hb⟩
theorem kidsP_perm {K K' : List OpI} {N : Int} (hK : KTree K N) (hK' : KTree K' N) (h : (K.map bI).Perm (K'.map bI)) (obj el : Rf) : kidsP K obj el=kidsP K' obj el:=by
 obtain ⟨a1,a2,-⟩:=hK.kids (obj:=obj) el
 obtain ⟨b1,b2,-⟩:=hK'.kids (obj:=obj) el
 exact fall_eq a1 b1 fun r=>by rw [a2,b2];exact (kidIds_perm h obj el).mem_iff
theorem behE_congr {K K' : List OpI} {obj : Rf} (h : ∀ el,kidsP K obj el=kidsP K' obj el) : ∀ (n : Nat) (el : Rf),behE K obj n el=behE K' obj n el
 | 0,_=>rfl
 | n+1,el=>by
   unfold behE
   rw [h el]
   exact flatMap_congr_of fun k _=>by rw [behE_congr h n k]
theorem subE_perm {K K' : List OpI} {N : Int} (hK : KTree K N) (hK' : KTree K' N) (h : (K.map bI).Perm (K'.map bI)) (obj el : Rf) : subE K obj N el=subE K' obj N el :=
 behE_congr (kidsP_perm hK hK' h obj) _ _
theorem all_ops {L Lr : List ChD} (hb : Bk L) (h : Lr.map ChD.base=(allP L).map ChD.base) : Bk Lr∧((allOps Lr).map bI).Perm ((allOps L).map bI) :=
 ⟨Bk.of_base hb.all h,ops_perm hb h rfl⟩
def StElR (La : List ChD) (o : Rf) (B : Nat) (e : Ending) (w' : World) : Prop :=
 ((bookP [] La).1≠0∧e=.returned (.tuple #[.slice none 0 0,errN (bookP [] La).1])) ∨
 ((bookP [] La).1=0∧kindJ (allOps (bookP [] La).2) o≠6∧e=.returned (.tuple #[.slice none 0 0,errN 6])) ∨
 ((bookP [] La).1=0∧kindJ (allOps (bookP [] La).2) o=6∧∃ v,e=.returned (.tuple #[v,.nilIface]) ∧
   w'.ownsRow B 24 2 v (subE (allOps (bookP [] La).2) o 1000100 (0,0)).length (refC (subE (allOps (bookP [] La).2) o 1000100 (0,0))))
set_option maxHeartbeats 4000000 in
set_option maxRecDepth 20000 in
theorem stElements_any (La : List ChD) (o1 o2 : Int) (A : Option Addr) (cA : Nat) (w : World) (hl : La.length≤9223372036854775807) (hL : ChsIn (fun k=>k < w.heap.size) w A La) (hw : ∀ c∈La,∀ o∈c.ops,(Lit.int .i64 o.vn).wf=true) (ho : I64R (o1,o2)) :
 Calls Tryz.prog 10 #[.slice A La.length cA,.agg #[.int .i64 o1,.int .i64 o2]] w fun e w'=>StElR La (o1,o2) w.heap.size e w'∧Below w.heap.size w w':=by
 by_cases h0 : (bookP [] La).1=0
 · have hinv:=bookP_inv La [] Inv.nil hw
   have HIV:=Lib.hid hinv
   have H0:=Lib.hid h0
   have HOB:=Lib.hid ho
   have hb : Below w.heap.size w (w.alloc (.cells #[.int .i64 o1,.int .i64 o2] 24)):=(Below.refl _ w).alloc (Nat.le_refl _) _
   have C1:=stFrom_any StM La A cA _ hl (hL.below hb) hw (newDoes_book La hw)
   have HB:=Lib.hid hb
   have HO:=Lib.hid (Blk.new w 24 #[.int .i64 o1,.int .i64 o2])
   clear hb hl hL hw hinv h0 ho
   generalize La.length=n at C1 ⊢
   go_enter Tryz.func10,Tryz.ntmps10
   go_upto_region 1 with fail
   generalize w.alloc (.cells #[.int .i64 o1,.int .i64 o2] 24)=w0 at HB HO C1 ⊢
   obtain ⟨qo,hqo⟩ : ∃ q,w.heap.size=q:=⟨_,rfl⟩
   have HQO:=Lib.hid hqo
   rw [hqo] at HB HO ⊢
   clear hqo
   go_wp2_with fail
   go_at_call 33
   refine C1.mono ?_
   rintro e w1 ⟨⟨-,g,Lr,rfl,hlr,hst⟩ | ⟨h1,-⟩,hbw⟩
   · obtain ⟨hbk,hpm⟩:=all_ops HIV.out.bk hlr
     have HBK:=Lib.hid hbk
     have HPM:=Lib.hid hpm
     obtain ⟨B,kb,vb,cb,lb,V,C,hs⟩:=hst
     have HS:=Lib.hid hs
     have HW : Hid (Below qo w w1):=HB.out.trans (hbw.mono (by have:=HB.out.size;rw [HQO.out] at this;exact this))
     have HO1:=Lib.hid (HO.out.keep (hbw.block _ HO.out.lt))
     have hkd:=SMem.kind hs.drew_ hbk.ids HOB.out
     have HKJ : Hid (kindJ (allOps Lr) (o1,o2)=kindJ (allOps (bookP [] La).2) (o1,o2)):=kindJ_perm hpm hbk.ids (o1,o2)
     obtain ⟨kd,hkde⟩ : ∃ kd,kindJ (allOps Lr) (o1,o2)=kd:=⟨_,rfl⟩
     have HKD:=Lib.hid hkde
     rw [hkde] at hkd
     have g0 : w1.cell? ⟨g,0,none⟩=some (.map (some kb)):=hs.blk.cell 0
     have q0 : w1.cell? ⟨qo,0,none⟩=some (.int .i64 o1):=HO1.out.cell 0
     have q1 : w1.cell? ⟨qo,1,none⟩=some (.int .i64 o2):=HO1.out.cell 1
     unfold refV at hkd
     simp only at hkd
     clear C1 hlr hs hbw hbk hpm hkde HO HB
     go_upto_region 4 with fail
     refine wp_region_still_tail 7 (by kernel_rfl) (by kernel_rfl) ?_
     simp only [List.take_succ_cons,List.take_zero,List.drop_succ_cons,List.drop_zero]
     repeat (first | (refine wpStill_want rfl (fun K hK=>?_);go_simp;refine hK _ ?_;clear hK K) | (refine wpStill_skip rfl ?_;go_frame))
     refine wpStill_nil ?_
     change wpList _ _ _ _ _ w1.drew
     have HS2 : Hid (SMem B w1.drew g kb vb cb lb (allOps Lr) V C):=HS.out.drew_
     have HW2 : Hid (Below qo w w1.drew):=HW.out.drew
     have HO2 : Hid (Blk w1.drew qo 24 #[.int .i64 o1,.int .i64 o2]):=HO1.out
     clear g0 q0 q1 hkd HS HW HO1
     generalize w1.drew=w2 at HS2 HW2 HO2 ⊢
     by_cases h6 : kd=6
     · have h6j : kindJ (allOps Lr) (o1,o2)=6:=HKD.out.trans h6
       have C2:=stElems_any (K:=allOps Lr) 1000100 o1 o2 w2 HS2.out HBK.out.tree (fun x hx=>by
        have:=HBK.out.num x hx
        exact ⟨by omega,by omega⟩) HOB.out (by
         have h1:=HBK.out.lenOps
         have h2:=HPM.out.length_eq
         rw [List.length_map,List.length_map] at h2
         have h3:=HIV.out.bk.lenOps
         have h4:=HIV.out.most
         simp at h4
         omega) (HBK.out.nokey h6j)
       rw [subE_perm HBK.out.tree HIV.out.bk.tree HPM.out] at C2
       have H6 : Hid (kindJ (allOps (bookP [] La).2) (o1,o2)=6):=HKJ.out.symm.trans h6j
       have e1 : (kd != 6)=false:=by simp [h6]
       have q0 : w2.cell? ⟨qo,0,none⟩=some (.int .i64 o1):=HO2.out.cell 0
       have q1 : w2.cell? ⟨qo,1,none⟩=some (.int .i64 o2):=HO2.out.cell 1
       clear h6 h6j
       go_wp2_with fail
       go_at_call 34
       refine C2.mono ?_
       rintro e w3 ⟨v,rfl,ho3,hb3⟩
       have HO3:=Lib.hid (own_base ho3 (base':=qo) fun k hk=>Nat.le_trans (by have h1:=HW2.out.size;rw [HQO.out] at h1;exact h1) (own_lt ho3 hk).1)
       have HW3 : Hid (Below qo w w3):=HW2.out.trans (hb3.mono (by have h1:=HW2.out.size;rw [HQO.out] at h1;exact h1))
       obtain ⟨A3,c3,rfl,-,-,-⟩:=Reads.of_own HO3.out
       clear C2 ho3 hb3 q0 q1 e1
       go_wp2_with fail
       go_ret2
       exact ⟨.inr (.inr ⟨H0.out,H6.out,_,rfl,by rw [HQO.out];exact HO3.out⟩),by rw [HQO.out];exact HW3.out⟩
     · have H6 : Hid (kindJ (allOps (bookP [] La).2) (o1,o2)≠6):=fun h=>h6 (HKD.out.symm.trans (HKJ.out.trans h))
       have e1 : (kd != 6)=true:=by simp [h6]
       clear h6
       go_wp2_with fail
       go_ret2
       exact ⟨.inr (.inl ⟨H0.out,H6.out,rfl⟩),by rw [HQO.out];exact HW2.out⟩
   · exact (h1 H0.out).elim
 · refine (stElementsBad_any La o1 o2 A cA w hl hL hw (newDoes_book La hw) h0).mono ?_
   rintro e w' ⟨rfl,hb⟩
   exact ⟨.inl ⟨h0,rfl⟩,hb⟩
end Go.Proofs.YtmpkejflgpodkaaGreatDoor
namespace Go.Proofs.YtmpkejflgpodkaaGreatDoor
open Go.ChangeShapes Go.WideShapes Go.ChangeAt Go.RowKit
def ElWant (La : List ChD) (o : Rf) (k : Nat) (E : List Rf) : Prop :=
 ((bookP [] La).1≠0∧k=(bookP [] La).1∧E=[]) ∨
 ((bookP [] La).1=0∧kindJ (allOps (bookP [] La).2) o≠6∧k=6∧E=[]) ∨
 ((bookP [] La).1=0∧kindJ (allOps (bookP [] La).2) o=6∧k=0∧E=subE (allOps (bookP [] La).2) o 1000100 (0,0))
theorem StElR.want {La : List ChD} {o : Rf} {B : Nat} {e : Ending} {w' : World} (h : StElR La o B e w') {k : Nat} {E : List Rf} (hw : ElWant La o k E) (hB : B≤w'.heap.size) :
 ∃ A c,e=.returned (.tuple #[.slice A E.length c,errN k])∧Reads (fun k=>k < w'.heap.size) w' 2 A E.length (refC E):=by
 rcases h with ⟨h1,rfl⟩ | ⟨h1,h2,rfl⟩ | ⟨h1,h2,v,rfl,h3⟩
 · rcases hw with ⟨a,rfl,rfl⟩ | ⟨a,-⟩ | ⟨a,-⟩
   · exact ⟨none,0,rfl,Reads.none_⟩
   · exact (h1 a).elim
   · exact (h1 a).elim
 · rcases hw with ⟨a,-⟩ | ⟨a,b,rfl,rfl⟩ | ⟨a,b,-⟩
   · exact (a h1).elim
   · exact ⟨none,0,rfl,Reads.none_⟩
   · exact (h2 b).elim
 · rcases hw with ⟨a,-⟩ | ⟨a,b,-⟩ | ⟨a,b,rfl,rfl⟩
   · exact (a h1).elim
   · exact (b h2).elim
   · obtain ⟨A,c,e,-,-,hr⟩:=Reads.of_own h3
     exact ⟨A,c,by rw [e];rfl,hr.more fun k hk=>(own_lt h3 hk).2⟩
set_option maxHeartbeats 8000000 in
set_option maxRecDepth 20000 in
theorem stateElements_walk (La : List ChD) (A : Option Addr) (cA : Nat) (o1 o2 : Int) (w : World) (hl : La.length≤9223372036854775807) (hL : ChsIn (fun k=>k < w.heap.size) w A La) (hw : ∀ c∈La,∀ o∈c.ops,(Lit.int .i64 o.vn).wf=true) (ho : I64R (o1,o2)) (hE : ErrT w) :
 Calls Tryz.prog 3 #[.slice A La.length cA,.agg #[.int .i64 o1,.int .i64 o2]] w fun e w'=>e=.returned (.bool true)∧Below w.heap.size w w':=by
 have HL:=Lib.hid hL
 have HV:=Lib.hid hw
 have HLL:=Lib.hid hl
 have HOB:=Lib.hid ho
 have HET:=Lib.hid hE
 have hb : Below w.heap.size w (w.alloc (.cells #[.int .i64 o1,.int .i64 o2] 24)):=(Below.refl _ w).alloc (Nat.le_refl _) _
 have C1:=sBook_any La A cA _ hl (hL.below hb) hw
 have HB:=Lib.hid hb
 have HO:=Lib.hid (Blk.new w 24 #[.int .i64 o1,.int .i64 o2])
 obtain ⟨n,hn⟩ : ∃ n,La.length=n:=⟨_,rfl⟩
 have HN:=Lib.hid hn
 rw [hn] at C1 ⊢
 clear hb hl hL hw ho hE hn
 go_enter Tryz.func3,Tryz.ntmps3
 go_upto_region 1 with fail
 generalize w.alloc (.cells #[.int .i64 o1,.int .i64 o2] 24)=w0 at HB HO C1 ⊢
 obtain ⟨qo,hqo⟩ : ∃ q,w.heap.size=q:=⟨_,rfl⟩
 have HQO:=Lib.hid hqo
 have HQL : Hid (qo≤w0.heap.size):=by have:=HB.out.size;show _≤_;omega
 rw [hqo] at HB HO ⊢
 clear hqo
 go_wp2_with fail
 go_at_call 6
 refine C1.mono ?_
 rintro e w1 ⟨hres,hbw⟩
 have HW1 : Hid (Below qo w w1):=HB.out.trans (hbw.mono HQL.out)
 have HO1:=Lib.hid (HO.out.keep (hbw.block _ HO.out.lt))
 have HQ1 : Hid (qo≤w1.heap.size):=Nat.le_trans HQL.out hbw.size
 clear C1 hbw HB HO HQL
 obtain ⟨pv,en,rfl,hsb⟩ : ∃ (pv : Value) (en : Nat),e=.returned (.tuple #[pv,.int .i64 en])∧(en=(bookP [] La).1∧(en=0→∃ gs,pv=.pointer (some ⟨gs,0,none⟩)∧BRc w1 gs (bookP [] La).2∧Inv (bookP [] La).2 [])):=by
  rcases hres with ⟨h1,gs,rfl,h2,h3⟩ | ⟨h1,rfl⟩
  · exact ⟨_,0,rfl,h1.symm,fun _=>⟨gs,rfl,h2,h3⟩⟩
  · exact ⟨_,(bookP [] La).1,rfl,rfl,fun h=>(h1 h).elim⟩
 have HSB:=Lib.hid hsb
 clear hsb hres
 go_upto_if 20 with fail
 go_cut [6,7,8,9] (fun s6 s7 _ _ wc=>∃ (k : Nat) (A7 : Option Addr) (c7 : Nat) (E : List Rf),s6=.int .i64 k∧s7=.slice A7 E.length c7∧Hid (Reads (fun k=>k < wc.heap.size) wc 2 A7 E.length (refC E))∧Hid (E.length≤100000)∧Hid (ElWant La (o1,o2) k E)∧Hid (Below qo w wc)∧Hid (Blk wc qo 24 #[.int .i64 o1,.int .i64 o2])∧Hid (qo≤wc.heap.size))
 case first =>
  by_cases h0 : en=0
  · obtain ⟨gs,rfl,hbr,hinv⟩:=HSB.out.2 h0
    subst h0
    have HP0 : Hid ((bookP [] La).1=0):=HSB.out.1.symm
    have HIV:=Lib.hid hinv
    obtain ⟨L,hLL⟩ : ∃ L,(bookP [] La).2=L:=⟨_,rfl⟩
    have HLE:=Lib.hid hLL
    rw [hLL] at hbr HIV
    obtain ⟨AL,cL,VW,hblk,hin,hc1,hc2⟩:=hbr
    have hll : L.length≤120:=by have:=HIV.out.most;simpa using this
    have C2:=sState_any L AL cL w1 hin (fun c hc=>err_ok (HIV.out.bk.err c hc).1) hll hc1 hc2
    have g0 : w1.cell? ⟨gs,0,none⟩=some (.slice AL L.length cL):=hblk.cell 0
    clear hLL hinv hblk hin hc1 hc2 HSB
    go_wp2_with fail
    go_at_call 7
    refine C2.mono ?_
    rintro e w2 ⟨v2,rfl,ho2,hb2⟩
    have HW2 : Hid (Below qo w w2):=HW1.out.trans (hb2.mono HQ1.out)
    have HO2:=Lib.hid (HO1.out.keep (hb2.block _ HO1.out.lt))
    have HQ2 : Hid (qo≤w2.heap.size):=Nat.le_trans HQ1.out hb2.size
    obtain ⟨A2,c2,rfl,-,-,hr2⟩:=Reads.of_own ho2
    have HR2 : Hid (Reads (fun k=>k < w2.heap.size) w2 15 A2 (allOps L).length (opsIC (allOps L))):=hr2.more fun k hk=>(own_lt ho2 hk).2
    clear C2 ho2 hb2 hr2 g0 HW1 HO1 HQ1
    go_upto_region 5 with fail
    have hba : Below w2.heap.size w2 (w2.alloc (.cells #[.slice A2 (allOps L).length c2] 31)):=(Below.refl _ w2).alloc (Nat.le_refl _) _
    have HJ:=Lib.hid (Blk.new w2 31 #[.slice A2 (allOps L).length c2])
    have HW3 : Hid (Below qo w (w2.alloc (.cells #[.slice A2 (allOps L).length c2] 31))):=HW2.out.trans (hba.mono HQ2.out)
    have HO3:=Lib.hid (HO2.out.keep (hba.block _ HO2.out.lt))
    have HR3:=Lib.hid (reads_below HR2.out hba)
    have HQ3 : Hid (qo≤(w2.alloc (.cells #[.slice A2 (allOps L).length c2] 31)).heap.size):=Nat.le_trans HQ2.out hba.size
    clear hba HW2 HO2 HQ2 HR2
    generalize w2.alloc (.cells #[.slice A2 (allOps L).length c2] 31)=w3 at HJ HW3 HO3 HR3 HQ3 ⊢
    generalize w2.heap.size=qj at HJ ⊢
    have hKl : (allOps L).length≤100000:=by have:=HIV.out.bk.lenOps;omega
    have C3:=sKind_any (allOps L) o1 o2 A2 c2 w3 HR3.out hKl
    obtain ⟨kd,hkd⟩ : ∃ kd,kindJ (allOps L) (o1,o2)=kd:=⟨_,rfl⟩
    have HKD:=Lib.hid hkd
    rw [hkd] at C3
    have j0 : w3.cell? ⟨qj,0,none⟩=some (.slice A2 (allOps L).length c2):=HJ.out.cell 0
    have q0 : w3.cell? ⟨qo,0,none⟩=some (.int .i64 o1):=HO3.out.cell 0
    have q1 : w3.cell? ⟨qo,1,none⟩=some (.int .i64 o2):=HO3.out.cell 1
    clear hkd
    go_wp2_with fail
    go_at_call 8
    refine C3.mono ?_
    rintro e w4 ⟨rfl,hb4⟩
    have HJ4:=Lib.hid (HJ.out.keep (hb4.block _ HJ.out.lt))
    have HW4 : Hid (Below qo w w4):=HW3.out.trans (hb4.mono HQ3.out)
    have HO4:=Lib.hid (HO3.out.keep (hb4.block _ HO3.out.lt))
    have HR4:=Lib.hid (reads_below HR3.out hb4)
    have HQ4 : Hid (qo≤w4.heap.size):=Nat.le_trans HQ3.out hb4.size
    clear C3 hb4 j0 q0 q1 HJ HW3 HO3 HR3 HQ3
    by_cases h6 : kd=6
    · have HWT : Hid (ElWant La (o1,o2) 0 (subE (allOps L) (o1,o2) 1000100 (0,0))):=.inr (.inr ⟨HP0.out,by rw [HLE.out,HKD.out,h6],rfl,by rw [HLE.out]⟩)
      have hT:=HIV.out.bk.tree
      have hsub:=hT.sub_eq (obj:=(o1,o2)) (n:=1000101) (el:=(0,0)) (by omega)
      have hall:=(hT.all (obj:=(o1,o2))).2.1
      have C4:=sElems_any hT o1 o2 A2 c2 1000101 w4 HR4.out hKl (by omega) (by rw [hsub];omega)
      rw [hsub] at C4
      have e1 : (kd != 6)=false:=by simp [h6]
      have HLS : Hid ((subE (allOps L) (o1,o2) 1000100 (0,0)).length≤100000):=by
       have h1:=HIV.out.bk.lenOps
       show _≤_
       omega
      have j0 : w4.cell? ⟨qj,0,none⟩=some (.slice A2 (allOps L).length c2):=HJ4.out.cell 0
      have q0 : w4.cell? ⟨qo,0,none⟩=some (.int .i64 o1):=HO4.out.cell 0
      have q1 : w4.cell? ⟨qo,1,none⟩=some (.int .i64 o2):=HO4.out.cell 1
      clear hT hsub hall h6
      go_wp2_with fail
      go_at_call 9
      refine C4.mono ?_
      rintro e w5 ⟨v5,rfl,ho5,hb5⟩
      have HW5 : Hid (Below qo w w5):=HW4.out.trans (hb5.mono HQ4.out)
      have HO5:=Lib.hid (HO4.out.keep (hb5.block _ HO4.out.lt))
      have HQ5 : Hid (qo≤w5.heap.size):=Nat.le_trans HQ4.out hb5.size
      obtain ⟨A5,c5,rfl,-,-,hr5⟩:=Reads.of_own ho5
      have HR5 : Hid (Reads (fun k=>k < w5.heap.size) w5 2 A5 (subE (allOps L) (o1,o2) 1000100 (0,0)).length (refC (subE (allOps L) (o1,o2) 1000100 (0,0)))):=hr5.more fun k hk=>(own_lt ho5 hk).2
      clear C4 ho5 hb5 hr5 j0 q0 q1 e1 HJ4 HW4 HO4 HR4 HQ4
      go_wp2_with fail
      go_meet
      case rel=>exact ⟨0,A5,c5,_,rfl,rfl,HR5,HLS,HWT,HW5,HO5,HQ5⟩
    · have HWT : Hid (ElWant La (o1,o2) 6 []):=.inr (.inl ⟨HP0.out,by rw [HLE.out,HKD.out];exact h6,rfl,rfl⟩)
      have e1 : (kd != 6)=true:=by simp [h6]
      clear h6
      go_wp2_with fail
      go_meet
      case rel=>exact ⟨6,none,0,[],rfl,rfl,Reads.none_,Nat.zero_le _,HWT,HW4,HO4,HQ4⟩
  · have HWT : Hid (ElWant La (o1,o2) en []):=.inl ⟨by rw [← HSB.out.1];exact h0,HSB.out.1,rfl⟩
    have e0 : ((en : Int) == 0)=false:=by simp [h0]
    clear h0 HSB
    go_wp2_with fail
    go_meet
    case rel=>exact ⟨en,none,0,[],rfl,rfl,Reads.none_,Nat.zero_le _,HWT,HW1,HO1,HQ1⟩
 case rest =>
  obtain ⟨k,A7,c7,E,rfl,rfl,HR,HLE,HWT,HW,HO,HQ⟩:=hcut
  clear HW1 HO1 HQ1 HSB
  have C5:=stElements_any La o1 o2 A cA wc HLL.out (by
   have h:=HW.out
   rw [← HQO.out] at h
   exact HL.out.below h) HV.out HOB.out
  rw [HN.out] at C5
  have q0 : wc.cell? ⟨qo,0,none⟩=some (.int .i64 o1):=HO.out.cell 0
  have q1 : wc.cell? ⟨qo,1,none⟩=some (.int .i64 o2):=HO.out.cell 1
  go_wp2_with fail
  go_at_call 10
  refine C5.mono ?_
  rintro e w6 ⟨hr6,hb6⟩
  obtain ⟨A6,c6,rfl,hrd⟩:=hr6.want HWT.out hb6.size
  have HW6 : Hid (Below qo w w6):=HW.out.trans (hb6.mono HQ.out)
  have HQ6 : Hid (qo≤w6.heap.size):=Nat.le_trans HQ.out hb6.size
  have HR6:=Lib.hid (reads_below HR.out hb6)
  have HRD:=Lib.hid hrd
  have C6:=told_same k w6 (HET.out.keep (by have h:=HW6.out;rw [← HQO.out] at h;exact h))
  clear C5 hr6 hb6 hrd q0 q1 HR HW HQ HO
  obtain ⟨ne,hne⟩ : ∃ n,E.length=n:=⟨_,rfl⟩
  have HNE:=Lib.hid hne
  rw [hne] at HR6 HRD ⊢
  clear hne
  go_wp2_with fail
  go_at_call 11
  refine C6.mono ?_
  rintro e w7 ⟨rfl,hb7⟩
  have C7:=sameIds_any E E _ _ A6 A7 c6 c7 w7 (reads_below (by rw [HNE.out];exact HRD.out) hb7) (reads_below (by rw [HNE.out];exact HR6.out) hb7) (by have:=HLE.out;omega)
  rw [HNE.out,show decide (E=E)=true from by simp] at C7
  have HW7 : Hid (Below qo w w7):=HW6.out.trans (hb7.mono HQ6.out)
  clear C6 hb7 HR6 HRD HW6
  go_wp2_with fail
  go_at_call 12
  refine C7.mono ?_
  rintro e w8 ⟨rfl,m8,rfl⟩
  clear C7
  go_wp2_with fail
  go_ret
  exact ⟨rfl,by rw [HQO.out];exact below_drewN HW7.out m8⟩
end Go.Proofs.YtmpkejflgpodkaaGreatDoor
