/- Contracts: the document's own Less and Compare (package bookref1). -/
import Derived.Test.YtmpkejflgpodkaaGreatDoorP5
import Derived.Test.YtmpkejflgpodkaaGreatDoorP0
import Derived.Laws.StructEq
set_option linter.unusedVariables false
set_option linter.unusedSimpArgs false
namespace Go.Proofs.YtmpkejflgpodkaaGreatDoor
open Go.ChangeShapes Go.WideShapes Go.ChangeAt Go.RowKit
def lessB (a b c d : Int) : Bool:=decide (a < c∨a=c∧b < d)
theorem refLess_any (a b c d : Int) (w : World) : Calls Tryz.prog 38 #[.agg #[.int .i64 a,.int .i64 b],.agg #[.int .i64 c,.int .i64 d]] w fun e w'=>e=.returned (.bool (lessB a b c d))∧Below w.heap.size w w':=by
 have hB : Below w.heap.size w ((w.alloc (.cells #[.int .i64 a,.int .i64 b] 24)).alloc (.cells #[.int .i64 c,.int .i64 d] 24)):=((Below.refl _ w).alloc (Nat.le_refl _) _).alloc (by simp) _
 by_cases h : a=c
 · subst h
   have HV : Hid (lessB a b a d=decide (b < d)):=by show lessB a b a d=_;simp [lessB]
   go_enter Tryz.func38,Tryz.ntmps38
   go_wp2_with fail
   go_ret
   exact ⟨ret_bool HV.out.symm,hB⟩
 · have hd : (a == c)=false:=by simpa using h
   have HV : Hid (lessB a b c d=decide (a < c)):=by show lessB a b c d=_;simp [lessB,h]
   go_enter Tryz.func38,Tryz.ntmps38
   go_wp2_with fail
   go_ret
   exact ⟨ret_bool HV.out.symm,hB⟩
theorem cmp2_less (a b c d : Int) : cmp2 a b c d=if lessB a b c d then -1 else if lessB c d a b then 1 else 0:=by
 simp only [cmp2,firstNZ_cons,firstNZ,cmpI,lessB,decide_eq_true_eq]
 split <;> split <;> (try split) <;> (try split) <;> (try split) <;> (try split) <;> omega
end Go.Proofs.YtmpkejflgpodkaaGreatDoor
namespace Go.Proofs.YtmpkejflgpodkaaGreatDoor
open Go.ChangeShapes Go.WideShapes Go.ChangeAt Go.RowKit
theorem less_dec (a b c d : Int) : decide (cmp2 a b c d < 0)=lessB a b c d:=by
 rw [cmp2_less]
 cases lessB a b c d
 · cases lessB c d a b <;> rfl
 · rfl
theorem less_any (a b c d : Int) (w : World) : Calls Tryz.prog 201 #[.agg #[.int .i64 a,.int .i64 b],.agg #[.int .i64 c,.int .i64 d]] w fun e w'=>e=.returned (.bool (lessB a b c d))∧Below w.heap.size w w':=by
 have HV : Hid (decide (cmp2 a b c d < 0)=lessB a b c d):=less_dec a b c d
 have IC:=idCompare_any a b c d
 generalize cmp2 a b c d=x at *
 go_enter Tryz.func201,Tryz.ntmps201
 go_wp2_with fail
 go_at_call 44
 refine (IC _).mono ?_
 rintro e w1 ⟨rfl,hb⟩
 go_wp2_with fail
 go_ret
 exact ⟨ret_bool HV.out,(((Below.refl _ w).alloc (Nat.le_refl _) _).alloc (by simp) _).trans (hb.mono (by simp;omega))⟩
def ordFrom : Rf→List Rf→Bool
 | _,[]=>true
 | p,r::l=>if lessB p.1 p.2 r.1 r.2 then ordFrom r l else false
def ordB : List Rf→Bool
 | []=>true
 | r::l=>ordFrom r l
def idsE (l : List Rf) : Nat:=if 12 < l.length then 4 else if ordB l then 0 else 5
def OrdAt (l : List Rf) (k : Nat) : Prop:=(k=0→True)∧∀ j r,k=j+1→l[j]?=some r→ordB l=ordFrom r (l.drop k)
theorem OrdAt.start (l : List Rf) : OrdAt l 0:=⟨fun _=>trivial,fun j r h=>by omega⟩
theorem drop_at {l : List Rf} {k : Nat} {r : Rf} (h : l[k]?=some r) : l.drop k=r::l.drop (k+1):=by
 obtain ⟨hl,e⟩:=List.getElem?_eq_some_iff.1 h
 rw [List.drop_eq_getElem_cons hl,e]
theorem OrdAt.first {l : List Rf} {r : Rf} (h : l[0]?=some r) : OrdAt l 1:=by
 refine ⟨fun e=>by omega,fun j r' e h'=>?_⟩
 obtain rfl : j=0:=by omega
 rw [h] at h'
 cases h'
 cases l with
 | nil=>simp at h
 | cons x t=>simp at h;subst h;rfl
theorem OrdAt.next {l : List Rf} {j : Nat} {p r : Rf} (h : OrdAt l (j+1)) (hp : l[j]?=some p) (hr : l[j+1]?=some r) (hl : lessB p.1 p.2 r.1 r.2=true) : OrdAt l (j+1+1):=by
 refine ⟨fun e=>by omega,fun i r' e h'=>?_⟩
 obtain rfl : i=j+1:=by omega
 rw [hr] at h'
 cases h'
 rw [h.2 j p rfl hp,drop_at hr,ordFrom,if_pos hl]
theorem OrdAt.bad {l : List Rf} {j : Nat} {p r : Rf} (h : OrdAt l (j+1)) (hp : l[j]?=some p) (hr : l[j+1]?=some r) (hl : lessB p.1 p.2 r.1 r.2=false) : ordB l=false:=by
 rw [h.2 j p rfl hp,drop_at hr,ordFrom,if_neg (by rw [hl];simp)]
theorem OrdAt.fin {l : List Rf} {k : Nat} (h : OrdAt l k) (hk : k=l.length) : ordB l=true:=by
 subst hk
 cases hl : l with
 | nil=>rfl
 | cons x t =>
   have hlen : l.length=t.length+1:=by rw [hl];rfl
   obtain ⟨r,hr⟩ : ∃ r,l[t.length]?=some r:=get_lt (by omega)
   rw [← hl,h.2 t.length r hlen hr,List.drop_length]
   rfl
set_option maxHeartbeats 2000000 in
set_option maxRecDepth 20000 in
theorem ids_any (l : List Rf) (D : Nat→Prop) (A : Option Addr) (c : Nat) (w : World) (hr : Reads D w 2 A l.length (refC l)) (hD : ∀ k,D k→k < w.heap.size) :
 Calls Tryz.prog 186 #[.slice A l.length c] w fun e w'=>e=.returned (errN (idsE l))∧Below w.heap.size w w':=by
 have HR:=Lib.hid hr
 have HD:=Lib.hid hD
 clear hr hD
 obtain ⟨n,hn⟩ : ∃ n,l.length=n:=⟨_,rfl⟩
 have HN:=Lib.hid hn
 rw [hn]
 by_cases h12 : 12 < n
 · have HV : Hid (idsE l=4):=by show _=_;rw [idsE,hn,if_pos h12]
   have d1 : decide (12 < (n : Int))=true:=decide_eq_true (by omega)
   clear hn h12
   go_enter Tryz.func186,Tryz.ntmps186
   go_wp2_with fail
   go_ret
   exact ⟨by rw [HV.out];rfl,Below.refl _ _⟩
 have HV : Hid (idsE l=if ordB l then 0 else 5):=by show _=_;rw [idsE,hn,if_neg h12]
 have d1 : decide (12 < (n : Int))=false:=decide_eq_false (by omega)
 clear hn
 go_enter Tryz.func186,Tryz.ntmps186
 go_wp2_with fail
 clear d1
 go_loopw [11] (fun s wr=>∃ k : Nat,k≤n∧s=.int .i64 k∧Hid (Below w.heap.size w wr)∧Hid (OrdAt l k)) (fun s _=>n - (intOf s).toNat)
 case atStart=>exact ⟨0,by omega,rfl,Below.refl _ _,OrdAt.start l⟩
 case round =>
  obtain ⟨k,hk,rfl,HB,HO⟩:=hrel
  by_cases hlt : k < n
  · obtain ⟨b,off,rfl,hb,hcell⟩:=HR.out.at_ (by rw [HN.out];omega) (by omega)
    obtain ⟨r,hr⟩ : ∃ r,l[k]?=some r:=⟨_,List.getElem?_eq_getElem (by rw [HN.out];exact hlt)⟩
    have hbl:=HD.out b hb
    have hblk : ∀ o,wr.cell? ⟨b,o,none⟩=w.cell? ⟨b,o,none⟩:=fun o=>World.cell?_of_block (w:=w) (HB.out.block b hbl)
    obtain ⟨h1,h2⟩:=refC_at hr
    have x1 : wr.cell? ⟨b,off+k*2,none⟩=some (.int .i64 r.1):=by rw [hblk];exact hcell _ _ h1
    have x2 : wr.cell? ⟨b,off+k*2+1,none⟩=some (.int .i64 r.2):=by rw [hblk];exact hcell _ _ h2
    have HX:=Lib.hid hr
    obtain ⟨r1,r2⟩:=r
    have HB2 : Hid (Below w.heap.size w (wr.alloc (.cells #[.int .i64 r1,.int .i64 r2] 24))):=HB.out.alloc HB.out.size _
    rcases Nat.eq_zero_or_pos k with hk0 | hk0
    · subst hk0
      have HO1:=Lib.hid (OrdAt.first hr)
      have x1' : wr.cell? ⟨b,off,none⟩=some (.int .i64 r1):=by simpa using x1
      have x2' : wr.cell? ⟨b,off+1,none⟩=some (.int .i64 r2):=by simpa using x2
      clear hblk hcell h1 h2 hr
      go_wp2_with fail
      go_quiet (fail)
      change Exit.then _ _ _ _ ((wr.alloc (.cells #[.int .i64 r1,.int .i64 r2] 24)).drewN nq)
      have HB3 : Hid (Below w.heap.size w ((wr.alloc (.cells #[.int .i64 r1,.int .i64 r2] 24)).drewN nq)):=below_drewN HB2.out nq
      generalize (wr.alloc (.cells #[.int .i64 r1,.int .i64 r2] 24)).drewN nq=w3 at HB3 ⊢
      clear x1 x2 x1' x2' HB2
      go_wp2_with fail
      go_roundw
      case rel=>exact ⟨1,by omega,by go_num,HB3,HO1⟩
      case measure=>simp [intOf];omega
    · obtain ⟨j,rfl⟩ : ∃ j,k=j+1:=⟨k - 1,by omega⟩
      obtain ⟨p,hp⟩ : ∃ p,l[j]?=some p:=⟨_,List.getElem?_eq_getElem (by rw [HN.out];omega)⟩
      obtain ⟨g1,g2⟩:=refC_at hp
      have x3 : wr.cell? ⟨b,off+j*2,none⟩=some (.int .i64 p.1):=by rw [hblk];exact hcell _ _ g1
      have x4 : wr.cell? ⟨b,off+j*2+1,none⟩=some (.int .i64 p.2):=by rw [hblk];exact hcell _ _ g2
      obtain ⟨p1,p2⟩:=p
      have LS:=less_any p1 p2 r1 r2
      have hw : IntKind.i64.wrap ((j : Int)+1 - 1)=(j : Int):=by
       have:=IntWalk.i64_in (j : Int) (by omega)
       rw [show (j : Int)+1 - 1=(j : Int) from by omega];exact this
      have hbw : b < wr.heap.size:=Nat.lt_of_lt_of_le hbl HB.out.size
      have hi0 : (0 : Int)≤(j : Int):=by omega
      have hw2 : IntKind.i64.wrap (j : Int)=(j : Int):=IntWalk.i64_in _ (by omega)
      have hi1 : (j : Int) < (n : Int):=by omega
      have y1 : (wr.alloc (.cells #[.int .i64 r1,.int .i64 r2] 24)).cell? ⟨wr.heap.size,0,none⟩=some (.int .i64 r1):=(Blk.new wr _ _).cell 0
      have y2 : (wr.alloc (.cells #[.int .i64 r1,.int .i64 r2] 24)).cell? ⟨wr.heap.size,1,none⟩=some (.int .i64 r2):=(Blk.new wr _ _).cell 1
      have z3 : (wr.alloc (.cells #[.int .i64 r1,.int .i64 r2] 24)).cell? ⟨b,off+j*2,none⟩=some (.int .i64 p1):=by
       rw [World.cell?_alloc_lt _ _ ⟨b,off+j*2,none⟩ hbw];exact x3
      have z4 : (wr.alloc (.cells #[.int .i64 r1,.int .i64 r2] 24)).cell? ⟨b,off+j*2+1,none⟩=some (.int .i64 p2):=by
       rw [World.cell?_alloc_lt _ _ ⟨b,off+j*2+1,none⟩ hbw];exact x4
      cases hls : lessB p1 p2 r1 r2
      case' true=>have HQ:=Lib.hid (HO.out.next hp hr hls)
      case' false=>have HQ : Hid (idsE l=5):=by show _=_;rw [HV.out,HO.out.bad hp hr hls];rfl
      all_goals
       rw [hls] at LS
       have d1 : decide ((0 : Int) < (j : Int)+1)=true:=decide_eq_true (by omega)
       have d1' : decide (0 < j+1)=true:=decide_eq_true (by omega)
       clear hblk hcell h1 h2 hr hp g1 g2 hls HO x3 x4
       go_wp2_with fail
       go_region_held3 (fun w'=>w'.cell? ⟨b,off+j*2,none⟩=some (.int .i64 p1)∧w'.cell? ⟨b,off+j*2+1,none⟩=some (.int .i64 p2)∧w'.cell? ⟨wr.heap.size,0,none⟩=some (.int .i64 r1)∧w'.cell? ⟨wr.heap.size,1,none⟩=some (.int .i64 r2))
        (first | exact ⟨z3,z4,y1,y2⟩ | exact ⟨v1,v2,v3,v4⟩ | go_keep)
        ((go_at_call 201;refine (LS _).mono ?_;rintro e w3 ⟨rfl,hb3⟩;have HB3 : Hid (Below w.heap.size w w3):=Lib.hid (HB2.out.drew.trans (Below.mono hb3 HB2.out.size));have v1 : w3.cell? ⟨b,off+j*2,none⟩=some (.int .i64 p1):=(hb3.cell (by simp;omega)).trans z3;have v2 : w3.cell? ⟨b,off+j*2+1,none⟩=some (.int .i64 p2):=(hb3.cell (by simp;omega)).trans z4;have v3 : w3.cell? ⟨wr.heap.size,0,none⟩=some (.int .i64 r1):=(hb3.cell (by simp)).trans y1;have v4 : w3.cell? ⟨wr.heap.size,1,none⟩=some (.int .i64 r2):=(hb3.cell (by simp)).trans y2))
       clear z3 z4 y1 y2 x1 x2 hb3 HB2 LS hw hw2 v1 v2 v3 v4
       go_wp2_with fail
       first
        | (go_ret
           exact ⟨by rw [HQ.out];rfl,HB3.out⟩)
        | (go_roundw
           case rel=>exact ⟨j+1+1,by omega,by go_num,HB3,HQ⟩
           case measure=>simp [intOf];omega)
  · have HF : Hid (idsE l=0):=by
     show _=_
     rw [HV.out,HO.out.fin (by rw [HN.out];omega)];rfl
    go_wp2_with fail
    go_ret
    exact ⟨by rw [HF.out];rfl,HB.out⟩
end Go.Proofs.YtmpkejflgpodkaaGreatDoor
namespace Go.Proofs.YtmpkejflgpodkaaGreatDoor
open Go.ChangeShapes Go.WideShapes Go.ChangeAt Go.RowKit
set_option maxRecDepth 100000 in
theorem eq_id (a b c d : Int) (w : World) : (Op.equalIn 10000 24 (.agg #[.int .i64 a,.int .i64 b]) (.agg #[.int .i64 c,.int .i64 d])).run Tryz.prog w=.ok (a == c && b == d) w:=by
 have hS : Tryz.prog.underlying 24=some (.struct (Tryz.prog.fieldsOf 24)):=by kernel_rfl
 have hp : Tryz.prog.stoodInHeld 24=false:=by kernel_rfl
 rw [show (10000 : Nat)=9999+1 from rfl,run_equalIn_agg w 9999 24 _ _ hS hp]
 simp only [Program.fieldsOf,Tryz.underlying24]
 go_simp
 by_cases h1 : a=c <;> by_cases h2 : b=d <;> simp [h1,h2]
theorem eq_root (a b : Int) (rt : Bool) (h : rootB a b=rt) (w : World) : (Op.equalIn 10000 24 (.agg #[.int .i64 a,.int .i64 b]) (.agg #[.int .i64 0,.int .i64 0])).run Tryz.prog w=.ok rt w:=by
 rw [eq_id,← h]
 by_cases h1 : a=0 <;> by_cases h2 : b=0 <;> simp [rootB,h1,h2]
end Go.Proofs.YtmpkejflgpodkaaGreatDoor
