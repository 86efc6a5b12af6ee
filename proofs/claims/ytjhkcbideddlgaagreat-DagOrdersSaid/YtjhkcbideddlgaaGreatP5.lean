/- Contracts: the document's own Less and Compare (package bookref1). -/
import Derived.Test.YtjhkcbideddlgaaGreatP4
import Derived.Test.YtjhkcbideddlgaaGreatP0
import Derived.Laws.StructEq
set_option maxHeartbeats 2000000
set_option maxRecDepth 20000
set_option linter.unusedVariables false
set_option linter.unusedSimpArgs false
namespace Go.Proofs.YtjhkcbideddlgaaGreat
open Go.ChangeShapes Go.WideShapes Go.ChangeAt Go.RowKit
section
def fC(a b c d:Int):Bool:=decide (a<c∨a=c∧b<d)
theorem kK(a b c d:Int)(w:World):Calls Tryz.prog 61 #[.agg #[.int .i64 a,.int .i64 b],.agg #[.int .i64 c,.int .i64 d]] w fun e w'=>e=.returned (.bool (fC a b c d))∧Below w.heap.size w w':=by
 have hB:Below w.heap.size w ((w.alloc (.cells #[.int .i64 a,.int .i64 b] 48)).alloc (.cells #[.int .i64 c,.int .i64 d] 48)):=((sA _ w).alloc (sB _) _).alloc (by simp) _;by_cases h:a=c
 ·subst h;have HV:Hid (fC a b a d=decide (b<d)):=by show fC a b a d=_;simp[fC]
  go_enter Tryz.func61,Tryz.ntmps61;go_wp2_with fail
  go_ret;exact⟨aL HV.o.symm,hB⟩
 ·have hd:(a == c)=false:=by simpa using h
  have HV:Hid (fC a b c d=decide (a<c)):=by show fC a b c d=_;simp[fC,h]
  go_enter Tryz.func61,Tryz.ntmps61;go_wp2_with fail
  go_ret;exact⟨aL HV.o.symm,hB⟩
theorem cmp2_less(a b c d:Int):cmp2 a b c d=if fC a b c d then -1 else if fC c d a b then 1 else 0:=by
 simp only[cmp2,firstNZ_cons,fM,qE,fC,tL];split<;>split<;>(try split)<;>(try split)<;>(try split)<;>(try split)<;>omega
end
section
theorem less_dec(a b c d:Int):decide (cmp2 a b c d<0)=fC a b c d:=by
 rw[cmp2_less];cases fC a b c d
 ·cases fC c d a b<;>rfl
 ·rfl
theorem less_any(a b c d:Int)(w:World):Calls Tryz.prog 132 #[.agg #[.int .i64 a,.int .i64 b],.agg #[.int .i64 c,.int .i64 d]] w fun e w'=>e=.returned (.bool (fC a b c d))∧Below w.heap.size w w':=by
 have HV:Hid (decide (cmp2 a b c d<0)=fC a b c d):=less_dec a b c d;have IC:=idCompare_any a b c d;generalize cmp2 a b c d=x at *;go_enter Tryz.func132,Tryz.ntmps132;go_wp2_with fail
 go_at_call 128;refine(IC _).mono ?_
 rintro e w1 ⟨rfl,hb⟩;go_wp2_with fail
 go_ret;exact⟨aL HV.o,(((sA _ w).alloc (sB _) _).alloc (by simp) _).trans (hb.mono (by simp;omega))⟩
def nC:Rf→List Rf→Bool
 |_,[]=>true
 |p,r::l=>if fC p.1 p.2 r.1 r.2 then nC r l else false
def ordB:List Rf→Bool
 | []=>true
 |r::l=>nC r l
def eQ(l:List Rf):Nat:=if 12<l.length then 4 else if ordB l then 0 else 5
def gV(l:List Rf)(k:Nat):Prop:=(k=0→True)∧∀j r,k=j+1→l[j]?=some r→ordB l=nC r (l.drop k)
theorem gV.start(l:List Rf):gV l 0:=⟨fun _=>trivial,fun j r h=>by omega⟩
theorem drop_at{l:List Rf}{k:Nat}{r:Rf}(h:l[k]?=some r):l.drop k=r::l.drop (k+1):=by
 obtain⟨hl,e⟩:=sE.1 h
 rw[uE hl,e]
theorem gV.first{l:List Rf}{r:Rf}(h:l[0]?=some r):gV l 1:=by
 refine⟨fun e=>by omega,fun j r' e h'=>?_⟩
 obtain rfl:j=0:=by omega
 rw[h]at h';cases h';cases l with
 |nil=>simp at h
 |cons x t=>simp at h;subst h;rfl
theorem gV.next{l:List Rf}{j:Nat}{p r:Rf}(h:gV l (j+1))(hp:l[j]?=some p)(hr:l[j+1]?=some r)(hl:fC p.1 p.2 r.1 r.2=true):gV l (j+1+1):=by
 refine⟨fun e=>by omega,fun i r' e h'=>?_⟩
 obtain rfl:i=j+1:=by omega
 rw[hr]at h';cases h';rw[h.2 j p rfl hp,drop_at hr,nC,tA hl]
theorem gV.bad{l:List Rf}{j:Nat}{p r:Rf}(h:gV l (j+1))(hp:l[j]?=some p)(hr:l[j+1]?=some r)(hl:fC p.1 p.2 r.1 r.2=false):ordB l=false:=by
 rw[h.2 j p rfl hp,drop_at hr,nC,sT (by rw[hl];simp)]
theorem gV.fin{l:List Rf}{k:Nat}(h:gV l k)(hk:k=l.length):ordB l=true:=by
 subst hk;cases hl:l with
 |nil=>rfl
 |cons x t =>
  have hlen:l.length=t.length+1:=by rw[hl];rfl
  obtain⟨r,hr⟩:∃r,l[t.length]?=some r:=jY (by omega)
  rw[←hl,h.2 t.length r hlen hr,List.drop_length];rfl
theorem ids_any(l:List Rf)(D:Nat→Prop)(A:Option Addr)(c:Nat)(w:World)(hr:aC D w 2 A l.length (aF l))(hD:∀k,D k→k<w.heap.size):
 Calls Tryz.prog 114 #[.slice A l.length c] w fun e w'=>e=.returned (jN (eQ l))∧Below w.heap.size w w':=by
 have HR:=Hi hr;have HD:=Hi hD;clear hr hD;obtain⟨n,hn⟩:∃n,l.length=n:=⟨_,rfl⟩
 have HN:=Hi hn;rw[hn];by_cases h12:12<n
 ·have HV:Hid (eQ l=4):=by show _=_;rw[eQ,hn,tA h12]
  have d1:decide (12<(n:Int))=true:=sH (by omega);clear hn h12;go_enter Tryz.func114,Tryz.ntmps114;go_wp2_with fail
  go_ret;exact⟨by rw[HV.o];rfl,sA _ _⟩
 have HV:Hid (eQ l=if ordB l then 0 else 5):=by show _=_;rw[eQ,hn,sT h12]
 have d1:decide (12<(n:Int))=false:=sI (by omega);clear hn;go_enter Tryz.func114,Tryz.ntmps114;go_wp2_with fail
 clear d1;go_loopw [11] (fun s wr=>∃k:Nat,k≤n∧s=.int .i64 k∧Hid (Below w.heap.size w wr)∧Hid (gV l k)) (fun s _=>n-(intOf s).toNat)
 case atStart=>exact⟨0,by omega,rfl,sA _ _,gV.start l⟩
 case round =>
  obtain⟨k,hk,rfl,HB,HO⟩:=hrel
  by_cases hlt:k<n
  ·obtain⟨b,off,rfl,hb,hcell⟩:=HR.o.at_ (by rw[HN.o];omega) (by omega)
   obtain⟨r,hr⟩:∃r,l[k]?=some r:=⟨_,sC (by rw[HN.o];exact hlt)⟩
   have hbl:=HD.o b hb;have hblk:∀o,wr.cell? ⟨b,o,none⟩=w.cell? ⟨b,o,none⟩:=fun o=>sK (w:=w) (HB.o.block b hbl)
   obtain⟨h1,h2⟩:=aN hr
   have x1:wr.cell? ⟨b,off+k*2,none⟩=some (.int .i64 r.1):=by rw[hblk];exact hcell _ _ h1
   have x2:wr.cell? ⟨b,off+k*2+1,none⟩=some (.int .i64 r.2):=by rw[hblk];exact hcell _ _ h2
   have HX:=Hi hr;obtain⟨r1,r2⟩:=r
   have HB2:Hid (Below w.heap.size w (wr.alloc (.cells #[.int .i64 r1,.int .i64 r2] 48))):=HB.o.alloc HB.o.size _;rcases vH k with hk0|hk0
   ·subst hk0;have HO1:=Hi (gV.first hr);have x1':wr.cell? ⟨b,off,none⟩=some (.int .i64 r1):=by simpa using x1
    have x2':wr.cell? ⟨b,off+1,none⟩=some (.int .i64 r2):=by simpa using x2
    clear hblk hcell h1 h2 hr;go_wp2_with fail
    go_quiet (fail)
    change Exit.then _ _ _ _ ((wr.alloc (.cells #[.int .i64 r1,.int .i64 r2] 48)).drewN nq);have HB3:Hid (Below w.heap.size w ((wr.alloc (.cells #[.int .i64 r1,.int .i64 r2] 48)).drewN nq)):=aH HB2.o nq;generalize (wr.alloc (.cells #[.int .i64 r1,.int .i64 r2] 48)).drewN nq=w3 at HB3 ⊢;clear x1 x2 x1' x2' HB2;go_wp2_with fail
    go_roundw
    case rel=>exact⟨1,by omega,by go_num,HB3,HO1⟩
    case measure=>simp[intOf];omega
   ·obtain⟨j,rfl⟩:∃j,k=j+1:=⟨k-1,by omega⟩
    obtain⟨p,hp⟩:∃p,l[j]?=some p:=⟨_,sC (by rw[HN.o];omega)⟩
    obtain⟨g1,g2⟩:=aN hp
    have x3:wr.cell? ⟨b,off+j*2,none⟩=some (.int .i64 p.1):=by rw[hblk];exact hcell _ _ g1
    have x4:wr.cell? ⟨b,off+j*2+1,none⟩=some (.int .i64 p.2):=by rw[hblk];exact hcell _ _ g2
    obtain⟨p1,p2⟩:=p
    have LS:=less_any p1 p2 r1 r2;have hw:IntKind.i64.wrap ((j:Int)+1-1)=(j:Int):=by
     have:=tH (j:Int) (by omega)
     rw[show(j:Int)+1-1=(j:Int) from by omega];exact this
    have hbw:b<wr.heap.size:=sD hbl HB.o.size;have hi0:(0:Int)≤(j:Int):=by omega
    have hw2:IntKind.i64.wrap (j:Int)=(j:Int):=tH _ (by omega);have hi1:(j:Int)<(n:Int):=by omega
    have y1:(wr.alloc (.cells #[.int .i64 r1,.int .i64 r2] 48)).cell? ⟨wr.heap.size,0,none⟩=some (.int .i64 r1):=(Blk.new wr _ _).cell 0;have y2:(wr.alloc (.cells #[.int .i64 r1,.int .i64 r2] 48)).cell? ⟨wr.heap.size,1,none⟩=some (.int .i64 r2):=(Blk.new wr _ _).cell 1;have z3:(wr.alloc (.cells #[.int .i64 r1,.int .i64 r2] 48)).cell? ⟨b,off+j*2,none⟩=some (.int .i64 p1):=by
     rw[tP _ _ ⟨b,off+j*2,none⟩ hbw];exact x3
    have z4:(wr.alloc (.cells #[.int .i64 r1,.int .i64 r2] 48)).cell? ⟨b,off+j*2+1,none⟩=some (.int .i64 p2):=by
     rw[tP _ _ ⟨b,off+j*2+1,none⟩ hbw];exact x4
    cases hls:fC p1 p2 r1 r2
    case' true=>have HQ:=Hi (HO.o.next hp hr hls)
    case' false=>have HQ:Hid (eQ l=5):=by show _=_;rw[HV.o,HO.o.bad hp hr hls];rfl
    all_goals
     rw[hls]at LS;have d1:decide ((0:Int)<(j:Int)+1)=true:=sH (by omega);have d1':decide (0<j+1)=true:=sH (by omega);clear hblk hcell h1 h2 hr hp g1 g2 hls HO x3 x4;go_wp2_with fail
     go_region_held3 (fun w'=>w'.cell? ⟨b,off+j*2,none⟩=some (.int .i64 p1)∧w'.cell? ⟨b,off+j*2+1,none⟩=some (.int .i64 p2)∧w'.cell? ⟨wr.heap.size,0,none⟩=some (.int .i64 r1)∧w'.cell? ⟨wr.heap.size,1,none⟩=some (.int .i64 r2))
      (first|exact⟨z3,z4,y1,y2⟩|exact⟨v1,v2,v3,v4⟩|go_keep)
      ((go_at_call 132;refine(LS _).mono ?_;rintro e w3 ⟨rfl,hb3⟩;have HB3:Hid (Below w.heap.size w w3):=Hi (HB2.o.drew.trans (Below.mono hb3 HB2.o.size));have v1:w3.cell? ⟨b,off+j*2,none⟩=some (.int .i64 p1):=(hb3.cell (by simp;omega)).trans z3;have v2:w3.cell? ⟨b,off+j*2+1,none⟩=some (.int .i64 p2):=(hb3.cell (by simp;omega)).trans z4;have v3:w3.cell? ⟨wr.heap.size,0,none⟩=some (.int .i64 r1):=(hb3.cell (by simp)).trans y1;have v4:w3.cell? ⟨wr.heap.size,1,none⟩=some (.int .i64 r2):=(hb3.cell (by simp)).trans y2))
     clear z3 z4 y1 y2 x1 x2 hb3 HB2 LS hw hw2 v1 v2 v3 v4;go_wp2_with fail
     first
      |(go_ret;exact⟨by rw[HQ.o];rfl,HB3.o⟩)
      |(go_roundw
        case rel=>exact⟨j+1+1,by omega,by go_num,HB3,HQ⟩
        case measure=>simp[intOf];omega)
  ·have HF:Hid (eQ l=0):=by
    show _=_;rw[HV.o,HO.o.fin (by rw[HN.o];omega)];rfl
   go_wp2_with fail
   go_ret;exact⟨by rw[HF.o];rfl,HB.o⟩
end
section
set_option maxRecDepth 100000 in
theorem kC(a b c d:Int)(w:World):(Op.equalIn 10000 48 (.agg #[.int .i64 a,.int .i64 b]) (.agg #[.int .i64 c,.int .i64 d])).run Tryz.prog w=.ok (a == c&&b == d) w:=by
 have hS:Tryz.prog.underlying 48=some (.struct (Tryz.prog.fieldsOf 48)):=by kernel_rfl
 have hp:Tryz.prog.stoodInHeld 48=false:=by kernel_rfl
 rw[show(10000:Nat)=9999+1 from rfl,run_equalIn_agg w 9999 48 _ _ hS hp];simp only[Program.fieldsOf,Tryz.underlying48];go_simp;by_cases h1:a=c<;>by_cases h2:b=d<;>simp[h1,h2]
theorem eq_root(a b:Int)(rt:Bool)(h:bD a b=rt)(w:World):(Op.equalIn 10000 48 (.agg #[.int .i64 a,.int .i64 b]) (.agg #[.int .i64 0,.int .i64 0])).run Tryz.prog w=.ok rt w:=by
 rw[kC,←h];by_cases h1:a=0<;>by_cases h2:b=0<;>simp[bD,h1,h2]
end
end Go.Proofs.YtjhkcbideddlgaaGreat
