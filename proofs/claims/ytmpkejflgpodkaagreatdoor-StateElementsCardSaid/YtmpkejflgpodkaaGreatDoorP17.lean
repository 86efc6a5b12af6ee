/- Contracts of the document's books: the refs of changes, rising; the heads. -/
import Derived.Test.YtmpkejflgpodkaaGreatDoorP16
import Derived.Test.YtmpkejflgpodkaaGreatDoorP0
import Derived.Lib.SliceRun
import Derived.Shelf.Abstract
import Derived.Lib.Small
import Derived.Sort.Grow
set_option linter.unusedVariables false
set_option linter.unusedSimpArgs false
namespace Go.Proofs.YtmpkejflgpodkaaGreatDoor
open Go.ChangeShapes Go.WideShapes Go.ChangeAt Go.RowKit
end Go.Proofs.YtmpkejflgpodkaaGreatDoor
namespace Go.Proofs.YtmpkejflgpodkaaGreatDoor
open Go.ChangeShapes Go.WideShapes Go.ChangeAt Go.RowKit
theorem nodup_len {α : Type} [DecidableEq α] : ∀ (a b : List α),a.Nodup→(∀ x∈a,x∈b)→a.length≤b.length
 | [],_,_,_=>by simp
 | x::a,b,hn,hs=>by
   obtain ⟨hx,hn'⟩:=List.nodup_cons.1 hn
   have hxb:=hs x (by simp)
   have:=nodup_len a (b.erase x) hn' (fun y hy=>(List.mem_erase_of_ne (fun e=>hx (by rw [← e];exact hy))).2 (hs y (by simp [hy])))
   rw [List.length_erase_of_mem hxb] at this
   have : 0 < b.length:=List.length_pos_of_mem hxb
   simp only [List.length_cons]
   omega
theorem next_go {L : List ChD} (h : Bk L) (out : List ChD) (hex : ∃ c∈L,c.rf∉refsOf out) : ∃ c∈L,nextP L out c=true:=by
 induction h with
 | nil=>obtain ⟨c,hc,_⟩:=hex;cases hc
 | @snoc L c h1 h2 h3 h4 h5 h6 ih =>
   by_cases he : ∃ c∈L,c.rf∉refsOf out
   · obtain ⟨d,hd,hp⟩:=ih he
     exact ⟨d,List.mem_append.2 (.inl hd),by unfold nextP at hp ⊢;exact hp⟩
   · have hall : ∀ d∈L,d.rf∈refsOf out:=fun d hd=>Decidable.byContradiction fun hh=>he ⟨d,hd,hh⟩
     obtain ⟨c',hc',hn⟩:=hex
     rcases List.mem_append.1 hc' with hc' | hc'
     · exact absurd (hall c' hc') hn
     · obtain rfl:=List.mem_singleton.1 hc'
       refine ⟨c',by simp,?_⟩
       unfold nextP
       rw [Bool.and_eq_true]
       refine ⟨by simp [hn],List.all_eq_true.2 fun d hd=>decide_eq_true ?_⟩
       have hr:=List.all_eq_true.1 h5 d hd
       obtain ⟨e,he1,he2⟩:=List.mem_map.1 (of_decide_eq_true hr)
       rw [← he2]
       exact hall e he1
theorem next_ex {L : List ChD} (h : Bk L) {out : List ChD} (hlt : out.length < L.length) : ∃ c∈L,nextP L out c=true:=by
 refine next_go h out ?_
 refine Decidable.byContradiction fun hh=>?_
 have hall : ∀ r∈refsOf L,r∈refsOf out:=fun r hr=>by
  obtain ⟨c,hc,rfl⟩:=List.mem_map.1 hr
  exact Decidable.byContradiction fun h'=>hh ⟨c,hc,h'⟩
 have:=nodup_len _ _ h.nodup hall
 simp only [refsOf,List.length_map] at this
 omega
theorem allGo_step {L out : List ChD} {m i : Nat} {r : Rf} {x : ChD} (h : leastAt (nextP L out) L=some (i,r)) (hx : L[i]?=some x) : allGo L (m+1) out=allGo L m (out++[x]):=by
 conv=>lhs;unfold allGo
 rw [h]
 simp only [hx]
def slen (v : Value) : Nat:=match v with | .slice _ n _=>n | _=>0
theorem findI_mem {L : List ChD} {r : Rf} {i : Int} (h : FindI L r i) : decide (0≤i)=decide (r∈refsOf L):=by
 rcases h with ⟨rfl,h⟩ | ⟨k,c,rfl,hk,hf⟩
 · rw [decide_eq_false h];rfl
 · have h1:=findC_some hf
   rw [decide_eq_true (show (0 : Int)≤(k : Int) from by omega),decide_eq_true (show r∈refsOf L from by rw [← h1.2];exact mem_refs h1.1)]
end Go.Proofs.YtmpkejflgpodkaaGreatDoor
namespace Go.Proofs.YtmpkejflgpodkaaGreatDoor
open Go.ChangeShapes Go.WideShapes Go.ChangeAt Go.RowKit
def HasL (w : World) (b : Nat) (L : List ChD) : Prop:=MapL w 77 b (L.map fun c=>(refV c.rf,c.v))
theorem zero_ch (w : World) : (zeroValue 82).run Tryz.prog w=.ok zeroCh w:=by kernel_rfl
def lookV (L : List ChD) (r : Rf) : Value:=match findC L r with | some c=>c.v | none=>zeroCh
theorem HasL.look {w : World} {b : Nat} {L : List ChD} (h : HasL w b L) {r : Rf} (hr : I64R r) (hm : Bool) :
 (Instr.lookup 159 (.map (some b)) (.agg #[.int .i64 r.1,.int .i64 r.2]) hm).run Tryz.prog w=.ok (if hm then .tuple #[lookV L r,.bool (decide (r∈refsOf L))] else lookV L r) w:=by
 unfold lookV
 cases hf : findC L r with
 | some c =>
   obtain ⟨h1,h2⟩:=findC_some hf
   rw [decide_eq_true (show r∈refsOf L from h2▸mem_refs h1)]
   subst h2
   exact MapL.hit h keyed_ref Tryz.underlying159 (zero_ch w) (List.mem_map.2 ⟨c,h1,rfl⟩) hm
 | none =>
   have hn:=findC_none.1 hf
   rw [decide_eq_false hn]
   obtain ⟨kl,hk⟩:=keyOf_ref hr
   refine MapL.miss h keyed_ref Tryz.underlying159 (zero_ch w) hk (fun p hp e=>?_) hm
   obtain ⟨q,hq,rfl⟩:=List.mem_map.1 hp
   exact hn (refV_inj e▸mem_refs hq)
theorem HasL.lookT {w : World} {b : Nat} {L : List ChD} (h : HasL w b L) {r : Rf} (hr : I64R r) {v : Value} (hv : lookV L r=v) {ok : Bool} (hok : decide (r∈refsOf L)=ok) :
 (Instr.lookup 159 (.map (some b)) (.agg #[.int .i64 r.1,.int .i64 r.2]) true).run Tryz.prog w=.ok (.tuple #[v,.bool ok]) w:=by
 have:=h.look hr true
 rw [hv,hok] at this
 exact this
theorem lookV_cells (L : List ChD) (r : Rf) : ∃ a s st A n c A' n' c',lookV L r=.agg #[.int .i64 a,.int .i64 s,.int .i64 st,.slice A n c,.slice A' n' c']:=by
 unfold lookV
 cases findC L r with
 | none=>exact ⟨_,_,_,_,_,_,_,_,_,rfl⟩
 | some c=>exact ⟨_,_,_,_,_,_,_,_,_,rfl⟩
theorem chref_any (a s : Int) (v2 v3 v4 : Value) (w : World) (h2 : v2.oneCell'=true) (h3 : v3.oneCell'=true) (h4 : v4.oneCell'=true) :
 Calls Tryz.prog 126 #[.agg #[.int .i64 a,.int .i64 s,v2,v3,v4]] w fun e w'=>e=.returned (.agg #[.int .i64 a,.int .i64 s])∧Below w.heap.size w w':=by
 have hres : Tryz.f126.results=#[.cell 2 77]:=by kernel_rfl
 go_enter Tryz.func126,Tryz.ntmps126
 go_wp2_with fail
 refine bodyPost_ret (v:=.agg #[.int .i64 a,.int .i64 s]) ?_ rfl ⟨rfl,?_⟩
 · simp only [results,hres]
   go_simp
 · exact ((Below.refl _ w).alloc (Nat.le_refl _) _).alloc (by simp) _
set_option maxHeartbeats 2000000 in
set_option maxRecDepth 20000 in
theorem has_any (L : List ChD) (r : Rf) (hr : I64R r) (g bh : Nat) (V2 V3 : Value) (w : World) (hB : Blk w g 162 #[.map (some bh),V2,V3]) (hm : HasL w bh L) :
 Calls Tryz.prog 85 #[.pointer (some ⟨g,0,none⟩),.agg #[.int .i64 r.1,.int .i64 r.2]] w fun e w'=>e=.returned (.bool (decide (r∈refsOf L)))∧Below w.heap.size w w':=by
 have hW : Below w.heap.size w (w.alloc (.cells #[.int .i64 r.1,.int .i64 r.2] 77)):=(Below.refl _ w).alloc (Nat.le_refl _) _
 have hQ:=Blk.new w 77 #[.int .i64 r.1,.int .i64 r.2]
 have HM : Hid (HasL (w.alloc (.cells #[.int .i64 r.1,.int .i64 r.2] 77)) bh L):=MapL.keep hm (hW.block _ (MapL.lt hm))
 have hG:=hB.keep (hW.block _ hB.lt)
 have HW:=Lib.hid hW
 obtain ⟨a,s,st,A,n,c,A',n',c',hlv⟩:=lookV_cells L r
 obtain ⟨ok,hok⟩ : ∃ ok,decide (r∈refsOf L)=ok:=⟨_,rfl⟩
 have HQ:=Lib.hid hQ
 have HGB:=Lib.hid hG
 rw [hok]
 go_enter Tryz.func85,Tryz.ntmps85
 go_wp2_with fail
 generalize w.alloc (.cells #[.int .i64 r.1,.int .i64 r.2] 77)=V at *
 have q0 : V.cell? ⟨w.heap.size,0,none⟩=some (.int .i64 r.1):=hQ.cell 0
 have q1 : V.cell? ⟨w.heap.size,1,none⟩=some (.int .i64 r.2):=hQ.cell 1
 have g0 : V.cell? ⟨g,0,none⟩=some (.map (some bh)):=hG.cell 0
 clear hW hQ hG hB hm
 go_wp2_with fail
 have hl:=(show HasL V.drew bh L from MapL.keep HM.out rfl).lookT hr hlv hok
 have hql : w.heap.size < V.heap.size:=HQ.out.lt
 have hgl : g < V.heap.size:=HGB.out.lt
 have KS : ∀ o,(V.drew.alloc o).cell? ⟨w.heap.size,0,none⟩=some (.int .i64 r.1)∧(V.drew.alloc o).cell? ⟨w.heap.size,1,none⟩=some (.int .i64 r.2)∧(V.drew.alloc o).cell? ⟨g,0,none⟩=some (.map (some bh))∧(Instr.lookup 159 (.map (some bh)) (.agg #[.int .i64 r.1,.int .i64 r.2]) true).run Tryz.prog (V.drew.alloc o)=.ok (.tuple #[.agg #[.int .i64 a,.int .i64 s,.int .i64 st,.slice A n c,.slice A' n' c'],.bool ok]) (V.drew.alloc o):=fun o=>by
  refine ⟨?_,?_,?_,(show HasL (V.drew.alloc o) bh L from MapL.keep HM.out ((Below.refl _ V).drew.alloc (Nat.le_refl _) o |>.block _ (MapL.lt HM.out))).lookT hr hlv hok⟩
  · rw [World.cell?_alloc_lt _ _ _ (show _ < V.drew.heap.size from hql)];exact q0
  · rw [World.cell?_alloc_lt _ _ _ (show _ < V.drew.heap.size from hql)];exact q1
  · rw [World.cell?_alloc_lt _ _ _ (show _ < V.drew.heap.size from hgl)];exact g0
 go_region_held3 (fun w'=>w'.cell? ⟨w.heap.size,0,none⟩=some (.int .i64 r.1)∧w'.cell? ⟨w.heap.size,1,none⟩=some (.int .i64 r.2)∧w'.cell? ⟨g,0,none⟩=some (.map (some bh))∧(Instr.lookup 159 (.map (some bh)) (.agg #[.int .i64 r.1,.int .i64 r.2]) true).run Tryz.prog w'=.ok (.tuple #[.agg #[.int .i64 a,.int .i64 s,.int .i64 st,.slice A n c,.slice A' n' c'],.bool ok]) w') (first | exact ⟨q0,q1,g0,hl⟩ | exact KS _ | go_keep) (fail)
 all_goals
  clear KS q0 q1 g0 hl
  have HV : Hid (Below w.heap.size w (V.alloc (.cells #[.int .i64 a,.int .i64 s,.int .i64 st,.slice A n c,.slice A' n' c'] 82)).drew):=(HW.out.alloc HW.out.size _).drew
  generalize (V.alloc (.cells #[.int .i64 a,.int .i64 s,.int .i64 st,.slice A n c,.slice A' n' c'] 82)).drew=V2 at HV ⊢
  go_wp2_with fail
  go_ret
  exact ⟨rfl,HV.out⟩
end Go.Proofs.YtmpkejflgpodkaaGreatDoor
namespace Go.Proofs.YtmpkejflgpodkaaGreatDoor
open Go.ChangeShapes Go.WideShapes Go.ChangeAt Go.RowKit
set_option maxHeartbeats 2000000 in
set_option maxRecDepth 20000 in
theorem cloneR_any (l : List Rf) (D : Nat→Prop) (A : Option Addr) (c : Nat) (w : World) (hr : Reads D w 2 A l.length (refC l)) (hD : ∀ k,D k→k < w.heap.size) (hl : l.length≤1000000) :
 Calls Tryz.prog 133 #[.slice A l.length c] w fun e w'=>∃ A' c',e=.returned (.slice A' l.length c')∧w'.ownsRow w.heap.size 77 2 (.slice A' l.length c') l.length (refC l)∧Below w.heap.size w w':=by
 cases A with
 | none =>
   have hl0 : l=[]:=by
    rcases Nat.eq_zero_or_pos l.length with h | h
    · exact List.length_eq_zero_iff.1 h
    · obtain ⟨ad,h',_⟩:=hr.2 h;cases h'
   subst hl0
   have hne:=Lib.run_eql_slice_nil (P:=Tryz.prog) w 79 77 none 0 c 0 0 Tryz.underlying79
   go_enter Tryz.func133,Tryz.ntmps133
   go_wp2_with fail
   go_ret
   exact ⟨none,0,rfl,own_nil _ _ _ _,Below.refl _ _⟩
 | some ad =>
   have HR:=Lib.hid (hr.more hD)
   obtain ⟨n,hn⟩ : ∃ n,l.length=n:=⟨_,rfl⟩
   have hne:=Lib.run_eql_slice_nil (P:=Tryz.prog) w 79 77 (some ad) n c 0 0 Tryz.underlying79
   obtain ⟨i0,hi,hz0,hz1,hz2⟩:=info_parts infoRef
   clear hr
   rw [hn] at hl HR ⊢
   clear hn
   go_enter Tryz.func133,Tryz.ntmps133
   go_wp2_with (at_builtin;refine wpList_append_any _ rfl (.tmp 5) (.tmp 6) _ rfl (w.heap.size) 77 i0 _ 2 16 Tryz.underlying79 hi hz0 hz1 hz2 rfl (by omega) (.slice (some ⟨w.heap.size,0,none⟩) 0 0) 0 [] rfl (World.ownsRow_lit w #[] 0 (Nat.le_refl _) (by simp [maxLen]) (by simp)) _ (some ad) n c (refC l) rfl (reads_below HR.out ((Below.refl _ w).alloc (Nat.le_refl _) _)) (refC_one l) ?c1 ?c2 ?c3 ?_)
   try case c1=>simp only [maxLen];omega
   try case c2=>omega
   try case c3=>simp
   intro v4 w4 ho4 hg4 hat4
   have HW4 : Hid (Below w.heap.size w w4):=((Below.refl _ w).alloc (Nat.le_refl _) _).grown hg4 (by simp) (fun g hg=>by simp [Value.ownBlock] at hg;omega)
   have ho5 : w4.ownsRow w.heap.size 77 2 v4 n (refC l):=by simpa using ho4
   obtain ⟨A',c',rfl,-,-,-⟩:=Reads.of_own ho5
   have HO:=Lib.hid ho5
   clear ho4 ho5 hg4 hat4
   go_wp2_with fail
   go_ret
   exact ⟨_,_,rfl,HO.out,HW4.out⟩
theorem eq_idD (a b c d : Int) (w : World) : (Op.equalIn 10000 24 (.agg #[.int .i64 a,.int .i64 b]) (.agg #[.int .i64 c,.int .i64 d])).run Tryz.prog w=.ok (decide ((a,b)=(c,d))) w:=by
 rw [eq_id]
 by_cases h1 : a=c <;> by_cases h2 : b=d <;> simp [h1,h2]
def zeroOp : Value:=.agg #[.int .i64 0,.int .i64 0,.int .i64 0,.string ⟨#[]⟩,.int .i64 0,.int .i64 0,.bool false,.int .i64 0,.int .i64 0,.string ⟨#[]⟩,.int .i64 0,.int .i64 0,.slice none 0 0]
theorem infoOp : (Tryz.prog.info? 88).map (fun i=>(i.zero,i.size,i.bytes))=some (some zeroOp,13,136):=by kernel_rfl
theorem opsC_one (l : List OpD) : ∀ u∈opsC l,u.oneCell'=true:=by
 intro u hu
 obtain ⟨o,_,h⟩:=List.mem_flatMap.1 hu
 simp only [opC,List.mem_cons,List.not_mem_nil,or_false] at h
 rcases h with rfl | rfl | rfl | rfl | rfl | rfl | rfl | rfl | rfl | rfl | rfl | rfl | rfl <;> rfl
set_option maxHeartbeats 2000000 in
set_option maxRecDepth 20000 in
theorem cloneI_any (l : List Rf) (D : Nat→Prop) (A : Option Addr) (c : Nat) (w : World) (hr : Reads D w 2 A l.length (refC l)) (hD : ∀ k,D k→k < w.heap.size) (hl : l.length≤1000000) :
 Calls Tryz.prog 60 #[.slice A l.length c] w fun e w'=>∃ A' c',e=.returned (.slice A' l.length c')∧w'.ownsRow w.heap.size 24 2 (.slice A' l.length c') l.length (refC l)∧Below w.heap.size w w':=by
 cases A with
 | none =>
   have hl0 : l=[]:=by
    rcases Nat.eq_zero_or_pos l.length with h | h
    · exact List.length_eq_zero_iff.1 h
    · obtain ⟨ad,h',_⟩:=hr.2 h;cases h'
   subst hl0
   have hne:=Lib.run_eql_slice_nil (P:=Tryz.prog) w 28 24 none 0 c 0 0 Tryz.underlying28
   go_enter Tryz.func60,Tryz.ntmps60
   go_wp2_with fail
   go_ret
   exact ⟨none,0,rfl,own_nil _ _ _ _,Below.refl _ _⟩
 | some ad =>
   have HR:=Lib.hid (hr.more hD)
   obtain ⟨n,hn⟩ : ∃ n,l.length=n:=⟨_,rfl⟩
   have hne:=Lib.run_eql_slice_nil (P:=Tryz.prog) w 28 24 (some ad) n c 0 0 Tryz.underlying28
   obtain ⟨i0,hi,hz0,hz1,hz2⟩:=info_parts infoId
   clear hr
   rw [hn] at hl HR ⊢
   clear hn
   go_enter Tryz.func60,Tryz.ntmps60
   go_wp2_with (at_builtin;refine wpList_append_any _ rfl (.tmp 5) (.tmp 6) _ rfl (w.heap.size) 24 i0 _ 2 16 Tryz.underlying28 hi hz0 hz1 hz2 rfl (by omega) (.slice (some ⟨w.heap.size,0,none⟩) 0 0) 0 [] rfl (World.ownsRow_lit w #[] 0 (Nat.le_refl _) (by simp [maxLen]) (by simp)) _ (some ad) n c (refC l) rfl (reads_below HR.out ((Below.refl _ w).alloc (Nat.le_refl _) _)) (refC_one l) ?c1 ?c2 ?c3 ?_)
   try case c1=>simp only [maxLen];omega
   try case c2=>omega
   try case c3=>simp
   intro v4 w4 ho4 hg4 hat4
   have HW4 : Hid (Below w.heap.size w w4):=((Below.refl _ w).alloc (Nat.le_refl _) _).grown hg4 (by simp) (fun g hg=>by simp [Value.ownBlock] at hg;omega)
   have ho5 : w4.ownsRow w.heap.size 24 2 v4 n (refC l):=by simpa using ho4
   obtain ⟨A',c',rfl,-,-,-⟩:=Reads.of_own ho5
   have HO:=Lib.hid ho5
   clear ho4 ho5 hg4 hat4
   go_wp2_with fail
   go_ret
   exact ⟨_,_,rfl,HO.out,HW4.out⟩
set_option maxHeartbeats 2000000 in
set_option maxRecDepth 20000 in
theorem cloneO_any (l : List OpD) (D : Nat→Prop) (A : Option Addr) (c : Nat) (w : World) (hr : Reads D w 13 A l.length (opsC l)) (hD : ∀ k,D k→k < w.heap.size) (hl : l.length≤1000000) :
 Calls Tryz.prog 134 #[.slice A l.length c] w fun e w'=>∃ A' c',e=.returned (.slice A' l.length c')∧w'.ownsRow w.heap.size 88 13 (.slice A' l.length c') l.length (opsC l)∧Below w.heap.size w w':=by
 cases A with
 | none =>
   have hl0 : l=[]:=by
    rcases Nat.eq_zero_or_pos l.length with h | h
    · exact List.length_eq_zero_iff.1 h
    · obtain ⟨ad,h',_⟩:=hr.2 h;cases h'
   subst hl0
   have hne:=Lib.run_eql_slice_nil (P:=Tryz.prog) w 80 88 none 0 c 0 0 Tryz.underlying80
   go_enter Tryz.func134,Tryz.ntmps134
   go_wp2_with fail
   go_ret
   exact ⟨none,0,rfl,own_nil _ _ _ _,Below.refl _ _⟩
 | some ad =>
   have HR:=Lib.hid (hr.more hD)
   obtain ⟨n,hn⟩ : ∃ n,l.length=n:=⟨_,rfl⟩
   have hne:=Lib.run_eql_slice_nil (P:=Tryz.prog) w 80 88 (some ad) n c 0 0 Tryz.underlying80
   obtain ⟨i0,hi,hz0,hz1,hz2⟩:=info_parts infoOp
   clear hr
   rw [hn] at hl HR ⊢
   clear hn
   go_enter Tryz.func134,Tryz.ntmps134
   go_wp2_with (at_builtin;refine wpList_append_any _ rfl (.tmp 5) (.tmp 6) _ rfl (w.heap.size) 88 i0 _ 13 136 Tryz.underlying80 hi hz0 hz1 hz2 rfl (by omega) (.slice (some ⟨w.heap.size,0,none⟩) 0 0) 0 [] rfl (World.ownsRow_lit w #[] 0 (Nat.le_refl _) (by simp [maxLen]) (by simp)) _ (some ad) n c (opsC l) rfl (reads_below HR.out ((Below.refl _ w).alloc (Nat.le_refl _) _)) (opsC_one l) ?c1 ?c2 ?c3 ?_)
   try case c1=>simp only [maxLen];omega
   try case c2=>omega
   try case c3=>simp
   intro v4 w4 ho4 hg4 hat4
   have HW4 : Hid (Below w.heap.size w w4):=((Below.refl _ w).alloc (Nat.le_refl _) _).grown hg4 (by simp) (fun g hg=>by simp [Value.ownBlock] at hg;omega)
   have ho5 : w4.ownsRow w.heap.size 88 13 v4 n (opsC l):=by simpa using ho4
   obtain ⟨A',c',rfl,-,-,-⟩:=Reads.of_own ho5
   have HO:=Lib.hid ho5
   clear ho4 ho5 hg4 hat4
   go_wp2_with fail
   go_ret
   exact ⟨_,_,rfl,HO.out,HW4.out⟩
set_option maxHeartbeats 2000000 in
set_option maxRecDepth 20000 in
theorem equalR_any (l l2 : List Rf) (A A2 : Option Addr) (c c2 : Nat) (w : World) (hr : Reads (fun k=>k < w.heap.size) w 2 A l.length (refC l)) (hr2 : Reads (fun k=>k < w.heap.size) w 2 A2 l2.length (refC l2)) (hl : l.length≤9223372036854775807) (hl2 : l2.length≤9223372036854775807) :
 Calls Tryz.prog 163 #[.slice A l.length c,.slice A2 l2.length c2] w fun e w'=>e=.returned (.bool (decide (l=l2)))∧Below w.heap.size w w':=by
 obtain ⟨n,hn⟩ : ∃ n,l.length=n:=⟨_,rfl⟩
 obtain ⟨n2,hn2⟩ : ∃ n2,l2.length=n2:=⟨_,rfl⟩
 have HN:=Lib.hid hn
 have HN2:=Lib.hid hn2
 have HR:=Lib.hid hr
 have HR2:=Lib.hid hr2
 rw [hn] at hl
 rw [hn2] at hl2
 rw [hn,hn2]
 clear hr hr2
 by_cases hnn : n=n2
 · subst hnn
   clear hn hn2
   go_enter Tryz.func163,Tryz.ntmps163
   go_wp2_with fail
   go_loopw [5,13] (fun _ s13 wr=>∃ k : Nat,s13=.int .i64 k∧k≤n∧Hid (l.take k=l2.take k)∧∃ m,wr=w.drewN m) (fun _ s13 _=>n - (intOf s13).toNat)
   case atStart=>exact ⟨0,rfl,by omega,by show _=_;simp,0,rfl⟩
   case round =>
    obtain ⟨k,rfl,hk,HI,m,rfl⟩:=hrel
    by_cases hlt : k < n
    · obtain ⟨b1,o1,rfl,-,hc1⟩:=HR.out.at_ (by rw [HN.out];omega) (by omega)
      obtain ⟨b2,o2,rfl,-,hc2⟩:=HR2.out.at_ (by rw [HN2.out];omega) (by omega)
      obtain ⟨x,hx⟩ : ∃ x,l[k]?=some x:=⟨_,List.getElem?_eq_getElem (by rw [HN.out];exact hlt)⟩
      obtain ⟨y,hy⟩ : ∃ y,l2[k]?=some y:=⟨_,List.getElem?_eq_getElem (by rw [HN2.out];exact hlt)⟩
      have x1 : w.cell? ⟨b1,o1+k*2,none⟩=some (.int .i64 x.1):=hc1 _ _ (refC_at hx).1
      have x2 : w.cell? ⟨b1,o1+k*2+1,none⟩=some (.int .i64 x.2):=hc1 _ _ (refC_at hx).2
      have y1 : w.cell? ⟨b2,o2+k*2,none⟩=some (.int .i64 y.1):=hc2 _ _ (refC_at hy).1
      have y2 : w.cell? ⟨b2,o2+k*2+1,none⟩=some (.int .i64 y.2):=hc2 _ _ (refC_at hy).2
      have E:=fun w=>eq_ref x.1 x.2 y.1 y.2 w
      by_cases hxy : x=y
      · have HI2 : Hid (l.take (k+1)=l2.take (k+1)):=by show _=_;rw [List.take_add_one,List.take_add_one,HI.out,hx,hy,hxy]
        have e1 : decide ((x.1,x.2)=(y.1,y.2))=true:=decide_eq_true hxy
        rw [e1] at E
        clear hc1 hc2 hx hy hxy e1
        go_wp2_with fail
        go_quiet (fail)
        change Exit.then _ _ _ _ ((w.drewN m).drewN nq)
        have HW : Hid ((w.drewN m).drewN nq=w.drewN (m+nq)):=by show _=_;rw [World.drewN_drewN]
        generalize (w.drewN m).drewN nq=w3 at HW ⊢
        clear x1 x2 y1 y2 E
        go_wp2_with fail
        go_roundw
        case rel=>exact ⟨k+1,by go_num,by omega,HI2,_,HW.out⟩
        case measure=>simp [intOf];omega
      · have HE : Hid (decide (l=l2)=false):=decide_eq_false fun e=>hxy (by rw [e,hy] at hx;cases hx;rfl)
        have e1 : decide ((x.1,x.2)=(y.1,y.2))=false:=decide_eq_false hxy
        rw [e1] at E
        clear hc1 hc2 hx hy hxy e1
        go_wp2_with fail
        go_quiet (fail)
        go_wp2_with fail
        go_ret
        exact ⟨by rw [HE.out];rfl,by rw [World.drewN_drewN];exact below_drewN (Below.refl _ w) _⟩
    · have HE : Hid (decide (l=l2)=true):=decide_eq_true (by have:=HI.out;rwa [List.take_of_length_le (by rw [HN.out];omega),List.take_of_length_le (by rw [HN2.out];omega)] at this)
      go_wp2_with fail
      go_ret
      exact ⟨by rw [HE.out];rfl,below_drewN (Below.refl _ w) _⟩
 · have HE : Hid (decide (l=l2)=false):=decide_eq_false fun e=>hnn (by rw [← hn,← hn2,e])
   have hd : ((n : Int) != (n2 : Int))=true:=by simp;omega
   clear hn hn2
   go_enter Tryz.func163,Tryz.ntmps163
   go_wp2_with fail
   go_ret
   exact ⟨by rw [HE.out];rfl,Below.refl _ _⟩
set_option maxHeartbeats 2000000 in
set_option maxRecDepth 20000 in
theorem equalI_any (l l2 : List Rf) (A A2 : Option Addr) (c c2 : Nat) (w : World) (hr : Reads (fun k=>k < w.heap.size) w 2 A l.length (refC l)) (hr2 : Reads (fun k=>k < w.heap.size) w 2 A2 l2.length (refC l2)) (hl : l.length≤9223372036854775807) (hl2 : l2.length≤9223372036854775807) :
 Calls Tryz.prog 166 #[.slice A l.length c,.slice A2 l2.length c2] w fun e w'=>e=.returned (.bool (decide (l=l2)))∧Below w.heap.size w w':=by
 obtain ⟨n,hn⟩ : ∃ n,l.length=n:=⟨_,rfl⟩
 obtain ⟨n2,hn2⟩ : ∃ n2,l2.length=n2:=⟨_,rfl⟩
 have HN:=Lib.hid hn
 have HN2:=Lib.hid hn2
 have HR:=Lib.hid hr
 have HR2:=Lib.hid hr2
 rw [hn] at hl
 rw [hn2] at hl2
 rw [hn,hn2]
 clear hr hr2
 by_cases hnn : n=n2
 · subst hnn
   clear hn hn2
   go_enter Tryz.func166,Tryz.ntmps166
   go_wp2_with fail
   go_loopw [5,13] (fun _ s13 wr=>∃ k : Nat,s13=.int .i64 k∧k≤n∧Hid (l.take k=l2.take k)∧∃ m,wr=w.drewN m) (fun _ s13 _=>n - (intOf s13).toNat)
   case atStart=>exact ⟨0,rfl,by omega,by show _=_;simp,0,rfl⟩
   case round =>
    obtain ⟨k,rfl,hk,HI,m,rfl⟩:=hrel
    by_cases hlt : k < n
    · obtain ⟨b1,o1,rfl,-,hc1⟩:=HR.out.at_ (by rw [HN.out];omega) (by omega)
      obtain ⟨b2,o2,rfl,-,hc2⟩:=HR2.out.at_ (by rw [HN2.out];omega) (by omega)
      obtain ⟨x,hx⟩ : ∃ x,l[k]?=some x:=⟨_,List.getElem?_eq_getElem (by rw [HN.out];exact hlt)⟩
      obtain ⟨y,hy⟩ : ∃ y,l2[k]?=some y:=⟨_,List.getElem?_eq_getElem (by rw [HN2.out];exact hlt)⟩
      have x1 : w.cell? ⟨b1,o1+k*2,none⟩=some (.int .i64 x.1):=hc1 _ _ (refC_at hx).1
      have x2 : w.cell? ⟨b1,o1+k*2+1,none⟩=some (.int .i64 x.2):=hc1 _ _ (refC_at hx).2
      have y1 : w.cell? ⟨b2,o2+k*2,none⟩=some (.int .i64 y.1):=hc2 _ _ (refC_at hy).1
      have y2 : w.cell? ⟨b2,o2+k*2+1,none⟩=some (.int .i64 y.2):=hc2 _ _ (refC_at hy).2
      have E:=fun w=>eq_idD x.1 x.2 y.1 y.2 w
      by_cases hxy : x=y
      · have HI2 : Hid (l.take (k+1)=l2.take (k+1)):=by show _=_;rw [List.take_add_one,List.take_add_one,HI.out,hx,hy,hxy]
        have e1 : decide ((x.1,x.2)=(y.1,y.2))=true:=decide_eq_true hxy
        rw [e1] at E
        clear hc1 hc2 hx hy hxy e1
        go_wp2_with fail
        go_quiet (fail)
        change Exit.then _ _ _ _ ((w.drewN m).drewN nq)
        have HW : Hid ((w.drewN m).drewN nq=w.drewN (m+nq)):=by show _=_;rw [World.drewN_drewN]
        generalize (w.drewN m).drewN nq=w3 at HW ⊢
        clear x1 x2 y1 y2 E
        go_wp2_with fail
        go_roundw
        case rel=>exact ⟨k+1,by go_num,by omega,HI2,_,HW.out⟩
        case measure=>simp [intOf];omega
      · have HE : Hid (decide (l=l2)=false):=decide_eq_false fun e=>hxy (by rw [e,hy] at hx;cases hx;rfl)
        have e1 : decide ((x.1,x.2)=(y.1,y.2))=false:=decide_eq_false hxy
        rw [e1] at E
        clear hc1 hc2 hx hy hxy e1
        go_wp2_with fail
        go_quiet (fail)
        go_wp2_with fail
        go_ret
        exact ⟨by rw [HE.out];rfl,by rw [World.drewN_drewN];exact below_drewN (Below.refl _ w) _⟩
    · have HE : Hid (decide (l=l2)=true):=decide_eq_true (by have:=HI.out;rwa [List.take_of_length_le (by rw [HN.out];omega),List.take_of_length_le (by rw [HN2.out];omega)] at this)
      go_wp2_with fail
      go_ret
      exact ⟨by rw [HE.out];rfl,below_drewN (Below.refl _ w) _⟩
 · have HE : Hid (decide (l=l2)=false):=decide_eq_false fun e=>hnn (by rw [← hn,← hn2,e])
   have hd : ((n : Int) != (n2 : Int))=true:=by simp;omega
   clear hn hn2
   go_enter Tryz.func166,Tryz.ntmps166
   go_wp2_with fail
   go_ret
   exact ⟨by rw [HE.out];rfl,Below.refl _ _⟩
end Go.Proofs.YtmpkejflgpodkaaGreatDoor
namespace Go.Proofs.YtmpkejflgpodkaaGreatDoor
open Go.ChangeShapes Go.WideShapes Go.ChangeAt Go.RowKit
def PredB (gf : Nat) (lb : Array Value) (l : List Rf) (p : Rf→Bool) (w : World) : Prop :=
 ∀ (W : World) (r : Rf),r∈l→Below w.heap.size w W→Calls Tryz.prog gf (#[.agg #[.int .i64 r.1,.int .i64 r.2]]++lb) W fun e w'=>e=.returned (.bool (p r))∧Below W.heap.size W w'
def idxP (p : Rf→Bool) (l : List Rf) : Int:=match l.findIdx? p with | some k=>(k : Int) | none=>-1
theorem idx_some (p : Rf→Bool) : ∀ {l : List Rf} {k : Nat} {x : Rf},l[k]?=some x→p x=true→(∀ y∈l.take k,p y=false)→l.findIdx? p=some k
 | [],_,_,h,_,_=>by simp at h
 | a::l,0,x,h,hp,_=>by
   simp only [List.getElem?_cons_zero,Option.some.injEq] at h
   subst h
   simp [List.findIdx?_cons,hp]
 | a::l,k+1,x,h,hp,hn=>by
   have ha : p a=false:=hn a (by simp)
   have ih:=idx_some p (l:=l) (k:=k) (x:=x) (by simpa using h) hp fun y hy=>hn y (by simp [hy])
   rw [List.findIdx?_cons,ha,ih]
   simp
theorem idx_none (p : Rf→Bool) {l : List Rf} (h : ∀ y∈l,p y=false) : l.findIdx? p=none:=List.findIdx?_eq_none_iff.2 h
theorem take_snoc_all {p : Rf→Bool} {l : List Rf} {k : Nat} {x : Rf} (hx : l[k]?=some x) (h : ∀ y∈l.take k,p y=false) (hp : p x=false) : ∀ y∈l.take (k+1),p y=false:=by
 intro y hy
 rw [List.take_add_one,hx] at hy
 rcases List.mem_append.1 hy with hy | hy
 · exact h y hy
 · simp at hy;rw [hy];exact hp
set_option maxHeartbeats 2000000 in
set_option maxRecDepth 20000 in
theorem indexF_any (l : List Rf) (A : Option Addr) (c : Nat) (w : World) (hr : Reads (fun k=>k < w.heap.size) w 2 A l.length (refC l)) (hl : l.length≤9223372036854775807) (gf : Nat) (lb : Array Value) (p : Rf→Bool)
 (eg : ∀ args w,(callFunc gf args).run Tryz.prog w=.ok (.enter gf args) w) (hp : PredB gf lb l p w) :
 Calls Tryz.prog 88 #[.slice A l.length c,.func (.func gf) #[] lb] w fun e w'=>e=.returned (.int .i64 (idxP p l))∧Below w.heap.size w w':=by
 obtain ⟨n,hn⟩ : ∃ n,l.length=n:=⟨_,rfl⟩
 have HN:=Lib.hid hn
 have HR:=Lib.hid hr
 have HP:=Lib.hid hp
 rw [hn] at hl ⊢
 clear hn hr hp
 go_enter Tryz.func88,Tryz.ntmps88
 go_wp2_with fail
 go_loopw [5,8] (fun _ s8 wr=>∃ k : Nat,s8=.int .i64 k∧k≤n∧Hid (∀ y∈l.take k,p y=false)∧Hid (Below w.heap.size w wr)) (fun _ s8 _=>n - (intOf s8).toNat)
 case atStart=>exact ⟨0,rfl,by omega,by show ∀ y∈_,_;simp,Below.refl _ _⟩
 case round =>
  obtain ⟨k,rfl,hk,HI,HW⟩:=hrel
  by_cases hlt : k < n
  · obtain ⟨b1,o1,rfl,-,hc1⟩:=(reads_below HR.out HW.out).at_ (by rw [HN.out];omega) (by omega)
    obtain ⟨x,hx⟩ : ∃ x,l[k]?=some x:=⟨_,List.getElem?_eq_getElem (by rw [HN.out];exact hlt)⟩
    have x1 : wr.cell? ⟨b1,o1+k*2,none⟩=some (.int .i64 x.1):=hc1 _ _ (refC_at hx).1
    have x2 : wr.cell? ⟨b1,o1+k*2+1,none⟩=some (.int .i64 x.2):=hc1 _ _ (refC_at hx).2
    have HX:=Lib.hid hx
    clear hc1 hx
    go_wp2_with fail
    refine (HP.out wr x (List.mem_of_getElem? HX.out) HW.out).mono ?_
    rintro e w2 ⟨rfl,hb⟩
    replace HW : Hid (Below w.heap.size w w2):=HW.out.trans (hb.mono HW.out.size)
    clear hb x1 x2
    cases hpx : p x with
    | true =>
      have HE : Hid (idxP p l=(k : Int)):=by show _=_;unfold idxP;rw [idx_some p HX.out hpx HI.out]
      clear hpx
      go_wp2_with fail
      go_ret
      exact ⟨by rw [HE.out];rfl,HW.out⟩
    | false =>
      have HI2 : Hid (∀ y∈l.take (k+1),p y=false):=take_snoc_all HX.out HI.out hpx
      clear hpx
      go_wp2_with fail
      go_roundw
      case rel=>exact ⟨k+1,by go_num,by omega,HI2,HW⟩
      case measure=>simp [intOf];omega
  · have HE : Hid (idxP p l=-1):=by show _=_;unfold idxP;rw [idx_none p (by have:=HI.out;rwa [List.take_of_length_le (by rw [HN.out];omega)] at this)]
    go_wp2_with fail
    go_ret
    exact ⟨by rw [HE.out];rfl,HW.out⟩
theorem idxP_nonneg (p : Rf→Bool) (l : List Rf) : decide (0≤idxP p l)=l.any p:=by
 unfold idxP
 cases h : l.findIdx? p with
 | none =>
   have h' : ∀ x∈l,p x=false:=List.findIdx?_eq_none_iff.1 h
   rw [show l.any p=false from List.any_eq_false.2 fun x hx=>by simp [h' x hx]]
   rfl
 | some k =>
   have h' : l.any p=true:=by
    cases ha : l.any p with
    | true=>rfl
    | false =>
      have:=List.findIdx?_eq_none_iff.2 (fun x hx=>by have:=List.any_eq_false.1 ha x hx;simpa using this)
      rw [h] at this;cases this
   rw [h']
   exact decide_eq_true (by show (0 : Int)≤(k : Int);omega)
set_option maxHeartbeats 2000000 in
theorem containsF_any (l : List Rf) (A : Option Addr) (c : Nat) (w : World) (hr : Reads (fun k=>k < w.heap.size) w 2 A l.length (refC l)) (hl : l.length≤9223372036854775807) (gf : Nat) (lb : Array Value) (p : Rf→Bool)
 (eg : ∀ args w,(callFunc gf args).run Tryz.prog w=.ok (.enter gf args) w) (hp : PredB gf lb l p w) :
 Calls Tryz.prog 90 #[.slice A l.length c,.func (.func gf) #[] lb] w fun e w'=>e=.returned (.bool (l.any p))∧Below w.heap.size w w':=by
 have C1:=indexF_any l A c w hr hl gf lb p eg hp
 have hi:=idxP_nonneg p l
 have hi' : decide (idxP p l ≥ 0)=l.any p:=hi
 generalize idxP p l=ix at C1 hi hi'
 generalize l.any p=ok at hi hi' ⊢
 clear hr hp eg
 go_enter Tryz.func90,Tryz.ntmps90
 go_wp2_with fail
 go_at_call 88
 refine C1.mono ?_
 rintro e w2 ⟨rfl,hb⟩
 go_wp2_with fail
 go_ret
 exact ⟨rfl,hb⟩
structure HB (w : World) (g bh : Nat) (V2 V3 : Value) (L : List ChD) : Prop where
 blk : Blk w g 162 #[.map (some bh),V2,V3]
 mh : HasL w bh L
theorem HB.below {w w' : World} {g bh : Nat} {V2 V3 : Value} {L : List ChD} (h : HB w g bh V2 V3 L) (hb : Below w.heap.size w w') : HB w' g bh V2 V3 L :=
 ⟨h.blk.keep (hb.block _ h.blk.lt),MapL.keep h.mh (hb.block _ (MapL.lt h.mh))⟩
set_option maxHeartbeats 2000000 in
theorem ready1_any (L : List ChD) (r : Rf) (hr : I64R r) (g bh q : Nat) (V2 V3 : Value) (w : World) (hB : HB w g bh V2 V3 L) (hq : w.cell? ⟨q,0,none⟩=some (.pointer (some ⟨g,0,none⟩))) (hql : q < w.heap.size) :
 Calls Tryz.prog 167 (#[.agg #[.int .i64 r.1,.int .i64 r.2]]++#[.pointer (some ⟨q,0,none⟩)]) w fun e w'=>e=.returned (.bool (!decide (r∈refsOf L)))∧Below w.heap.size w w':=by
 have hW : Below w.heap.size w (w.alloc (.cells #[.int .i64 r.1,.int .i64 r.2] 77)):=(Below.refl _ w).alloc (Nat.le_refl _) _
 have hQ:=Blk.new w 77 #[.int .i64 r.1,.int .i64 r.2]
 have HQ:=Lib.hid hQ
 have HW:=Lib.hid hW
 have HBB:=Lib.hid (hB.below hW)
 have q1 : (w.alloc (.cells #[.int .i64 r.1,.int .i64 r.2] 77)).cell? ⟨q,0,none⟩=some (.pointer (some ⟨g,0,none⟩)):=by rw [World.cell?_alloc_lt _ _ _ hql];exact hq
 clear hW hQ hB hq
 obtain ⟨ok,hok⟩ : ∃ ok,decide (r∈refsOf L)=ok:=⟨_,rfl⟩
 rw [hok]
 show Calls _ _ #[_,_] _ _
 go_enter Tryz.func167,Tryz.ntmps167
 go_wp2_with fail
 generalize w.alloc (.cells #[.int .i64 r.1,.int .i64 r.2] 77)=V at *
 have r1 : V.cell? ⟨w.heap.size,0,none⟩=some (.int .i64 r.1):=HQ.out.cell 0
 have r2 : V.cell? ⟨w.heap.size,1,none⟩=some (.int .i64 r.2):=HQ.out.cell 1
 have C1:=has_any L r hr g bh V2 V3 V HBB.out.blk HBB.out.mh
 rw [hok] at C1
 go_wp2_with fail
 go_at_call 85
 refine C1.mono ?_
 rintro e w2 ⟨rfl,hb⟩
 replace HW : Hid (Below w.heap.size w w2):=HW.out.trans (hb.mono HW.out.size)
 go_wp2_with fail
 go_ret
 exact ⟨rfl,HW.out⟩
theorem ready_eq (L : List ChD) (c : ChD) : (!c.deps.any fun d=>!decide (d∈refsOf L))=readyP L c:=by
 unfold readyP
 rw [List.not_any_eq_all_not]
 simp
set_option maxHeartbeats 2000000 in
theorem ready_any (L : List ChD) (c : ChD) (hd : ∀ d∈c.deps,I64R d) (g bh : Nat) (V2 V3 : Value) (w : World) (hB : HB w g bh V2 V3 L) (hc : ChIn (fun k=>k < w.heap.size) w c) :
 Calls Tryz.prog 128 #[.pointer (some ⟨g,0,none⟩),c.v] w fun e w'=>e=.returned (.bool (readyP L c))∧Below w.heap.size w w':=by
 have hW1 : Below w.heap.size w (w.alloc (.cells #[.pointer (some ⟨g,0,none⟩)] 119)):=(Below.refl _ w).alloc (Nat.le_refl _) _
 have hQ1:=Blk.new w 119 #[.pointer (some ⟨g,0,none⟩)]
 generalize hV1 : w.alloc (.cells #[.pointer (some ⟨g,0,none⟩)] 119)=V1 at hW1 hQ1
 have hs1 : V1.heap.size=w.heap.size+1:=by rw [← hV1];simp
 have hW2 : Below w.heap.size w (V1.alloc (.cells #[.int .i64 c.a,.int .i64 c.s,.int .i64 c.st,.slice c.DA c.deps.length c.DC,.slice c.OA c.ops.length c.OC] 82)):=hW1.alloc hW1.size _
 have hQ2:=Blk.new V1 82 #[.int .i64 c.a,.int .i64 c.s,.int .i64 c.st,.slice c.DA c.deps.length c.DC,.slice c.OA c.ops.length c.OC]
 have hQ3:=hQ1.keep (w':=V1.alloc (.cells #[.int .i64 c.a,.int .i64 c.s,.int .i64 c.st,.slice c.DA c.deps.length c.DC,.slice c.OA c.ops.length c.OC] 82)) (((Below.refl _ V1).alloc (Nat.le_refl _) _).block _ hQ1.lt)
 have HW:=Lib.hid hW2
 have HBB:=Lib.hid (hB.below hW2)
 have HC:=Lib.hid (hc.keep fun k hk=>hW2.block k hk)
 have HCD:=Lib.hid (reads_below hc.hd hW2)
 have hdl:=hc.hdl
 have he:=ready_eq L c
 rw [← he]
 obtain ⟨ok,hok⟩ : ∃ ok,(c.deps.any fun d=>!decide (d∈refsOf L))=ok:=⟨_,rfl⟩
 rw [hok]
 have EG : ∀ args w,(callFunc 167 args).run Tryz.prog w=.ok (.enter 167 args) w:=enters_of Tryz.func167 (by kernel_rfl) (Option.some_get (show Tryz.f167.body.isSome=true by kernel_rfl)).symm
 unfold ChD.v
 clear hB hc hW1 hW2
 go_enter Tryz.func128,Tryz.ntmps128
 go_wp2_with fail
 generalize hV2 : V1.alloc (.cells #[.int .i64 c.a,.int .i64 c.s,.int .i64 c.st,.slice c.DA c.deps.length c.DC,.slice c.OA c.ops.length c.OC] 82)=V2' at *
 have hqc : V2'.cell? ⟨w.heap.size,0,none⟩=some (.pointer (some ⟨g,0,none⟩)):=hQ3.cell 0
 have C1:=containsF_any c.deps c.DA c.DC V2' HCD.out hdl 167 #[.pointer (some ⟨w.heap.size,0,none⟩)] (fun d=>!decide (d∈refsOf L)) EG
  (fun W r hr hb=>ready1_any L r (hd r hr) g bh w.heap.size V2 V3 W (HBB.out.below hb) ((World.cell?_of_block (hb.block _ hQ3.lt)).trans hqc) (Nat.lt_of_lt_of_le hQ3.lt hb.size))
 rw [hok] at C1
 go_at_call 90
 refine C1.mono ?_
 rintro e w2 ⟨rfl,hb⟩
 replace HW : Hid (Below w.heap.size w w2):=HW.out.trans (hb.mono HW.out.size)
 go_wp2_with fail
 go_ret
 exact ⟨rfl,HW.out⟩
end Go.Proofs.YtmpkejflgpodkaaGreatDoor
namespace Go.Proofs.YtmpkejflgpodkaaGreatDoor
open Go.ChangeShapes Go.WideShapes Go.ChangeAt Go.RowKit
theorem opsC_set : ∀ (os : List OpD) (i : Nat) (o : OpD) (A : Option Addr) (c : Nat),os[i]?=some o→(opsC os).set (i*13+12) (.slice A o.l.length c)=opsC (os.set i { o with A:=A,c:=c })
 | [],i,o,A,c,h=>by simp at h
 | x::os,0,o,A,c,h=>by
   simp only [List.getElem?_cons_zero,Option.some.injEq] at h
   subst h
   rfl
 | x::os,i+1,o,A,c,h=>by
   have ih:=opsC_set os i o A c (by simpa using h)
   rw [show (i+1)*13+12=(i*13+12)+13 from by omega,List.set_cons_succ]
   show (opC x++opsC os).set _ _=opC x++opsC _
   rw [← ih,List.set_append]
   rw [if_neg (by simp [opC])]
   rw [show i*13+12+13 - (opC x).length=i*13+12 from by simp [opC]]
structure OpsUp (w0 w : World) (l os : List OpD) (i : Nat) (g : Nat) : Prop where
 len : os.length=l.length
 bs : os.map base=l.map base
 old : ∀ j,i≤j→os[j]?=l[j]?
 new_ : ∀ j o,j < i→os[j]?=some o→Reads (fun k=>w0.heap.size+2≤k∧k < w.heap.size∧k≠g) w 2 o.A o.l.length (refC o.l)
theorem map_set_base {os : List OpD} {i : Nat} {o : OpD} (h : os[i]?=some o) (A : Option Addr) (c : Nat) : (os.set i { o with A:=A,c:=c }).map base=os.map base:=by
 rw [List.map_set]
 refine List.ext_getElem? fun j=>?_
 rw [List.getElem?_set]
 split
 · rename_i hij
   subst hij
   obtain ⟨hi,he⟩:=List.getElem?_eq_some_iff.1 h
   rw [if_pos (by simpa using hi),List.getElem?_map,h]
   rfl
 · rfl
theorem OpsUp.step {w0 w w' : World} {l os : List OpD} {i g : Nat} (h : OpsUp w0 w l os i g) {o : OpD} (ho : os[i]?=some o) {A : Option Addr} {c : Nat} (hs : w.heap.size≤w'.heap.size)
 (hk : ∀ k,w0.heap.size+2≤k→k < w.heap.size→k≠g→w'.heap[k]?=w.heap[k]?) (hr : Reads (fun k=>w0.heap.size+2≤k∧k < w'.heap.size∧k≠g) w' 2 A o.l.length (refC o.l)) :
 OpsUp w0 w' l (os.set i { o with A:=A,c:=c }) (i+1) g:=by
 refine ⟨by rw [List.length_set];exact h.len,by rw [map_set_base ho];exact h.bs,fun j hj=>?_,fun j o' hj ho'=>?_⟩
 · rw [List.getElem?_set_ne (by omega)];exact h.old j (by omega)
 · by_cases hij : i=j
   · subst hij
     rw [List.getElem?_set_self (List.getElem?_eq_some_iff.1 ho).1] at ho'
     cases ho'
     exact hr
   · rw [List.getElem?_set_ne hij] at ho'
     exact ((h.new_ j o' (by omega) ho').keep fun k hk'=>hk k hk'.1 hk'.2.1 hk'.2.2).more fun k hk'=>⟨hk'.1,Nat.lt_of_lt_of_le hk'.2.1 hs,hk'.2.2⟩
set_option maxHeartbeats 4000000 in
set_option maxRecDepth 20000 in
theorem clone_any (c : ChD) (w : World) (hc : ChIn (fun k=>k < w.heap.size) w c) (h1 : c.deps.length≤1000000) (h2 : c.ops.length≤1000000) (h3 : ∀ o∈c.ops,o.l.length≤1000000) :
 Calls Tryz.prog 92 #[c.v] w fun e w'=>∃ c' : ChD,e=.returned c'.v∧c'.base=c.base∧ChIn (fun k=>w.heap.size≤k∧k < w'.heap.size) w' c'∧Below w.heap.size w w':=by
 have hres : Tryz.f92.results=#[.cell 2 82]:=by kernel_rfl
 have HC:=Lib.hid hc
 have HH:=Lib.hid h3
 have hQ1:=Blk.new w 82 #[.int .i64 c.a,.int .i64 c.s,.int .i64 c.st,.slice c.DA c.deps.length c.DC,.slice c.OA c.ops.length c.OC]
 have hW1 : Below w.heap.size w (w.alloc (.cells #[.int .i64 c.a,.int .i64 c.s,.int .i64 c.st,.slice c.DA c.deps.length c.DC,.slice c.OA c.ops.length c.OC] 82)):=(Below.refl _ w).alloc (Nat.le_refl _) _
 have hs1 : (w.alloc (.cells #[.int .i64 c.a,.int .i64 c.s,.int .i64 c.st,.slice c.DA c.deps.length c.DC,.slice c.OA c.ops.length c.OC] 82)).heap.size=w.heap.size+1:=by simp
 unfold ChD.v
 clear hc h3
 go_enter Tryz.func92,Tryz.ntmps92
 go_upto_region 1 with fail
 generalize w.alloc (.cells #[.int .i64 c.a,.int .i64 c.s,.int .i64 c.st,.slice c.DA c.deps.length c.DC,.slice c.OA c.ops.length c.OC] 82)=V1 at *
 have HQ : Hid (Blk (V1.alloc (.cells #[.int .i64 0,.int .i64 0,.int .i64 0,.slice none 0 0,.slice none 0 0] 82)) w.heap.size 82 #[.int .i64 c.a,.int .i64 c.s,.int .i64 c.st,.slice c.DA c.deps.length c.DC,.slice c.OA c.ops.length c.OC]):=hQ1.keep (((Below.refl _ V1).alloc (Nat.le_refl _) _).block _ hQ1.lt)
 have HQR : Hid (Blk (V1.alloc (.cells #[.int .i64 0,.int .i64 0,.int .i64 0,.slice none 0 0,.slice none 0 0] 82)) (w.heap.size+1) 82 #[.int .i64 0,.int .i64 0,.int .i64 0,.slice none 0 0,.slice none 0 0]):=by show Blk _ _ _ _;rw [← hs1];exact Blk.new V1 _ _
 have HW : Hid (Below w.heap.size w (V1.alloc (.cells #[.int .i64 0,.int .i64 0,.int .i64 0,.slice none 0 0,.slice none 0 0] 82))):=hW1.alloc hW1.size _
 clear hQ1 hW1
 generalize V1.alloc (.cells #[.int .i64 0,.int .i64 0,.int .i64 0,.slice none 0 0,.slice none 0 0] 82)=V at *
 have hsV : w.heap.size+1 < V.heap.size:=HQR.out.lt
 have c3 : V.cell? ⟨w.heap.size,3,none⟩=some (.slice c.DA c.deps.length c.DC):=HQ.out.cell 3
 have C1:=cloneR_any c.deps (fun k=>k < V.heap.size) c.DA c.DC V (reads_below HC.out.hd HW.out) (fun _ h=>h) h1
 go_wp2_with fail
 go_at_call 133
 refine C1.mono ?_
 rintro e w2 ⟨A1,k1,rfl,ho,hb⟩
 have HO1 : Hid (w2.ownsRow (w.heap.size+2) 77 2 (.slice A1 c.deps.length k1) c.deps.length (refC c.deps)):=own_base ho fun g hg=>by have:=(own_lt ho hg).1;omega
 replace HQ:=Lib.hid (HQ.out.keep (hb.block _ HQ.out.lt))
 replace HQR:=Lib.hid (HQR.out.keep (hb.block _ HQR.out.lt))
 replace HW : Hid (Below w.heap.size w w2):=HW.out.trans (hb.mono HW.out.size)
 have hs2 : w.heap.size+1 < w2.heap.size:=HQR.out.lt
 clear hb ho C1 c3 hsV hs1
 have t1 : w2.cell? ⟨w.heap.size,3,none⟩=some (.slice c.DA c.deps.length c.DC):=HQ.out.cell 3
 have t2 : w2.frozen? ⟨w.heap.size,3,none⟩=false:=HQ.out.frozen 3
 go_upto_region 2 with fail
 have HO2 : Hid ((w2.setCell ⟨w.heap.size,3,none⟩ (.slice A1 c.deps.length k1)).ownsRow (w.heap.size+2) 77 2 (.slice A1 c.deps.length k1) c.deps.length (refC c.deps)) :=
  own_keep HO1.out fun k hk=>Below.heap_setCell _ _ _ _ (by have:=(own_lt HO1.out hk).1;show k≠w.heap.size;omega)
 replace HQ : Hid (Blk (w2.setCell ⟨w.heap.size,3,none⟩ (.slice A1 c.deps.length k1)) w.heap.size 82 #[.int .i64 c.a,.int .i64 c.s,.int .i64 c.st,.slice A1 c.deps.length k1,.slice c.OA c.ops.length c.OC]):=HQ.out.set_ 3 _
 replace HQR:=Lib.hid (HQR.out.far (p:=⟨w.heap.size,3,none⟩) (by show w.heap.size+1≠w.heap.size;omega) (.slice A1 c.deps.length k1))
 replace HW : Hid (Below w.heap.size w (w2.setCell ⟨w.heap.size,3,none⟩ (.slice A1 c.deps.length k1))):=HW.out.setCell (Nat.le_refl _) _
 clear t1 t2 HO1 hs2
 generalize w2.setCell ⟨w.heap.size,3,none⟩ (.slice A1 c.deps.length k1)=V2 at HO2 HQ HQR HW ⊢
 have c4 : V2.cell? ⟨w.heap.size,4,none⟩=some (.slice c.OA c.ops.length c.OC):=HQ.out.cell 4
 have C2:=cloneO_any c.ops (fun k=>k < V2.heap.size) c.OA c.OC V2 (reads_below HC.out.ho HW.out) (fun _ h=>h) h2
 go_wp2_with fail
 go_at_call 134
 refine C2.mono ?_
 rintro e w3 ⟨A2,k2,rfl,ho,hb⟩
 have hsV : w.heap.size+1 < V2.heap.size:=HQR.out.lt
 have HO3 : Hid (w3.ownsRow (w.heap.size+2) 88 13 (.slice A2 c.ops.length k2) c.ops.length (opsC c.ops)):=own_base ho fun g hg=>by have:=(own_lt ho hg).1;omega
 have HNE : Hid (∀ k,(Value.slice A1 c.deps.length k1).ownBlock=some k→(Value.slice A2 c.ops.length k2).ownBlock≠some k):=fun k e e'=>by have:=(own_lt HO2.out e).2;have:=(own_lt ho e').1;omega
 replace HO2:=Lib.hid (own_below HO2.out hb)
 replace HQ:=Lib.hid (HQ.out.keep (hb.block _ HQ.out.lt))
 replace HQR:=Lib.hid (HQR.out.keep (hb.block _ HQR.out.lt))
 replace HW : Hid (Below w.heap.size w w3):=HW.out.trans (hb.mono HW.out.size)
 clear hb ho C2 c4 hsV
 have t1 : w3.cell? ⟨w.heap.size,4,none⟩=some (.slice c.OA c.ops.length c.OC):=HQ.out.cell 4
 have t2 : w3.frozen? ⟨w.heap.size,4,none⟩=false:=HQ.out.frozen 4
 go_upto_region 3 with fail
 have HO4 : Hid ((w3.setCell ⟨w.heap.size,4,none⟩ (.slice A2 c.ops.length k2)).ownsRow (w.heap.size+2) 88 13 (.slice A2 c.ops.length k2) c.ops.length (opsC c.ops)) :=
  own_keep HO3.out fun k hk=>Below.heap_setCell _ _ _ _ (by have:=(own_lt HO3.out hk).1;show k≠w.heap.size;omega)
 have HO5 : Hid ((w3.setCell ⟨w.heap.size,4,none⟩ (.slice A2 c.ops.length k2)).ownsRow (w.heap.size+2) 77 2 (.slice A1 c.deps.length k1) c.deps.length (refC c.deps)) :=
  own_keep HO2.out fun k hk=>Below.heap_setCell _ _ _ _ (by have:=(own_lt HO2.out hk).1;show k≠w.heap.size;omega)
 replace HQ : Hid (Blk (w3.setCell ⟨w.heap.size,4,none⟩ (.slice A2 c.ops.length k2)) w.heap.size 82 #[.int .i64 c.a,.int .i64 c.s,.int .i64 c.st,.slice A1 c.deps.length k1,.slice A2 c.ops.length k2]):=HQ.out.set_ 4 _
 replace HQR:=Lib.hid (HQR.out.far (p:=⟨w.heap.size,4,none⟩) (by show w.heap.size+1≠w.heap.size;omega) (.slice A2 c.ops.length k2))
 replace HW : Hid (Below w.heap.size w (w3.setCell ⟨w.heap.size,4,none⟩ (.slice A2 c.ops.length k2))):=HW.out.setCell (Nat.le_refl _) _
 clear t1 t2 HO2 HO3
 generalize w3.setCell ⟨w.heap.size,4,none⟩ (.slice A2 c.ops.length k2)=V3 at HO4 HO5 HQ HQR HW ⊢
 obtain ⟨n,hn⟩ : ∃ n,c.ops.length=n:=⟨_,rfl⟩
 have HN:=Lib.hid hn
 rw [hn] at HO4 HQ HNE h2
 rw [hn]
 clear hn
 obtain ⟨g2,hg2⟩ : ∃ g2,0 < n→A2=some ⟨g2,0,none⟩:=by
  rcases Nat.eq_zero_or_pos n with h | h
  · exact ⟨0,fun h'=>by omega⟩
  · obtain ⟨g2,_,hv,_⟩:=HO4.out.form h
    simp only [Value.slice.injEq] at hv
    exact ⟨g2,fun _=>hv.1⟩
 have HG2:=Lib.hid hg2
 clear hg2
 have c4 : V3.cell? ⟨w.heap.size,4,none⟩=some (.slice A2 n k2):=HQ.out.cell 4
 go_wp2_with fail
 clear c4
 go_loopw [3,15] (fun _ s15 wr=>∃ (i : Nat) (os : List OpD),s15=.int .i64 i∧i≤n∧Hid (OpsUp w wr c.ops os i g2)∧Hid (Blk wr w.heap.size 82 #[.int .i64 c.a,.int .i64 c.s,.int .i64 c.st,.slice A1 c.deps.length k1,.slice A2 n k2])∧Hid (Blk wr (w.heap.size+1) 82 #[.int .i64 0,.int .i64 0,.int .i64 0,.slice none 0 0,.slice none 0 0])∧Hid (wr.ownsRow (w.heap.size+2) 77 2 (.slice A1 c.deps.length k1) c.deps.length (refC c.deps))∧Hid (wr.ownsRow (w.heap.size+2) 88 13 (.slice A2 n k2) n (opsC os))∧Hid (Below w.heap.size w wr)) (fun _ s15 _=>n - (intOf s15).toNat)
 case atStart=>exact ⟨0,c.ops,rfl,by omega,⟨rfl,rfl,fun _ _=>rfl,fun j o hj=>by omega⟩,HQ,HQR,HO5,HO4,HW⟩
 case round =>
  clear HQ HQR HO5 HO4 HW
  obtain ⟨i,os,rfl,hi,HU,HQ,HQR,HO1,HO2,HW⟩:=hrel
  by_cases hlt : i < n
  · have ha:=HG2.out (by omega)
    subst ha
    obtain ⟨o,ho⟩ : ∃ o,c.ops[i]?=some o:=⟨_,List.getElem?_eq_getElem (by rw [HN.out];exact hlt)⟩
    have hos : os[i]?=some o:=by rw [HU.out.old i (Nat.le_refl _)];exact ho
    have hom:=List.mem_of_getElem? ho
    have HOI:=Lib.hid (HC.out.hp o hom)
    have hol:=HH.out o hom
    have HOS:=Lib.hid hos
    have hgb : w.heap.size+2≤g2∧g2 < wr.heap.size:=own_lt HO2.out (by simp [Value.ownBlock])
    have hql : w.heap.size < wr.heap.size:=HQ.out.lt
    have c4 : wr.cell? ⟨w.heap.size,4,none⟩=some (.slice (some ⟨g2,0,none⟩) n k2):=HQ.out.cell 4
    have e12 : wr.cell? ⟨g2,i*13+12,none⟩=some (.slice o.A o.l.length o.c):=by
     rw [World.ownsRow.cellAt HO2.out (i*13+12) (by omega),opsC_at hos 12 (by omega)];rfl
    have f12 : wr.frozen? ⟨g2,i*13+12,none⟩=false:=World.ownsRow.frozenAt HO2.out _
    have KS : ∀ V : World,Below wr.heap.size wr V→V.cell? ⟨w.heap.size,4,none⟩=some (.slice (some ⟨g2,0,none⟩) n k2)∧V.frozen? ⟨g2,i*13+12,none⟩=false:=fun V hv =>
     ⟨(World.cell?_of_block (hv.block _ hql)).trans c4,(World.frozen?_of_block (hv.block _ hgb.2)).trans f12⟩
    have C3:=cloneI_any o.l (fun k=>k < wr.drew.heap.size) o.A o.c wr.drew (reads_below HOI.out.1 HW.out.drew) (fun _ h=>h) hol
    have hd0 : decide (0≤(i : Int))=true:=decide_eq_true (by omega)
    have hd1 : decide ((i : Int) < (n : Int))=true:=decide_eq_true (by omega)
    clear ho hos hom
    go_wp2_with fail
    refine wp_region_any (by kernel_rfl) ?_
    change wpAny _ _ _ _ _ _ _ (World.drew _)
    refine wpAny_take (i:=0) (v:=?_) rfl (by kernel_rfl) (by kernel_rfl) (by kernel_rfl) (fun _ _ _ h=>h) (Or.inl ⟨by rfl,?_⟩) ?_
    rotate_left
    · (intro w;go_simp;try with_reducible rfl)
    try simp only [Act.put,List.setIfInBounds_toArray,List.set_cons_zero,List.set_cons_succ]
    refine wpAny_take (i:=2) (v:=?_) rfl (by kernel_rfl) (by kernel_rfl) (by kernel_rfl) (fun _ _ _ h=>h) (Or.inl ⟨by rfl,?_⟩) ?_
    rotate_left
    · (intro w;go_simp;try with_reducible rfl)
    try simp only [Act.put,List.setIfInBounds_toArray,List.set_cons_zero,List.set_cons_succ]
    refine wpAny_take (i:=3) (v:=?_) rfl (by kernel_rfl) (by kernel_rfl) (by kernel_rfl) (fun _ _ _ h=>h) (Or.inl ⟨by rfl,?_⟩) ?_
    rotate_left
    · (intro w;go_simp;try with_reducible rfl)
    try simp only [Act.put,List.setIfInBounds_toArray,List.set_cons_zero,List.set_cons_succ]
    refine wpAny_take (i:=5) (v:=?_) rfl (by kernel_rfl) (by kernel_rfl) (by kernel_rfl) (fun _ _ _ h=>h) (Or.inl ⟨by rfl,?_⟩) ?_
    rotate_left
    · (intro w;go_simp;try with_reducible rfl)
    try simp only [Act.put,List.setIfInBounds_toArray,List.set_cons_zero,List.set_cons_succ]
    refine wpAny_ready (rs:=[1,4]) (by kernel_rfl) (by simp) ?_
    refine AllReady.cons rfl (fun K hK=>?_) (AllReady.cons rfl (fun K hK=>?_) AllReady.nil)
    · skip
      go_simp
      refine hK _ _ ?_
      clear hK K
      try simp only [Act.put,List.setIfInBounds_toArray,List.set_cons_zero,List.set_cons_succ]
      refine wpAny_ready (rs:=[4]) (by kernel_rfl) (by simp) ?_
      refine AllReady.cons rfl (fun K hK=>?_) AllReady.nil
      go_simp
      refine hK _ _ ?_
      clear hK K
      try simp only [Act.put,List.setIfInBounds_toArray,List.set_cons_zero,List.set_cons_succ]
      refine wpAny_take (i:=6) (v:=?_) rfl (by kernel_rfl) (by kernel_rfl) (by kernel_rfl) (fun _ _ _ h=>h) (Or.inl ⟨by rfl,?_⟩) ?_
      rotate_left
      · (intro w;go_simp;try with_reducible rfl)
      try simp only [Act.put,List.setIfInBounds_toArray,List.set_cons_zero,List.set_cons_succ]
      refine wpAny_take (i:=7) (v:=?_) rfl (by kernel_rfl) (by kernel_rfl) (by kernel_rfl) (fun _ _ _ h=>h) (Or.inl ⟨by rfl,?_⟩) ?_
      rotate_left
      · (intro w;go_simp;try with_reducible rfl)
      try simp only [Act.put,List.setIfInBounds_toArray,List.set_cons_zero,List.set_cons_succ]
      refine wpAny_ready (rs:=[8]) (by kernel_rfl) (by simp) ?_
      refine AllReady.cons rfl (fun K hK=>?_) AllReady.nil
      go_simp
      refine hK _ _ ?_
      clear hK K
      try simp only [Act.put,List.setIfInBounds_toArray,List.set_cons_zero,List.set_cons_succ]
      refine wpAny_ready (rs:=[9]) (by kernel_rfl) (by simp) ?_
      refine AllReady.cons rfl (fun K hK=>?_) AllReady.nil
      go_simp
      refine C3.mono ?_
      rintro e w7 ⟨A7,k7,rfl,ho7,hb7⟩
      obtain ⟨q1,q3⟩:=KS w7 ((Below.refl _ wr).drew.trans hb7)
      have q2 : w7.cell? ⟨g2,i*13+12,none⟩=some (.slice o.A o.l.length o.c):=(World.cell?_of_block (w:=wr) (((Below.refl _ wr).drew.trans hb7).block _ hgb.2)).trans e12
      refine hK _ _ ?_
      clear hK K
      try simp only [Act.put,List.setIfInBounds_toArray,List.set_cons_zero,List.set_cons_succ]
      refine wpAny_take (i:=10) (v:=?_) rfl (by kernel_rfl) (by kernel_rfl) (by kernel_rfl) (fun _ _ _ h=>h) (Or.inl ⟨by rfl,?_⟩) ?_
      rotate_left
      · (intro w;go_simp;try with_reducible rfl)
      try simp only [Act.put,List.setIfInBounds_toArray,List.set_cons_zero,List.set_cons_succ]
      refine wpAny_take (i:=11) (v:=?_) rfl (by kernel_rfl) (by kernel_rfl) (by kernel_rfl) (fun _ _ _ h=>h) (Or.inl ⟨by rfl,?_⟩) ?_
      rotate_left
      · (intro w;go_simp;try with_reducible rfl)
      try simp only [Act.put,List.setIfInBounds_toArray,List.set_cons_zero,List.set_cons_succ]
      refine wpAny_ready (rs:=[12]) (by kernel_rfl) (by simp) ?_
      refine AllReady.cons rfl (fun K hK=>?_) AllReady.nil
      go_simp
      refine hK _ _ ?_
      clear hK K
      try simp only [Act.put,List.setIfInBounds_toArray,List.set_cons_zero,List.set_cons_succ]
      refine wpAny_done (by kernel_rfl) ?_ _
      have hb8 : Below wr.heap.size wr w7:=(Below.refl _ wr).drew.trans hb7
      have hne : w.heap.size≠g2∧w.heap.size+1≠g2:=by omega
      have hsz : (w7.setCell ⟨g2,i*13+12,none⟩ (.slice A7 o.l.length k7)).heap.size=w7.heap.size:=by simp
      have HU2 : Hid (OpsUp w (w7.setCell ⟨g2,i*13+12,none⟩ (.slice A7 o.l.length k7)) c.ops (os.set i { o with A:=A7,c:=k7 }) (i+1) g2):=by
       refine HU.out.step HOS.out (by rw [hsz];exact hb8.size) (fun k _ h2 h3=>(Below.heap_setCell _ _ _ _ h3).trans (hb8.block k h2)) ?_
       obtain ⟨A',c',hv,-,-,hr⟩:=Reads.of_own ho7
       simp only [Value.slice.injEq,true_and] at hv
       obtain ⟨rfl,rfl⟩:=hv
       have hbd : ∀ k,(Value.slice A7 o.l.length k7).ownBlock=some k→wr.heap.size≤k∧k < w7.heap.size:=fun k hk=>own_lt ho7 hk
       refine (hr.keep fun k hk=>Below.heap_setCell _ _ _ _ (by have:=hbd k hk;show k≠g2;omega)).more fun k hk=>?_
       have:=hbd k hk
       rw [hsz]
       have:=HQR.out.lt
       exact ⟨by omega,by omega,by omega⟩
      have HQ2:=Lib.hid ((HQ.out.keep (hb8.block _ HQ.out.lt)).far (p:=⟨g2,i*13+12,none⟩) hne.1 (.slice A7 o.l.length k7))
      have HQR2:=Lib.hid ((HQR.out.keep (hb8.block _ HQR.out.lt)).far (p:=⟨g2,i*13+12,none⟩) hne.2 (.slice A7 o.l.length k7))
      have HO3 : Hid ((w7.setCell ⟨g2,i*13+12,none⟩ (.slice A7 o.l.length k7)).ownsRow (w.heap.size+2) 77 2 (.slice A1 c.deps.length k1) c.deps.length (refC c.deps)) :=
       own_keep (own_below HO1.out hb8) fun k hk=>Below.heap_setCell _ _ _ _ fun e=>HNE.out k hk (by rw [show k=g2 from e];simp [Value.ownBlock])
      have HO4 : Hid ((w7.setCell ⟨g2,i*13+12,none⟩ (.slice A7 o.l.length k7)).ownsRow (w.heap.size+2) 88 13 (.slice (some ⟨g2,0,none⟩) n k2) n (opsC (os.set i { o with A:=A7,c:=k7 }))):=by
       show World.ownsRow _ _ _ _ _ _ _
       rw [← opsC_set os i o A7 k7 HOS.out]
       exact ((own_below HO2.out hb8).stored (i*13+12) _).1
      have HW2 : Hid (Below w.heap.size w (w7.setCell ⟨g2,i*13+12,none⟩ (.slice A7 o.l.length k7))):=(HW.out.trans (hb8.mono HW.out.size)).setCell (by show w.heap.size≤g2;omega) _
      clear q1 q2 q3 KS C3 c4 e12 f12 ho7 hb7 hb8 hsz
      go_wp2_with fail
      first
       | exact ⟨⟨i+1,_,by go_num,by omega,HU2,HQ2,HQR2,HO3,HO4,HW2⟩,by simp [intOf];omega⟩
       | (go_roundw
          case rel=>exact ⟨i+1,_,by go_num,by omega,HU2,HQ2,HQR2,HO3,HO4,HW2⟩
          case measure=>simp [intOf];omega)
    · skip
      go_simp
      refine hK _ _ ?_
      clear hK K
      try simp only [Act.put,List.setIfInBounds_toArray,List.set_cons_zero,List.set_cons_succ]
      refine wpAny_take (i:=6) (v:=?_) rfl (by kernel_rfl) (by kernel_rfl) (by kernel_rfl) (fun _ _ _ h=>h) (Or.inl ⟨by rfl,?_⟩) ?_
      rotate_left
      · (intro w;go_simp;try with_reducible rfl)
      try simp only [Act.put,List.setIfInBounds_toArray,List.set_cons_zero,List.set_cons_succ]
      refine wpAny_take (i:=7) (v:=?_) rfl (by kernel_rfl) (by kernel_rfl) (by kernel_rfl) (fun _ _ _ h=>h) (Or.inl ⟨by rfl,?_⟩) ?_
      rotate_left
      · (intro w;go_simp;try with_reducible rfl)
      try simp only [Act.put,List.setIfInBounds_toArray,List.set_cons_zero,List.set_cons_succ]
      refine wpAny_ready (rs:=[1,8]) (by kernel_rfl) (by simp) ?_
      refine AllReady.cons rfl (fun K hK=>?_) (AllReady.cons rfl (fun K hK=>?_) AllReady.nil)
      · skip
        go_simp
        refine hK _ _ ?_
        clear hK K
        try simp only [Act.put,List.setIfInBounds_toArray,List.set_cons_zero,List.set_cons_succ]
        refine wpAny_ready (rs:=[8]) (by kernel_rfl) (by simp) ?_
        refine AllReady.cons rfl (fun K hK=>?_) AllReady.nil
        go_simp
        refine hK _ _ ?_
        clear hK K
        try simp only [Act.put,List.setIfInBounds_toArray,List.set_cons_zero,List.set_cons_succ]
        refine wpAny_ready (rs:=[9]) (by kernel_rfl) (by simp) ?_
        refine AllReady.cons rfl (fun K hK=>?_) AllReady.nil
        go_simp
        refine C3.mono ?_
        rintro e w7 ⟨A7,k7,rfl,ho7,hb7⟩
        obtain ⟨q1,q3⟩:=KS w7 ((Below.refl _ wr).drew.trans hb7)
        have q2 : w7.cell? ⟨g2,i*13+12,none⟩=some (.slice o.A o.l.length o.c):=(World.cell?_of_block (w:=wr) (((Below.refl _ wr).drew.trans hb7).block _ hgb.2)).trans e12
        refine hK _ _ ?_
        clear hK K
        try simp only [Act.put,List.setIfInBounds_toArray,List.set_cons_zero,List.set_cons_succ]
        refine wpAny_take (i:=10) (v:=?_) rfl (by kernel_rfl) (by kernel_rfl) (by kernel_rfl) (fun _ _ _ h=>h) (Or.inl ⟨by rfl,?_⟩) ?_
        rotate_left
        · (intro w;go_simp;try with_reducible rfl)
        try simp only [Act.put,List.setIfInBounds_toArray,List.set_cons_zero,List.set_cons_succ]
        refine wpAny_take (i:=11) (v:=?_) rfl (by kernel_rfl) (by kernel_rfl) (by kernel_rfl) (fun _ _ _ h=>h) (Or.inl ⟨by rfl,?_⟩) ?_
        rotate_left
        · (intro w;go_simp;try with_reducible rfl)
        try simp only [Act.put,List.setIfInBounds_toArray,List.set_cons_zero,List.set_cons_succ]
        refine wpAny_ready (rs:=[12]) (by kernel_rfl) (by simp) ?_
        refine AllReady.cons rfl (fun K hK=>?_) AllReady.nil
        go_simp
        refine hK _ _ ?_
        clear hK K
        try simp only [Act.put,List.setIfInBounds_toArray,List.set_cons_zero,List.set_cons_succ]
        refine wpAny_done (by kernel_rfl) ?_ _
        have hb8 : Below wr.heap.size wr w7:=(Below.refl _ wr).drew.trans hb7
        have hne : w.heap.size≠g2∧w.heap.size+1≠g2:=by omega
        have hsz : (w7.setCell ⟨g2,i*13+12,none⟩ (.slice A7 o.l.length k7)).heap.size=w7.heap.size:=by simp
        have HU2 : Hid (OpsUp w (w7.setCell ⟨g2,i*13+12,none⟩ (.slice A7 o.l.length k7)) c.ops (os.set i { o with A:=A7,c:=k7 }) (i+1) g2):=by
         refine HU.out.step HOS.out (by rw [hsz];exact hb8.size) (fun k _ h2 h3=>(Below.heap_setCell _ _ _ _ h3).trans (hb8.block k h2)) ?_
         obtain ⟨A',c',hv,-,-,hr⟩:=Reads.of_own ho7
         simp only [Value.slice.injEq,true_and] at hv
         obtain ⟨rfl,rfl⟩:=hv
         have hbd : ∀ k,(Value.slice A7 o.l.length k7).ownBlock=some k→wr.heap.size≤k∧k < w7.heap.size:=fun k hk=>own_lt ho7 hk
         refine (hr.keep fun k hk=>Below.heap_setCell _ _ _ _ (by have:=hbd k hk;show k≠g2;omega)).more fun k hk=>?_
         have:=hbd k hk
         rw [hsz]
         have:=HQR.out.lt
         exact ⟨by omega,by omega,by omega⟩
        have HQ2:=Lib.hid ((HQ.out.keep (hb8.block _ HQ.out.lt)).far (p:=⟨g2,i*13+12,none⟩) hne.1 (.slice A7 o.l.length k7))
        have HQR2:=Lib.hid ((HQR.out.keep (hb8.block _ HQR.out.lt)).far (p:=⟨g2,i*13+12,none⟩) hne.2 (.slice A7 o.l.length k7))
        have HO3 : Hid ((w7.setCell ⟨g2,i*13+12,none⟩ (.slice A7 o.l.length k7)).ownsRow (w.heap.size+2) 77 2 (.slice A1 c.deps.length k1) c.deps.length (refC c.deps)) :=
         own_keep (own_below HO1.out hb8) fun k hk=>Below.heap_setCell _ _ _ _ fun e=>HNE.out k hk (by rw [show k=g2 from e];simp [Value.ownBlock])
        have HO4 : Hid ((w7.setCell ⟨g2,i*13+12,none⟩ (.slice A7 o.l.length k7)).ownsRow (w.heap.size+2) 88 13 (.slice (some ⟨g2,0,none⟩) n k2) n (opsC (os.set i { o with A:=A7,c:=k7 }))):=by
         show World.ownsRow _ _ _ _ _ _ _
         rw [← opsC_set os i o A7 k7 HOS.out]
         exact ((own_below HO2.out hb8).stored (i*13+12) _).1
        have HW2 : Hid (Below w.heap.size w (w7.setCell ⟨g2,i*13+12,none⟩ (.slice A7 o.l.length k7))):=(HW.out.trans (hb8.mono HW.out.size)).setCell (by show w.heap.size≤g2;omega) _
        clear q1 q2 q3 KS C3 c4 e12 f12 ho7 hb7 hb8 hsz
        go_wp2_with fail
        first
         | exact ⟨⟨i+1,_,by go_num,by omega,HU2,HQ2,HQR2,HO3,HO4,HW2⟩,by simp [intOf];omega⟩
         | (go_roundw
            case rel=>exact ⟨i+1,_,by go_num,by omega,HU2,HQ2,HQR2,HO3,HO4,HW2⟩
            case measure=>simp [intOf];omega)
      · skip
        go_simp
        refine hK _ _ ?_
        clear hK K
        try simp only [Act.put,List.setIfInBounds_toArray,List.set_cons_zero,List.set_cons_succ]
        refine wpAny_ready (rs:=[1,9]) (by kernel_rfl) (by simp) ?_
        refine AllReady.cons rfl (fun K hK=>?_) (AllReady.cons rfl (fun K hK=>?_) AllReady.nil)
        · skip
          go_simp
          refine hK _ _ ?_
          clear hK K
          try simp only [Act.put,List.setIfInBounds_toArray,List.set_cons_zero,List.set_cons_succ]
          refine wpAny_ready (rs:=[9]) (by kernel_rfl) (by simp) ?_
          refine AllReady.cons rfl (fun K hK=>?_) AllReady.nil
          go_simp
          refine C3.mono ?_
          rintro e w7 ⟨A7,k7,rfl,ho7,hb7⟩
          obtain ⟨q1,q3⟩:=KS w7 ((Below.refl _ wr).drew.trans hb7)
          have q2 : w7.cell? ⟨g2,i*13+12,none⟩=some (.slice o.A o.l.length o.c):=(World.cell?_of_block (w:=wr) (((Below.refl _ wr).drew.trans hb7).block _ hgb.2)).trans e12
          refine hK _ _ ?_
          clear hK K
          try simp only [Act.put,List.setIfInBounds_toArray,List.set_cons_zero,List.set_cons_succ]
          refine wpAny_take (i:=10) (v:=?_) rfl (by kernel_rfl) (by kernel_rfl) (by kernel_rfl) (fun _ _ _ h=>h) (Or.inl ⟨by rfl,?_⟩) ?_
          rotate_left
          · (intro w;go_simp;try with_reducible rfl)
          try simp only [Act.put,List.setIfInBounds_toArray,List.set_cons_zero,List.set_cons_succ]
          refine wpAny_take (i:=11) (v:=?_) rfl (by kernel_rfl) (by kernel_rfl) (by kernel_rfl) (fun _ _ _ h=>h) (Or.inl ⟨by rfl,?_⟩) ?_
          rotate_left
          · (intro w;go_simp;try with_reducible rfl)
          try simp only [Act.put,List.setIfInBounds_toArray,List.set_cons_zero,List.set_cons_succ]
          refine wpAny_ready (rs:=[12]) (by kernel_rfl) (by simp) ?_
          refine AllReady.cons rfl (fun K hK=>?_) AllReady.nil
          go_simp
          refine hK _ _ ?_
          clear hK K
          try simp only [Act.put,List.setIfInBounds_toArray,List.set_cons_zero,List.set_cons_succ]
          refine wpAny_done (by kernel_rfl) ?_ _
          have hb8 : Below wr.heap.size wr w7:=(Below.refl _ wr).drew.trans hb7
          have hne : w.heap.size≠g2∧w.heap.size+1≠g2:=by omega
          have hsz : (w7.setCell ⟨g2,i*13+12,none⟩ (.slice A7 o.l.length k7)).heap.size=w7.heap.size:=by simp
          have HU2 : Hid (OpsUp w (w7.setCell ⟨g2,i*13+12,none⟩ (.slice A7 o.l.length k7)) c.ops (os.set i { o with A:=A7,c:=k7 }) (i+1) g2):=by
           refine HU.out.step HOS.out (by rw [hsz];exact hb8.size) (fun k _ h2 h3=>(Below.heap_setCell _ _ _ _ h3).trans (hb8.block k h2)) ?_
           obtain ⟨A',c',hv,-,-,hr⟩:=Reads.of_own ho7
           simp only [Value.slice.injEq,true_and] at hv
           obtain ⟨rfl,rfl⟩:=hv
           have hbd : ∀ k,(Value.slice A7 o.l.length k7).ownBlock=some k→wr.heap.size≤k∧k < w7.heap.size:=fun k hk=>own_lt ho7 hk
           refine (hr.keep fun k hk=>Below.heap_setCell _ _ _ _ (by have:=hbd k hk;show k≠g2;omega)).more fun k hk=>?_
           have:=hbd k hk
           rw [hsz]
           have:=HQR.out.lt
           exact ⟨by omega,by omega,by omega⟩
          have HQ2:=Lib.hid ((HQ.out.keep (hb8.block _ HQ.out.lt)).far (p:=⟨g2,i*13+12,none⟩) hne.1 (.slice A7 o.l.length k7))
          have HQR2:=Lib.hid ((HQR.out.keep (hb8.block _ HQR.out.lt)).far (p:=⟨g2,i*13+12,none⟩) hne.2 (.slice A7 o.l.length k7))
          have HO3 : Hid ((w7.setCell ⟨g2,i*13+12,none⟩ (.slice A7 o.l.length k7)).ownsRow (w.heap.size+2) 77 2 (.slice A1 c.deps.length k1) c.deps.length (refC c.deps)) :=
           own_keep (own_below HO1.out hb8) fun k hk=>Below.heap_setCell _ _ _ _ fun e=>HNE.out k hk (by rw [show k=g2 from e];simp [Value.ownBlock])
          have HO4 : Hid ((w7.setCell ⟨g2,i*13+12,none⟩ (.slice A7 o.l.length k7)).ownsRow (w.heap.size+2) 88 13 (.slice (some ⟨g2,0,none⟩) n k2) n (opsC (os.set i { o with A:=A7,c:=k7 }))):=by
           show World.ownsRow _ _ _ _ _ _ _
           rw [← opsC_set os i o A7 k7 HOS.out]
           exact ((own_below HO2.out hb8).stored (i*13+12) _).1
          have HW2 : Hid (Below w.heap.size w (w7.setCell ⟨g2,i*13+12,none⟩ (.slice A7 o.l.length k7))):=(HW.out.trans (hb8.mono HW.out.size)).setCell (by show w.heap.size≤g2;omega) _
          clear q1 q2 q3 KS C3 c4 e12 f12 ho7 hb7 hb8 hsz
          go_wp2_with fail
          first
           | exact ⟨⟨i+1,_,by go_num,by omega,HU2,HQ2,HQR2,HO3,HO4,HW2⟩,by simp [intOf];omega⟩
           | (go_roundw
              case rel=>exact ⟨i+1,_,by go_num,by omega,HU2,HQ2,HQR2,HO3,HO4,HW2⟩
              case measure=>simp [intOf];omega)
        · skip
          go_simp
          refine C3.mono ?_
          rintro e w7 ⟨A7,k7,rfl,ho7,hb7⟩
          obtain ⟨q1,q3⟩:=KS w7 ((Below.refl _ wr).drew.trans hb7)
          have q2 : w7.cell? ⟨g2,i*13+12,none⟩=some (.slice o.A o.l.length o.c):=(World.cell?_of_block (w:=wr) (((Below.refl _ wr).drew.trans hb7).block _ hgb.2)).trans e12
          refine hK _ _ ?_
          clear hK K
          try simp only [Act.put,List.setIfInBounds_toArray,List.set_cons_zero,List.set_cons_succ]
          refine wpAny_ready (rs:=[1]) (by kernel_rfl) (by simp) ?_
          refine AllReady.cons rfl (fun K hK=>?_) AllReady.nil
          go_simp
          refine hK _ _ ?_
          clear hK K
          try simp only [Act.put,List.setIfInBounds_toArray,List.set_cons_zero,List.set_cons_succ]
          refine wpAny_take (i:=10) (v:=?_) rfl (by kernel_rfl) (by kernel_rfl) (by kernel_rfl) (fun _ _ _ h=>h) (Or.inl ⟨by rfl,?_⟩) ?_
          rotate_left
          · (intro w;go_simp;try with_reducible rfl)
          try simp only [Act.put,List.setIfInBounds_toArray,List.set_cons_zero,List.set_cons_succ]
          refine wpAny_take (i:=11) (v:=?_) rfl (by kernel_rfl) (by kernel_rfl) (by kernel_rfl) (fun _ _ _ h=>h) (Or.inl ⟨by rfl,?_⟩) ?_
          rotate_left
          · (intro w;go_simp;try with_reducible rfl)
          try simp only [Act.put,List.setIfInBounds_toArray,List.set_cons_zero,List.set_cons_succ]
          refine wpAny_ready (rs:=[12]) (by kernel_rfl) (by simp) ?_
          refine AllReady.cons rfl (fun K hK=>?_) AllReady.nil
          go_simp
          refine hK _ _ ?_
          clear hK K
          try simp only [Act.put,List.setIfInBounds_toArray,List.set_cons_zero,List.set_cons_succ]
          refine wpAny_done (by kernel_rfl) ?_ _
          have hb8 : Below wr.heap.size wr w7:=(Below.refl _ wr).drew.trans hb7
          have hne : w.heap.size≠g2∧w.heap.size+1≠g2:=by omega
          have hsz : (w7.setCell ⟨g2,i*13+12,none⟩ (.slice A7 o.l.length k7)).heap.size=w7.heap.size:=by simp
          have HU2 : Hid (OpsUp w (w7.setCell ⟨g2,i*13+12,none⟩ (.slice A7 o.l.length k7)) c.ops (os.set i { o with A:=A7,c:=k7 }) (i+1) g2):=by
           refine HU.out.step HOS.out (by rw [hsz];exact hb8.size) (fun k _ h2 h3=>(Below.heap_setCell _ _ _ _ h3).trans (hb8.block k h2)) ?_
           obtain ⟨A',c',hv,-,-,hr⟩:=Reads.of_own ho7
           simp only [Value.slice.injEq,true_and] at hv
           obtain ⟨rfl,rfl⟩:=hv
           have hbd : ∀ k,(Value.slice A7 o.l.length k7).ownBlock=some k→wr.heap.size≤k∧k < w7.heap.size:=fun k hk=>own_lt ho7 hk
           refine (hr.keep fun k hk=>Below.heap_setCell _ _ _ _ (by have:=hbd k hk;show k≠g2;omega)).more fun k hk=>?_
           have:=hbd k hk
           rw [hsz]
           have:=HQR.out.lt
           exact ⟨by omega,by omega,by omega⟩
          have HQ2:=Lib.hid ((HQ.out.keep (hb8.block _ HQ.out.lt)).far (p:=⟨g2,i*13+12,none⟩) hne.1 (.slice A7 o.l.length k7))
          have HQR2:=Lib.hid ((HQR.out.keep (hb8.block _ HQR.out.lt)).far (p:=⟨g2,i*13+12,none⟩) hne.2 (.slice A7 o.l.length k7))
          have HO3 : Hid ((w7.setCell ⟨g2,i*13+12,none⟩ (.slice A7 o.l.length k7)).ownsRow (w.heap.size+2) 77 2 (.slice A1 c.deps.length k1) c.deps.length (refC c.deps)) :=
           own_keep (own_below HO1.out hb8) fun k hk=>Below.heap_setCell _ _ _ _ fun e=>HNE.out k hk (by rw [show k=g2 from e];simp [Value.ownBlock])
          have HO4 : Hid ((w7.setCell ⟨g2,i*13+12,none⟩ (.slice A7 o.l.length k7)).ownsRow (w.heap.size+2) 88 13 (.slice (some ⟨g2,0,none⟩) n k2) n (opsC (os.set i { o with A:=A7,c:=k7 }))):=by
           show World.ownsRow _ _ _ _ _ _ _
           rw [← opsC_set os i o A7 k7 HOS.out]
           exact ((own_below HO2.out hb8).stored (i*13+12) _).1
          have HW2 : Hid (Below w.heap.size w (w7.setCell ⟨g2,i*13+12,none⟩ (.slice A7 o.l.length k7))):=(HW.out.trans (hb8.mono HW.out.size)).setCell (by show w.heap.size≤g2;omega) _
          clear q1 q2 q3 KS C3 c4 e12 f12 ho7 hb7 hb8 hsz
          go_wp2_with fail
          first
           | exact ⟨⟨i+1,_,by go_num,by omega,HU2,HQ2,HQR2,HO3,HO4,HW2⟩,by simp [intOf];omega⟩
           | (go_roundw
              case rel=>exact ⟨i+1,_,by go_num,by omega,HU2,HQ2,HQR2,HO3,HO4,HW2⟩
              case measure=>simp [intOf];omega)
  · have hin : i=n:=by omega
    have HOL : Hid (os.length=n):=by show _=_;rw [HU.out.len,HN.out]
    have c0 : wr.cell? ⟨w.heap.size,0,none⟩=some (.int .i64 c.a):=HQ.out.cell 0
    have c1 : wr.cell? ⟨w.heap.size,1,none⟩=some (.int .i64 c.s):=HQ.out.cell 1
    have c2 : wr.cell? ⟨w.heap.size,2,none⟩=some (.int .i64 c.st):=HQ.out.cell 2
    have c3 : wr.cell? ⟨w.heap.size,3,none⟩=some (.slice A1 c.deps.length k1):=HQ.out.cell 3
    have c4 : wr.cell? ⟨w.heap.size,4,none⟩=some (.slice A2 n k2):=HQ.out.cell 4
    have r0 : wr.cell? ⟨w.heap.size+1,0,none⟩=some (.int .i64 0):=HQR.out.cell 0
    have r1 : wr.cell? ⟨w.heap.size+1,1,none⟩=some (.int .i64 0):=HQR.out.cell 1
    have r2 : wr.cell? ⟨w.heap.size+1,2,none⟩=some (.int .i64 0):=HQR.out.cell 2
    have r3 : wr.cell? ⟨w.heap.size+1,3,none⟩=some (.slice none 0 0):=HQR.out.cell 3
    have r4 : wr.cell? ⟨w.heap.size+1,4,none⟩=some (.slice none 0 0):=HQR.out.cell 4
    have f0 : wr.frozen? ⟨w.heap.size+1,0,none⟩=false:=HQR.out.frozen 0
    have f1 : wr.frozen? ⟨w.heap.size+1,1,none⟩=false:=HQR.out.frozen 1
    have f2 : wr.frozen? ⟨w.heap.size+1,2,none⟩=false:=HQR.out.frozen 2
    have f3 : wr.frozen? ⟨w.heap.size+1,3,none⟩=false:=HQR.out.frozen 3
    have f4 : wr.frozen? ⟨w.heap.size+1,4,none⟩=false:=HQR.out.frozen 4
    go_wp2_with fail
    have HF : Hid (Blk (((((wr.setCell ⟨w.heap.size+1,0,none⟩ (.int .i64 c.a)).setCell ⟨w.heap.size+1,1,none⟩ (.int .i64 c.s)).setCell ⟨w.heap.size+1,2,none⟩ (.int .i64 c.st)).setCell ⟨w.heap.size+1,3,none⟩ (.slice A1 c.deps.length k1)).setCell ⟨w.heap.size+1,4,none⟩ (.slice A2 n k2)) (w.heap.size+1) 82 #[.int .i64 c.a,.int .i64 c.s,.int .i64 c.st,.slice A1 c.deps.length k1,.slice A2 n k2]):=((((HQR.out.set_ 0 _).set_ 1 _).set_ 2 _).set_ 3 _).set_ 4 _
    have hother : ∀ k,k≠w.heap.size+1→(((((wr.setCell ⟨w.heap.size+1,0,none⟩ (.int .i64 c.a)).setCell ⟨w.heap.size+1,1,none⟩ (.int .i64 c.s)).setCell ⟨w.heap.size+1,2,none⟩ (.int .i64 c.st)).setCell ⟨w.heap.size+1,3,none⟩ (.slice A1 c.deps.length k1)).setCell ⟨w.heap.size+1,4,none⟩ (.slice A2 n k2)).heap[k]?=wr.heap[k]?:=fun k hk=>by
     rw [Below.heap_setCell _ _ _ _ hk,Below.heap_setCell _ _ _ _ hk,Below.heap_setCell _ _ _ _ hk,Below.heap_setCell _ _ _ _ hk,Below.heap_setCell _ _ _ _ hk]
    have hsz : (((((wr.setCell ⟨w.heap.size+1,0,none⟩ (.int .i64 c.a)).setCell ⟨w.heap.size+1,1,none⟩ (.int .i64 c.s)).setCell ⟨w.heap.size+1,2,none⟩ (.int .i64 c.st)).setCell ⟨w.heap.size+1,3,none⟩ (.slice A1 c.deps.length k1)).setCell ⟨w.heap.size+1,4,none⟩ (.slice A2 n k2)).heap.size=wr.heap.size:=by simp
    have HWF : Hid (Below w.heap.size w (((((wr.setCell ⟨w.heap.size+1,0,none⟩ (.int .i64 c.a)).setCell ⟨w.heap.size+1,1,none⟩ (.int .i64 c.s)).setCell ⟨w.heap.size+1,2,none⟩ (.int .i64 c.st)).setCell ⟨w.heap.size+1,3,none⟩ (.slice A1 c.deps.length k1)).setCell ⟨w.heap.size+1,4,none⟩ (.slice A2 n k2))):=by
     show Below _ _ _
     have h : w.heap.size≤w.heap.size+1:=Nat.le_succ _
     exact ((((HW.out.setCell h _).setCell h _).setCell h _).setCell h _).setCell h _
    clear r0 r1 r2 r3 r4 f0 f1 f2 f3 f4 c0 c1 c2 c3 c4
    generalize ((((wr.setCell ⟨w.heap.size+1,0,none⟩ (.int .i64 c.a)).setCell ⟨w.heap.size+1,1,none⟩ (.int .i64 c.s)).setCell ⟨w.heap.size+1,2,none⟩ (.int .i64 c.st)).setCell ⟨w.heap.size+1,3,none⟩ (.slice A1 c.deps.length k1)).setCell ⟨w.heap.size+1,4,none⟩ (.slice A2 n k2)=wf at HF hother hsz HWF ⊢
    have v0 : wf.cell? ⟨w.heap.size+1,0,none⟩=some (.int .i64 c.a):=HF.out.cell 0
    have v1 : wf.cell? ⟨w.heap.size+1,1,none⟩=some (.int .i64 c.s):=HF.out.cell 1
    have v2 : wf.cell? ⟨w.heap.size+1,2,none⟩=some (.int .i64 c.st):=HF.out.cell 2
    have v3 : wf.cell? ⟨w.heap.size+1,3,none⟩=some (.slice A1 c.deps.length k1):=HF.out.cell 3
    have v4 : wf.cell? ⟨w.heap.size+1,4,none⟩=some (.slice A2 n k2):=HF.out.cell 4
    refine bodyPost_ret (v:=.agg #[.int .i64 c.a,.int .i64 c.s,.int .i64 c.st,.slice A1 c.deps.length k1,.slice A2 n k2]) ?_ rfl ⟨{ c with DA:=A1,DC:=k1,ops:=os,OA:=A2,OC:=k2 },by show _=Ending.returned (.agg #[.int .i64 c.a,.int .i64 c.s,.int .i64 c.st,.slice A1 c.deps.length k1,.slice A2 os.length k2]);rw [HOL.out],?_,?_,HWF.out⟩
    · simp only [results,hres]
      go_simp
    · show ({ c with DA:=none,DC:=0,ops:=os.map base,OA:=none,OC:=0 } : ChD)={ c with DA:=none,DC:=0,ops:=c.ops.map base,OA:=none,OC:=0 }
      rw [HU.out.bs]
    · have keep : ∀ k,w.heap.size+2≤k→wf.heap[k]?=wr.heap[k]?:=fun k hk=>hother k (by omega)
      refine ⟨?_,HC.out.hdl,?_,by show os.length≤_;rw [HOL.out];omega,fun o ho=>?_⟩
      · obtain ⟨A',c',hv,-,-,hr⟩:=Reads.of_own HO1.out
        simp only [Value.slice.injEq,true_and] at hv
        obtain ⟨rfl,rfl⟩:=hv
        refine (hr.keep fun k hk=>keep k (own_lt HO1.out hk).1).more fun k hk=>?_
        have:=own_lt HO1.out hk
        exact ⟨by omega,by rw [hsz];omega⟩
      · obtain ⟨A',c',hv,-,-,hr⟩:=Reads.of_own HO2.out
        simp only [Value.slice.injEq,true_and] at hv
        obtain ⟨rfl,rfl⟩:=hv
        show Reads _ _ _ _ os.length _
        rw [HOL.out]
        refine (hr.keep fun k hk=>keep k (own_lt HO2.out hk).1).more fun k hk=>?_
        have:=own_lt HO2.out hk
        exact ⟨by omega,by rw [hsz];omega⟩
      · obtain ⟨j,hj⟩:=List.getElem?_of_mem ho
        have hjn : j < i:=by have:=(List.getElem?_eq_some_iff.1 hj).1;rw [show os.length=n from HOL.out] at this;omega
        have hr:=HU.out.new_ j o hjn hj
        refine ⟨(hr.keep fun k hk=>keep k hk.1).more fun k hk=>⟨by have:=hk.1;omega,by rw [hsz];exact hk.2.1⟩,?_⟩
        have hb : os.map base=c.ops.map base:=HU.out.bs
        have hm : base o∈c.ops.map base:=by rw [← hb];exact List.mem_map.2 ⟨o,ho,rfl⟩
        obtain ⟨o',ho',he⟩:=List.mem_map.1 hm
        have hl : o.l=o'.l:=(congrArg OpD.l he).symm
        rw [hl]
        have:=HH.out o' ho'
        omega
end Go.Proofs.YtmpkejflgpodkaaGreatDoor
namespace Go.Proofs.YtmpkejflgpodkaaGreatDoor
open Go.ChangeShapes Go.WideShapes Go.ChangeAt Go.RowKit
set_option maxRecDepth 100000 in
theorem eq_id9 (a b c d : Int) (w : World) : (Op.equalIn 9999 24 (.agg #[.int .i64 a,.int .i64 b]) (.agg #[.int .i64 c,.int .i64 d])).run Tryz.prog w=.ok (a == c && b == d) w:=by
 have hS : Tryz.prog.underlying 24=some (.struct (Tryz.prog.fieldsOf 24)):=by kernel_rfl
 have hp : Tryz.prog.stoodInHeld 24=false:=by kernel_rfl
 rw [show (9999 : Nat)=9998+1 from rfl,run_equalIn_agg w 9998 24 _ _ hS hp]
 simp only [Program.fieldsOf,Tryz.underlying24]
 go_simp
 by_cases h1 : a=c <;> by_cases h2 : b=d <;> simp [h1,h2]
set_option maxRecDepth 100000 in
theorem eq_val (a b : Int) (t : ByteArray) (c d a' b' : Int) (t' : ByteArray) (c' d' : Int) (w : World) :
 (Op.equalIn 10000 50 (.agg #[.int .i64 a,.int .i64 b,.string t,.int .i64 c,.int .i64 d]) (.agg #[.int .i64 a',.int .i64 b',.string t',.int .i64 c',.int .i64 d'])).run Tryz.prog w=.ok (a == a' && (b == b' && (t.toList == t'.toList && (c == c' && d == d')))) w:=by
 have hS : Tryz.prog.underlying 50=some (.struct (Tryz.prog.fieldsOf 50)):=by kernel_rfl
 have hp : Tryz.prog.stoodInHeld 50=false:=by kernel_rfl
 have hI : ∀ (x y : Int) (w : World),(Op.equalIn 9999 3 (.int .i64 x) (.int .i64 y)).run Tryz.prog w=.ok (x == y) w:=fun x y w=>run_equalIn_int w 9998 3 .i64 .i64 x y Tryz.underlying3
 have hT : ∀ (x y : ByteArray) (w : World),(Op.equalIn 9999 9 (.string x) (.string y)).run Tryz.prog w=.ok (x.toList == y.toList) w:=fun x y w=>run_equalIn_string w 9998 9 x y Tryz.underlying9
 have hD:=eq_id9
 rw [show (10000 : Nat)=9999+1 from rfl,run_equalIn_agg w 9999 50 _ _ hS hp]
 simp only [Program.fieldsOf,Tryz.underlying50,Op.eqFields]
 generalize Op.equalIn 9999=EQ at hI hT hD ⊢
 go_simp
 by_cases h1 : a=a' <;> by_cases h2 : b=b' <;> by_cases h3 : t.toList=t'.toList <;> by_cases h4 : c=c' <;> by_cases h5 : d=d' <;> simp [h1,h2,h3,h4,h5]
def idE (a b c d : Int) : Bool:=a == c && b == d
def valE (x y : OpD) : Bool:=x.vk == y.vk && (x.vn == y.vn && (x.vt.toList == y.vt.toList && (x.va == y.va && x.vb == y.vb)))
def sameO (x y : OpD) : Bool:=(x.k == y.k) && (idE x.on x.oa y.on y.oa && ((x.key.toList == y.key.toList) && (idE x.en x.ea y.en y.ea && ((x.ins == y.ins) && (valE x y && decide (x.l=y.l))))))
def opV (x : OpD) : Value:=.agg #[.int .i64 x.k,.int .i64 x.on,.int .i64 x.oa,.string x.key,.int .i64 x.en,.int .i64 x.ea,.bool x.ins,.int .i64 x.vk,.int .i64 x.vn,.string x.vt,.int .i64 x.va,.int .i64 x.vb,.slice x.A x.l.length x.c]
set_option maxHeartbeats 4000000 in
set_option maxRecDepth 20000 in
theorem same1_any (x y : OpD) (w : World) (hx : Reads (fun k=>k < w.heap.size) w 2 x.A x.l.length (refC x.l)) (hy : Reads (fun k=>k < w.heap.size) w 2 y.A y.l.length (refC y.l)) (hxl : x.l.length≤9223372036854775807) (hyl : y.l.length≤9223372036854775807) :
 Calls Tryz.prog 165 #[opV x,opV y] w fun e w'=>e=.returned (.bool (sameO x y))∧Below w.heap.size w w':=by
 have hW1 : Below w.heap.size w (w.alloc (.cells #[.int .i64 x.k,.int .i64 x.on,.int .i64 x.oa,.string x.key,.int .i64 x.en,.int .i64 x.ea,.bool x.ins,.int .i64 x.vk,.int .i64 x.vn,.string x.vt,.int .i64 x.va,.int .i64 x.vb,.slice x.A x.l.length x.c] 88)):=(Below.refl _ w).alloc (Nat.le_refl _) _
 have hQ1:=Blk.new w 88 #[.int .i64 x.k,.int .i64 x.on,.int .i64 x.oa,.string x.key,.int .i64 x.en,.int .i64 x.ea,.bool x.ins,.int .i64 x.vk,.int .i64 x.vn,.string x.vt,.int .i64 x.va,.int .i64 x.vb,.slice x.A x.l.length x.c]
 have hs1 : (w.alloc (.cells #[.int .i64 x.k,.int .i64 x.on,.int .i64 x.oa,.string x.key,.int .i64 x.en,.int .i64 x.ea,.bool x.ins,.int .i64 x.vk,.int .i64 x.vn,.string x.vt,.int .i64 x.va,.int .i64 x.vb,.slice x.A x.l.length x.c] 88)).heap.size=w.heap.size+1:=by simp
 have E1:=fun w=>eq_id x.on x.oa y.on y.oa w
 have E2:=fun w=>eq_id x.en x.ea y.en y.ea w
 have E3:=fun w=>eq_val x.vk x.vn x.vt x.va x.vb y.vk y.vn y.vt y.va y.vb w
 obtain ⟨b1,e1⟩ : ∃ b,(x.k == y.k)=b:=⟨_,rfl⟩
 obtain ⟨b2,e2⟩ : ∃ b,idE x.on x.oa y.on y.oa=b:=⟨_,rfl⟩
 obtain ⟨b3,e3⟩ : ∃ b,(x.key.toList == y.key.toList)=b:=⟨_,rfl⟩
 obtain ⟨b4,e4⟩ : ∃ b,idE x.en x.ea y.en y.ea=b:=⟨_,rfl⟩
 obtain ⟨b5,e5⟩ : ∃ b,(x.ins == y.ins)=b:=⟨_,rfl⟩
 obtain ⟨b6,e6⟩ : ∃ b,valE x y=b:=⟨_,rfl⟩
 obtain ⟨b7,e7⟩ : ∃ b,decide (x.l=y.l)=b:=⟨_,rfl⟩
 unfold sameO
 rw [e1,e2,e3,e4,e5,e6,e7]
 unfold idE at e2 e4
 unfold valE at e6
 rw [e2] at E1
 rw [e4] at E2
 rw [e6] at E3
 clear e2 e4 e6
 unfold opV
 go_enter Tryz.func165,Tryz.ntmps165
 go_upto_region 1 with fail
 generalize w.alloc (.cells #[.int .i64 x.k,.int .i64 x.on,.int .i64 x.oa,.string x.key,.int .i64 x.en,.int .i64 x.ea,.bool x.ins,.int .i64 x.vk,.int .i64 x.vn,.string x.vt,.int .i64 x.va,.int .i64 x.vb,.slice x.A x.l.length x.c] 88)=V1 at *
 have hQ2:=hQ1.keep (w':=V1.alloc (.cells #[.int .i64 y.k,.int .i64 y.on,.int .i64 y.oa,.string y.key,.int .i64 y.en,.int .i64 y.ea,.bool y.ins,.int .i64 y.vk,.int .i64 y.vn,.string y.vt,.int .i64 y.va,.int .i64 y.vb,.slice y.A y.l.length y.c] 88)) (((Below.refl _ V1).alloc (Nat.le_refl _) _).block _ hQ1.lt)
 have hQ3 : Blk (V1.alloc (.cells #[.int .i64 y.k,.int .i64 y.on,.int .i64 y.oa,.string y.key,.int .i64 y.en,.int .i64 y.ea,.bool y.ins,.int .i64 y.vk,.int .i64 y.vn,.string y.vt,.int .i64 y.va,.int .i64 y.vb,.slice y.A y.l.length y.c] 88)) (w.heap.size+1) 88 #[.int .i64 y.k,.int .i64 y.on,.int .i64 y.oa,.string y.key,.int .i64 y.en,.int .i64 y.ea,.bool y.ins,.int .i64 y.vk,.int .i64 y.vn,.string y.vt,.int .i64 y.va,.int .i64 y.vb,.slice y.A y.l.length y.c]:=by rw [← hs1];exact Blk.new V1 _ _
 have HW : Hid (Below w.heap.size w (V1.alloc (.cells #[.int .i64 y.k,.int .i64 y.on,.int .i64 y.oa,.string y.key,.int .i64 y.en,.int .i64 y.ea,.bool y.ins,.int .i64 y.vk,.int .i64 y.vn,.string y.vt,.int .i64 y.va,.int .i64 y.vb,.slice y.A y.l.length y.c] 88))):=hW1.alloc hW1.size _
 generalize V1.alloc (.cells #[.int .i64 y.k,.int .i64 y.on,.int .i64 y.oa,.string y.key,.int .i64 y.en,.int .i64 y.ea,.bool y.ins,.int .i64 y.vk,.int .i64 y.vn,.string y.vt,.int .i64 y.va,.int .i64 y.vb,.slice y.A y.l.length y.c] 88)=V at hQ2 hQ3 HW ⊢
 have x0 : V.cell? ⟨w.heap.size,0,none⟩=some (.int .i64 x.k):=hQ2.cell 0
 have x1 : V.cell? ⟨w.heap.size,1,none⟩=some (.int .i64 x.on):=hQ2.cell 1
 have x2 : V.cell? ⟨w.heap.size,2,none⟩=some (.int .i64 x.oa):=hQ2.cell 2
 have x3 : V.cell? ⟨w.heap.size,3,none⟩=some (.string x.key):=hQ2.cell 3
 have x4 : V.cell? ⟨w.heap.size,4,none⟩=some (.int .i64 x.en):=hQ2.cell 4
 have x5 : V.cell? ⟨w.heap.size,5,none⟩=some (.int .i64 x.ea):=hQ2.cell 5
 have x6 : V.cell? ⟨w.heap.size,6,none⟩=some (.bool x.ins):=hQ2.cell 6
 have x7 : V.cell? ⟨w.heap.size,7,none⟩=some (.int .i64 x.vk):=hQ2.cell 7
 have x8 : V.cell? ⟨w.heap.size,8,none⟩=some (.int .i64 x.vn):=hQ2.cell 8
 have x9 : V.cell? ⟨w.heap.size,9,none⟩=some (.string x.vt):=hQ2.cell 9
 have x10 : V.cell? ⟨w.heap.size,10,none⟩=some (.int .i64 x.va):=hQ2.cell 10
 have x11 : V.cell? ⟨w.heap.size,11,none⟩=some (.int .i64 x.vb):=hQ2.cell 11
 have x12 : V.cell? ⟨w.heap.size,12,none⟩=some (.slice x.A x.l.length x.c):=hQ2.cell 12
 have y0 : V.cell? ⟨w.heap.size+1,0,none⟩=some (.int .i64 y.k):=hQ3.cell 0
 have y1 : V.cell? ⟨w.heap.size+1,1,none⟩=some (.int .i64 y.on):=hQ3.cell 1
 have y2 : V.cell? ⟨w.heap.size+1,2,none⟩=some (.int .i64 y.oa):=hQ3.cell 2
 have y3 : V.cell? ⟨w.heap.size+1,3,none⟩=some (.string y.key):=hQ3.cell 3
 have y4 : V.cell? ⟨w.heap.size+1,4,none⟩=some (.int .i64 y.en):=hQ3.cell 4
 have y5 : V.cell? ⟨w.heap.size+1,5,none⟩=some (.int .i64 y.ea):=hQ3.cell 5
 have y6 : V.cell? ⟨w.heap.size+1,6,none⟩=some (.bool y.ins):=hQ3.cell 6
 have y7 : V.cell? ⟨w.heap.size+1,7,none⟩=some (.int .i64 y.vk):=hQ3.cell 7
 have y8 : V.cell? ⟨w.heap.size+1,8,none⟩=some (.int .i64 y.vn):=hQ3.cell 8
 have y9 : V.cell? ⟨w.heap.size+1,9,none⟩=some (.string y.vt):=hQ3.cell 9
 have y10 : V.cell? ⟨w.heap.size+1,10,none⟩=some (.int .i64 y.va):=hQ3.cell 10
 have y11 : V.cell? ⟨w.heap.size+1,11,none⟩=some (.int .i64 y.vb):=hQ3.cell 11
 have y12 : V.cell? ⟨w.heap.size+1,12,none⟩=some (.slice y.A y.l.length y.c):=hQ3.cell 12
 have C1:=equalI_any x.l y.l x.A y.A x.c y.c V (reads_below hx HW.out) (reads_below hy HW.out) hxl hyl
 rw [e7] at C1
 clear hW1 hQ1 hs1 hQ2 hQ3 hx hy e7
 cases b1 with
 | false=>(go_wp2_with fail;go_ret;exact ⟨rfl,HW.out⟩)
 | true =>
   cases b2 with
   | false=>(go_wp2_with fail;go_ret;exact ⟨rfl,HW.out⟩)
   | true =>
     cases b3 with
     | false=>(go_wp2_with fail;go_ret;exact ⟨rfl,HW.out⟩)
     | true =>
       cases b4 with
       | false=>(go_wp2_with fail;go_ret;exact ⟨rfl,HW.out⟩)
       | true =>
         cases b5 with
         | false=>(go_wp2_with fail;go_ret;exact ⟨rfl,HW.out⟩)
         | true =>
           cases b6 with
           | false=>(go_wp2_with fail;go_ret;exact ⟨rfl,HW.out⟩)
           | true =>
             go_wp2_with fail
             go_at_call 166
             refine C1.mono ?_
             rintro e w2 ⟨rfl,hb⟩
             replace HW : Hid (Below w.heap.size w w2):=HW.out.trans (hb.mono HW.out.size)
             go_wp2_with fail
             go_ret
             exact ⟨rfl,HW.out⟩
end Go.Proofs.YtmpkejflgpodkaaGreatDoor
namespace Go.Proofs.YtmpkejflgpodkaaGreatDoor
open Go.ChangeShapes Go.WideShapes Go.ChangeAt Go.RowKit
def sameOs : List OpD→List OpD→Bool
 | [],[]=>true
 | x::l,y::m=>sameO x y && sameOs l m
 | _,_=>false
theorem sameOs_len : ∀ {l m : List OpD},l.length≠m.length→sameOs l m=false
 | [],[],h=>absurd rfl h
 | [],_::_,_=>rfl
 | _::_,[],_=>rfl
 | x::l,y::m,h=>by
   have:=sameOs_len (l:=l) (m:=m) (by simpa using h)
   simp [sameOs,this]
theorem sameOs_step {l m : List OpD} {i : Nat} {x y : OpD} (hx : l[i]?=some x) (hy : m[i]?=some y) : sameOs (l.drop i) (m.drop i)=(sameO x y && sameOs (l.drop (i+1)) (m.drop (i+1))):=by
 obtain ⟨h1,e1⟩:=List.getElem?_eq_some_iff.1 hx
 obtain ⟨h2,e2⟩:=List.getElem?_eq_some_iff.1 hy
 rw [List.drop_eq_getElem_cons h1,List.drop_eq_getElem_cons h2,e1,e2]
 rfl
set_option maxHeartbeats 4000000 in
set_option maxRecDepth 20000 in
theorem equalFn_any (l l2 : List OpD) (A A2 : Option Addr) (c c2 : Nat) (w : World) (hr : Reads (fun k=>k < w.heap.size) w 13 A l.length (opsC l)) (hr2 : Reads (fun k=>k < w.heap.size) w 13 A2 l2.length (opsC l2))
 (hl : l.length≤9223372036854775807) (hl2 : l2.length≤9223372036854775807) (hp : ∀ o∈l,Reads (fun k=>k < w.heap.size) w 2 o.A o.l.length (refC o.l)∧o.l.length≤9223372036854775807) (hp2 : ∀ o∈l2,Reads (fun k=>k < w.heap.size) w 2 o.A o.l.length (refC o.l)∧o.l.length≤9223372036854775807) :
 Calls Tryz.prog 164 #[.slice A l.length c,.slice A2 l2.length c2,.func (.func 165) #[] #[]] w fun e w'=>e=.returned (.bool (sameOs l l2))∧Below w.heap.size w w':=by
 have eg : ∀ args w,(callFunc 165 args).run Tryz.prog w=.ok (.enter 165 args) w:=enters_of Tryz.func165 (by kernel_rfl) (Option.some_get (show Tryz.f165.body.isSome=true by kernel_rfl)).symm
 obtain ⟨n,hn⟩ : ∃ n,l.length=n:=⟨_,rfl⟩
 obtain ⟨n2,hn2⟩ : ∃ n2,l2.length=n2:=⟨_,rfl⟩
 have HN:=Lib.hid hn
 have HN2:=Lib.hid hn2
 have HR:=Lib.hid hr
 have HR2:=Lib.hid hr2
 have HP:=Lib.hid hp
 have HP2:=Lib.hid hp2
 rw [hn] at hl
 rw [hn2] at hl2
 rw [hn,hn2]
 clear hr hr2 hp hp2
 by_cases hnn : n=n2
 · subst hnn
   clear hn hn2
   go_enter Tryz.func164,Tryz.ntmps164
   go_wp2_with fail
   go_loopw [7,8,9,17] (fun _ _ _ s17 wr=>∃ k : Nat,s17=.int .i64 k∧k≤n∧Hid (sameOs l l2=sameOs (l.drop k) (l2.drop k))∧Hid (Below w.heap.size w wr)) (fun _ _ _ s17 _=>n - (intOf s17).toNat)
   case atStart=>exact ⟨0,rfl,by omega,rfl,Below.refl _ _⟩
   case round =>
    obtain ⟨k,rfl,hk,HI,HW⟩:=hrel
    by_cases hlt : k < n
    · obtain ⟨b1,o1,rfl,-,hc1⟩:=(reads_below HR.out HW.out).at_ (by rw [HN.out];omega) (by omega)
      obtain ⟨x,hx⟩ : ∃ x,l[k]?=some x:=⟨_,List.getElem?_eq_getElem (by rw [HN.out];exact hlt)⟩
      obtain ⟨y,hy⟩ : ∃ y,l2[k]?=some y:=⟨_,List.getElem?_eq_getElem (by rw [HN2.out];exact hlt)⟩
      have HPX:=Lib.hid (HP.out x (List.mem_of_getElem? hx))
      have HPY:=Lib.hid (HP2.out y (List.mem_of_getElem? hy))
      have HS:=Lib.hid (sameOs_step hx hy)
      have HY:=Lib.hid hy
      have x0 : wr.cell? ⟨b1,o1+k*13,none⟩=some (.int .i64 x.k):=hc1 _ _ ((opsC_at hx 0 (by omega)).trans rfl)
      have x1 : wr.cell? ⟨b1,o1+k*13+1,none⟩=some (.int .i64 x.on):=hc1 _ _ ((opsC_at hx 1 (by omega)).trans rfl)
      have x2 : wr.cell? ⟨b1,o1+k*13+2,none⟩=some (.int .i64 x.oa):=hc1 _ _ ((opsC_at hx 2 (by omega)).trans rfl)
      have x3 : wr.cell? ⟨b1,o1+k*13+3,none⟩=some (.string x.key):=hc1 _ _ ((opsC_at hx 3 (by omega)).trans rfl)
      have x4 : wr.cell? ⟨b1,o1+k*13+4,none⟩=some (.int .i64 x.en):=hc1 _ _ ((opsC_at hx 4 (by omega)).trans rfl)
      have x5 : wr.cell? ⟨b1,o1+k*13+5,none⟩=some (.int .i64 x.ea):=hc1 _ _ ((opsC_at hx 5 (by omega)).trans rfl)
      have x6 : wr.cell? ⟨b1,o1+k*13+6,none⟩=some (.bool x.ins):=hc1 _ _ ((opsC_at hx 6 (by omega)).trans rfl)
      have x7 : wr.cell? ⟨b1,o1+k*13+7,none⟩=some (.int .i64 x.vk):=hc1 _ _ ((opsC_at hx 7 (by omega)).trans rfl)
      have x8 : wr.cell? ⟨b1,o1+k*13+8,none⟩=some (.int .i64 x.vn):=hc1 _ _ ((opsC_at hx 8 (by omega)).trans rfl)
      have x9 : wr.cell? ⟨b1,o1+k*13+9,none⟩=some (.string x.vt):=hc1 _ _ ((opsC_at hx 9 (by omega)).trans rfl)
      have x10 : wr.cell? ⟨b1,o1+k*13+10,none⟩=some (.int .i64 x.va):=hc1 _ _ ((opsC_at hx 10 (by omega)).trans rfl)
      have x11 : wr.cell? ⟨b1,o1+k*13+11,none⟩=some (.int .i64 x.vb):=hc1 _ _ ((opsC_at hx 11 (by omega)).trans rfl)
      have x12 : wr.cell? ⟨b1,o1+k*13+12,none⟩=some (.slice x.A x.l.length x.c):=hc1 _ _ ((opsC_at hx 12 (by omega)).trans rfl)
      clear hc1 hx hy
      have hd1 : decide ((k : Int) < (n : Int))=true:=decide_eq_true (by omega)
      have hd0 : decide (0≤(k : Int))=true:=decide_eq_true (by omega)
      go_upto_region 6 with fail
      have HW1 : Hid (Below w.heap.size w (wr.alloc (.cells #[.int .i64 x.k,.int .i64 x.on,.int .i64 x.oa,.string x.key,.int .i64 x.en,.int .i64 x.ea,.bool x.ins,.int .i64 x.vk,.int .i64 x.vn,.string x.vt,.int .i64 x.va,.int .i64 x.vb,.slice x.A x.l.length x.c] 88))):=HW.out.alloc HW.out.size _
      have HQ1 : Hid (Blk (wr.alloc (.cells #[.int .i64 x.k,.int .i64 x.on,.int .i64 x.oa,.string x.key,.int .i64 x.en,.int .i64 x.ea,.bool x.ins,.int .i64 x.vk,.int .i64 x.vn,.string x.vt,.int .i64 x.va,.int .i64 x.vb,.slice x.A x.l.length x.c] 88)) wr.heap.size 88 #[.int .i64 x.k,.int .i64 x.on,.int .i64 x.oa,.string x.key,.int .i64 x.en,.int .i64 x.ea,.bool x.ins,.int .i64 x.vk,.int .i64 x.vn,.string x.vt,.int .i64 x.va,.int .i64 x.vb,.slice x.A x.l.length x.c]):=Blk.new wr _ _
      clear x0 x1 x2 x3 x4 x5 x6 x7 x8 x9 x10 x11 x12
      generalize wr.alloc (.cells #[.int .i64 x.k,.int .i64 x.on,.int .i64 x.oa,.string x.key,.int .i64 x.en,.int .i64 x.ea,.bool x.ins,.int .i64 x.vk,.int .i64 x.vn,.string x.vt,.int .i64 x.va,.int .i64 x.vb,.slice x.A x.l.length x.c] 88)=V1 at HW1 HQ1 ⊢
      generalize wr.heap.size=B1 at HQ1 ⊢
      obtain ⟨b2,o2,rfl,-,hc2⟩:=(reads_below HR2.out HW1.out).at_ (by rw [HN2.out];omega) (by omega)
      have y0 : V1.cell? ⟨b2,o2+k*13,none⟩=some (.int .i64 y.k):=hc2 _ _ ((opsC_at HY.out 0 (by omega)).trans rfl)
      have y1 : V1.cell? ⟨b2,o2+k*13+1,none⟩=some (.int .i64 y.on):=hc2 _ _ ((opsC_at HY.out 1 (by omega)).trans rfl)
      have y2 : V1.cell? ⟨b2,o2+k*13+2,none⟩=some (.int .i64 y.oa):=hc2 _ _ ((opsC_at HY.out 2 (by omega)).trans rfl)
      have y3 : V1.cell? ⟨b2,o2+k*13+3,none⟩=some (.string y.key):=hc2 _ _ ((opsC_at HY.out 3 (by omega)).trans rfl)
      have y4 : V1.cell? ⟨b2,o2+k*13+4,none⟩=some (.int .i64 y.en):=hc2 _ _ ((opsC_at HY.out 4 (by omega)).trans rfl)
      have y5 : V1.cell? ⟨b2,o2+k*13+5,none⟩=some (.int .i64 y.ea):=hc2 _ _ ((opsC_at HY.out 5 (by omega)).trans rfl)
      have y6 : V1.cell? ⟨b2,o2+k*13+6,none⟩=some (.bool y.ins):=hc2 _ _ ((opsC_at HY.out 6 (by omega)).trans rfl)
      have y7 : V1.cell? ⟨b2,o2+k*13+7,none⟩=some (.int .i64 y.vk):=hc2 _ _ ((opsC_at HY.out 7 (by omega)).trans rfl)
      have y8 : V1.cell? ⟨b2,o2+k*13+8,none⟩=some (.int .i64 y.vn):=hc2 _ _ ((opsC_at HY.out 8 (by omega)).trans rfl)
      have y9 : V1.cell? ⟨b2,o2+k*13+9,none⟩=some (.string y.vt):=hc2 _ _ ((opsC_at HY.out 9 (by omega)).trans rfl)
      have y10 : V1.cell? ⟨b2,o2+k*13+10,none⟩=some (.int .i64 y.va):=hc2 _ _ ((opsC_at HY.out 10 (by omega)).trans rfl)
      have y11 : V1.cell? ⟨b2,o2+k*13+11,none⟩=some (.int .i64 y.vb):=hc2 _ _ ((opsC_at HY.out 11 (by omega)).trans rfl)
      have y12 : V1.cell? ⟨b2,o2+k*13+12,none⟩=some (.slice y.A y.l.length y.c):=hc2 _ _ ((opsC_at HY.out 12 (by omega)).trans rfl)
      clear hc2
      go_upto_region 7 with fail
      have HW2 : Hid (Below w.heap.size w (V1.alloc (.cells #[.int .i64 y.k,.int .i64 y.on,.int .i64 y.oa,.string y.key,.int .i64 y.en,.int .i64 y.ea,.bool y.ins,.int .i64 y.vk,.int .i64 y.vn,.string y.vt,.int .i64 y.va,.int .i64 y.vb,.slice y.A y.l.length y.c] 88))):=HW1.out.alloc HW1.out.size _
      have HQ2 : Hid (Blk (V1.alloc (.cells #[.int .i64 y.k,.int .i64 y.on,.int .i64 y.oa,.string y.key,.int .i64 y.en,.int .i64 y.ea,.bool y.ins,.int .i64 y.vk,.int .i64 y.vn,.string y.vt,.int .i64 y.va,.int .i64 y.vb,.slice y.A y.l.length y.c] 88)) V1.heap.size 88 #[.int .i64 y.k,.int .i64 y.on,.int .i64 y.oa,.string y.key,.int .i64 y.en,.int .i64 y.ea,.bool y.ins,.int .i64 y.vk,.int .i64 y.vn,.string y.vt,.int .i64 y.va,.int .i64 y.vb,.slice y.A y.l.length y.c]):=Blk.new V1 _ _
      have HQ3:=Lib.hid (HQ1.out.keep (w':=V1.alloc (.cells #[.int .i64 y.k,.int .i64 y.on,.int .i64 y.oa,.string y.key,.int .i64 y.en,.int .i64 y.ea,.bool y.ins,.int .i64 y.vk,.int .i64 y.vn,.string y.vt,.int .i64 y.va,.int .i64 y.vb,.slice y.A y.l.length y.c] 88)) (((Below.refl _ V1).alloc (Nat.le_refl _) _).block _ HQ1.out.lt))
      clear y0 y1 y2 y3 y4 y5 y6 y7 y8 y9 y10 y11 y12 HQ1 HW1
      generalize V1.alloc (.cells #[.int .i64 y.k,.int .i64 y.on,.int .i64 y.oa,.string y.key,.int .i64 y.en,.int .i64 y.ea,.bool y.ins,.int .i64 y.vk,.int .i64 y.vn,.string y.vt,.int .i64 y.va,.int .i64 y.vb,.slice y.A y.l.length y.c] 88)=V2 at HW2 HQ2 HQ3 ⊢
      generalize V1.heap.size=B2 at HQ2 ⊢
      have x0 : V2.cell? ⟨B1,0,none⟩=some (.int .i64 x.k):=HQ3.out.cell 0
      have x1 : V2.cell? ⟨B1,1,none⟩=some (.int .i64 x.on):=HQ3.out.cell 1
      have x2 : V2.cell? ⟨B1,2,none⟩=some (.int .i64 x.oa):=HQ3.out.cell 2
      have x3 : V2.cell? ⟨B1,3,none⟩=some (.string x.key):=HQ3.out.cell 3
      have x4 : V2.cell? ⟨B1,4,none⟩=some (.int .i64 x.en):=HQ3.out.cell 4
      have x5 : V2.cell? ⟨B1,5,none⟩=some (.int .i64 x.ea):=HQ3.out.cell 5
      have x6 : V2.cell? ⟨B1,6,none⟩=some (.bool x.ins):=HQ3.out.cell 6
      have x7 : V2.cell? ⟨B1,7,none⟩=some (.int .i64 x.vk):=HQ3.out.cell 7
      have x8 : V2.cell? ⟨B1,8,none⟩=some (.int .i64 x.vn):=HQ3.out.cell 8
      have x9 : V2.cell? ⟨B1,9,none⟩=some (.string x.vt):=HQ3.out.cell 9
      have x10 : V2.cell? ⟨B1,10,none⟩=some (.int .i64 x.va):=HQ3.out.cell 10
      have x11 : V2.cell? ⟨B1,11,none⟩=some (.int .i64 x.vb):=HQ3.out.cell 11
      have x12 : V2.cell? ⟨B1,12,none⟩=some (.slice x.A x.l.length x.c):=HQ3.out.cell 12
      have y0 : V2.cell? ⟨B2,0,none⟩=some (.int .i64 y.k):=HQ2.out.cell 0
      have y1 : V2.cell? ⟨B2,1,none⟩=some (.int .i64 y.on):=HQ2.out.cell 1
      have y2 : V2.cell? ⟨B2,2,none⟩=some (.int .i64 y.oa):=HQ2.out.cell 2
      have y3 : V2.cell? ⟨B2,3,none⟩=some (.string y.key):=HQ2.out.cell 3
      have y4 : V2.cell? ⟨B2,4,none⟩=some (.int .i64 y.en):=HQ2.out.cell 4
      have y5 : V2.cell? ⟨B2,5,none⟩=some (.int .i64 y.ea):=HQ2.out.cell 5
      have y6 : V2.cell? ⟨B2,6,none⟩=some (.bool y.ins):=HQ2.out.cell 6
      have y7 : V2.cell? ⟨B2,7,none⟩=some (.int .i64 y.vk):=HQ2.out.cell 7
      have y8 : V2.cell? ⟨B2,8,none⟩=some (.int .i64 y.vn):=HQ2.out.cell 8
      have y9 : V2.cell? ⟨B2,9,none⟩=some (.string y.vt):=HQ2.out.cell 9
      have y10 : V2.cell? ⟨B2,10,none⟩=some (.int .i64 y.va):=HQ2.out.cell 10
      have y11 : V2.cell? ⟨B2,11,none⟩=some (.int .i64 y.vb):=HQ2.out.cell 11
      have y12 : V2.cell? ⟨B2,12,none⟩=some (.slice y.A y.l.length y.c):=HQ2.out.cell 12
      have C1:=same1_any x y V2 (reads_below HPX.out.1 HW2.out) (reads_below HPY.out.1 HW2.out) HPX.out.2 HPY.out.2
      unfold opV at C1
      generalize sameO x y=ok at C1 HS
      go_wp2_with fail
      go_at_call 165
      refine C1.mono ?_
      rintro e w3 ⟨rfl,hb⟩
      have HW3 : Hid (Below w.heap.size w w3):=HW2.out.trans (hb.mono HW2.out.size)
      clear x0 x1 x2 x3 x4 x5 x6 x7 x8 x9 x10 x11 x12 y0 y1 y2 y3 y4 y5 y6 y7 y8 y9 y10 y11 y12 C1 hb HW2 HQ2 HQ3
      cases ok with
      | false =>
        have HE : Hid (sameOs l l2=false):=by show _=_;rw [HI.out,HS.out];rfl
        go_wp2_with fail
        go_ret
        exact ⟨by rw [HE.out];rfl,HW3.out⟩
      | true =>
        have HI2 : Hid (sameOs l l2=sameOs (l.drop (k+1)) (l2.drop (k+1))):=by show _=_;rw [HI.out,HS.out];rfl
        go_wp2_with fail
        go_roundw
        case rel=>exact ⟨k+1,by go_num,by omega,HI2,HW3⟩
        case measure=>simp [intOf];omega
    · have HE : Hid (sameOs l l2=true):=by show _=_;rw [HI.out,List.drop_of_length_le (by rw [HN.out];omega),List.drop_of_length_le (by rw [HN2.out];omega)];rfl
      go_wp2_with fail
      go_ret
      exact ⟨by rw [HE.out];rfl,HW.out⟩
 · have HE : Hid (sameOs l l2=false):=sameOs_len (by rw [hn,hn2];exact hnn)
   have hd : ((n : Int) != (n2 : Int))=true:=by simp;omega
   clear hn hn2
   go_enter Tryz.func164,Tryz.ntmps164
   go_wp2_with fail
   go_ret
   exact ⟨by rw [HE.out];rfl,Below.refl _ _⟩
def sameC (c d : ChD) : Bool:=(c.st == d.st) && (decide (c.deps=d.deps) && sameOs c.ops d.ops)
set_option maxHeartbeats 4000000 in
set_option maxRecDepth 20000 in
theorem same_any (c d : ChD) (w : World) (hc : ChIn (fun k=>k < w.heap.size) w c) (hd : ChIn (fun k=>k < w.heap.size) w d) :
 Calls Tryz.prog 127 #[c.v,d.v] w fun e w'=>e=.returned (.bool (sameC c d))∧Below w.heap.size w w':=by
 have hW1 : Below w.heap.size w (w.alloc (.cells #[.int .i64 c.a,.int .i64 c.s,.int .i64 c.st,.slice c.DA c.deps.length c.DC,.slice c.OA c.ops.length c.OC] 82)):=(Below.refl _ w).alloc (Nat.le_refl _) _
 have hQ1:=Blk.new w 82 #[.int .i64 c.a,.int .i64 c.s,.int .i64 c.st,.slice c.DA c.deps.length c.DC,.slice c.OA c.ops.length c.OC]
 have hs1 : (w.alloc (.cells #[.int .i64 c.a,.int .i64 c.s,.int .i64 c.st,.slice c.DA c.deps.length c.DC,.slice c.OA c.ops.length c.OC] 82)).heap.size=w.heap.size+1:=by simp
 have HC:=Lib.hid hc
 have HD:=Lib.hid hd
 obtain ⟨b1,e1⟩ : ∃ b,(c.st == d.st)=b:=⟨_,rfl⟩
 obtain ⟨b2,e2⟩ : ∃ b,decide (c.deps=d.deps)=b:=⟨_,rfl⟩
 obtain ⟨b3,e3⟩ : ∃ b,sameOs c.ops d.ops=b:=⟨_,rfl⟩
 unfold sameC
 rw [e1,e2,e3]
 unfold ChD.v
 clear hc hd
 go_enter Tryz.func127,Tryz.ntmps127
 go_upto_region 1 with fail
 generalize w.alloc (.cells #[.int .i64 c.a,.int .i64 c.s,.int .i64 c.st,.slice c.DA c.deps.length c.DC,.slice c.OA c.ops.length c.OC] 82)=V1 at *
 have hQ2:=hQ1.keep (w':=V1.alloc (.cells #[.int .i64 d.a,.int .i64 d.s,.int .i64 d.st,.slice d.DA d.deps.length d.DC,.slice d.OA d.ops.length d.OC] 82)) (((Below.refl _ V1).alloc (Nat.le_refl _) _).block _ hQ1.lt)
 have hQ3 : Blk (V1.alloc (.cells #[.int .i64 d.a,.int .i64 d.s,.int .i64 d.st,.slice d.DA d.deps.length d.DC,.slice d.OA d.ops.length d.OC] 82)) (w.heap.size+1) 82 #[.int .i64 d.a,.int .i64 d.s,.int .i64 d.st,.slice d.DA d.deps.length d.DC,.slice d.OA d.ops.length d.OC]:=by rw [← hs1];exact Blk.new V1 _ _
 have HW : Hid (Below w.heap.size w (V1.alloc (.cells #[.int .i64 d.a,.int .i64 d.s,.int .i64 d.st,.slice d.DA d.deps.length d.DC,.slice d.OA d.ops.length d.OC] 82))):=hW1.alloc hW1.size _
 generalize V1.alloc (.cells #[.int .i64 d.a,.int .i64 d.s,.int .i64 d.st,.slice d.DA d.deps.length d.DC,.slice d.OA d.ops.length d.OC] 82)=V at hQ2 hQ3 HW ⊢
 have HQ2:=Lib.hid hQ2
 have HQ3:=Lib.hid hQ3
 clear hW1 hQ1 hs1 hQ2 hQ3
 have c2 : V.cell? ⟨w.heap.size,2,none⟩=some (.int .i64 c.st):=HQ2.out.cell 2
 have c3 : V.cell? ⟨w.heap.size,3,none⟩=some (.slice c.DA c.deps.length c.DC):=HQ2.out.cell 3
 have c4 : V.cell? ⟨w.heap.size,4,none⟩=some (.slice c.OA c.ops.length c.OC):=HQ2.out.cell 4
 have d2 : V.cell? ⟨w.heap.size+1,2,none⟩=some (.int .i64 d.st):=HQ3.out.cell 2
 have d3 : V.cell? ⟨w.heap.size+1,3,none⟩=some (.slice d.DA d.deps.length d.DC):=HQ3.out.cell 3
 have d4 : V.cell? ⟨w.heap.size+1,4,none⟩=some (.slice d.OA d.ops.length d.OC):=HQ3.out.cell 4
 have C1:=equalR_any c.deps d.deps c.DA d.DA c.DC d.DC V (reads_below HC.out.hd HW.out) (reads_below HD.out.hd HW.out) HC.out.hdl HD.out.hdl
 rw [e2] at C1
 cases b1 with
 | false=>(go_wp2_with fail;go_ret;exact ⟨rfl,HW.out⟩)
 | true =>
   go_wp2_with fail
   go_at_call 163
   refine C1.mono ?_
   rintro e w2 ⟨rfl,hb⟩
   replace HW : Hid (Below w.heap.size w w2):=HW.out.trans (hb.mono HW.out.size)
   replace HQ2:=Lib.hid (HQ2.out.keep (hb.block _ HQ2.out.lt))
   replace HQ3:=Lib.hid (HQ3.out.keep (hb.block _ HQ3.out.lt))
   clear c2 c3 c4 d2 d3 d4 hb C1
   have c4 : w2.cell? ⟨w.heap.size,4,none⟩=some (.slice c.OA c.ops.length c.OC):=HQ2.out.cell 4
   have d4 : w2.cell? ⟨w.heap.size+1,4,none⟩=some (.slice d.OA d.ops.length d.OC):=HQ3.out.cell 4
   have C2:=equalFn_any c.ops d.ops c.OA d.OA c.OC d.OC w2 (reads_below HC.out.ho HW.out) (reads_below HD.out.ho HW.out) HC.out.hol HD.out.hol
    (fun o ho=>⟨reads_below (HC.out.hp o ho).1 HW.out,(HC.out.hp o ho).2⟩) (fun o ho=>⟨reads_below (HD.out.hp o ho).1 HW.out,(HD.out.hp o ho).2⟩)
   rw [e3] at C2
   cases b2 with
   | false=>(go_wp2_with fail;go_ret;exact ⟨rfl,HW.out⟩)
   | true =>
     go_wp2_with fail
     go_at_call 164
     refine C2.mono ?_
     rintro e w3 ⟨rfl,hb⟩
     replace HW : Hid (Below w.heap.size w w3):=HW.out.trans (hb.mono HW.out.size)
     go_wp2_with fail
     go_ret
     exact ⟨rfl,HW.out⟩
end Go.Proofs.YtmpkejflgpodkaaGreatDoor
namespace Go.Proofs.YtmpkejflgpodkaaGreatDoor
open Go.ChangeShapes Go.WideShapes Go.ChangeAt Go.RowKit
def Gr (w w' : World) : Prop:=∃ (q : Nat) (os' : Array Obj),w'=Sort.grow (w.drewN q) os'
theorem Gr.refl (w : World) : Gr w w:=⟨0,#[],by rw [Sort.grow_empty];rfl⟩
theorem Gr.alloc {w w' : World} (h : Gr w w') (o : Obj) : Gr w (w'.alloc o):=by
 obtain ⟨q,os,rfl⟩:=h
 exact ⟨q,os++#[o],by rw [Sort.alloc_eq_grow,Sort.grow_grow]⟩
theorem Gr.drew {w w' : World} (h : Gr w w') : Gr w w'.drew:=by
 obtain ⟨q,os,rfl⟩:=h
 exact ⟨q+1,os,rfl⟩
theorem Gr.trans {a b c : World} (h : Gr a b) (k : Gr b c) : Gr a c:=by
 obtain ⟨q,os,rfl⟩:=h
 obtain ⟨q2,os2,rfl⟩:=k
 refine ⟨q+q2,os++os2,?_⟩
 rw [← World.drewN_drewN,← Sort.grow_grow]
 rfl
theorem Gr.below {w w' : World} (h : Gr w w') : Below w.heap.size w w':=by
 obtain ⟨q,os,rfl⟩:=h
 refine ⟨rfl,rfl,rfl,?_,fun k hk=>?_⟩
 · simp only [Sort.grow,World.drewN,Array.size_append];omega
 · simp only [Sort.grow,World.drewN]
   rw [Array.getElem?_append_left hk]
theorem compare_any (x y : Int) (w : World) : Calls Tryz.prog 70 #[.int .i64 x,.int .i64 y] w fun e w'=>e=.returned (.int .i64 (Lib.compareInt x y))∧w'=w:=by
 by_cases h1 : x < y
 · have e : Lib.compareInt x y=-1:=by simp [Lib.compareInt,h1]
   rw [e]
   have d1 : decide (x < y)=true:=decide_eq_true h1
   go_enter Tryz.func70,Tryz.ntmps70
   go_wp2
   go_ret
   exact ⟨rfl,rfl⟩
 · by_cases h2 : y < x
   · have e : Lib.compareInt x y=1:=by simp [Lib.compareInt,h1,h2]
     rw [e]
     have d1 : decide (x < y)=false:=decide_eq_false h1
     have d2 : decide (y < x)=true:=decide_eq_true h2
     go_enter Tryz.func70,Tryz.ntmps70
     go_wp2
     go_ret
     exact ⟨rfl,rfl⟩
   · have e : Lib.compareInt x y=0:=by simp [Lib.compareInt,h1,h2]
     rw [e]
     have d1 : decide (x < y)=false:=decide_eq_false h1
     have d2 : decide (y < x)=false:=decide_eq_false h2
     go_enter Tryz.func70,Tryz.ntmps70
     go_wp2
     go_ret
     exact ⟨rfl,rfl⟩
theorem orI_any (x y : Int) (g : Nat) (w : World) (c0 : w.cell? ⟨g,0,none⟩=some (.int .i64 x)) (c1 : w.cell? ⟨g,1,none⟩=some (.int .i64 y)) :
 Calls Tryz.prog 69 #[.slice (some ⟨g,0,none⟩) 2 2] w fun e w'=>e=.returned (.int .i64 (if x=0 then y else x))∧w'=w:=by
 by_cases hx : x=0
 · have HX:=Lib.hid hx
   rw [if_pos hx]
   rw [hx] at c0
   clear hx
   go_enter Tryz.func69,Tryz.ntmps69
   go_wp2_with fail
   go_loop [8] (fun s8=>∃ k : Nat,s8=.int .i64 k∧k≤2∧(k=2→y=0)) (fun s8=>2 - (intOf s8).toNat)
   case atStart=>exact ⟨0,rfl,by omega,by omega⟩
   case round =>
    obtain ⟨k,rfl,hk,h2⟩:=hrel
    have h3 : k=0∨k=1∨k=2:=by omega
    have H2:=Lib.hid h2
    clear h2
    rcases h3 with rfl | rfl | rfl
    · go_wp2_with fail
      go_round
      case rel=>exact ⟨1,by go_num,by omega,by omega⟩
      case measure=>simp [intOf]
    · by_cases hy : y=0
      · have HY:=Lib.hid hy
        rw [hy] at c1
        clear hy
        go_wp2_with fail
        go_round
        case rel=>exact ⟨2,by go_num,by omega,fun _=>HY.out⟩
        case measure=>simp [intOf]
      · go_wp2_with fail
        go_ret
        exact ⟨rfl,rfl⟩
    · have hy:=H2.out rfl
      have HY:=Lib.hid hy
      clear hy
      go_wp2_with fail
      go_ret
      exact ⟨by rw [HY.out];rfl,rfl⟩
 · rw [if_neg hx]
   go_enter Tryz.func69,Tryz.ntmps69
   go_wp2_with fail
   go_loop [8] (fun s8=>s8=.int .i64 0) (fun _=>0)
   case atStart=>rfl
   case round =>
    subst hrel
    go_wp2_with fail
    go_ret
    exact ⟨rfl,rfl⟩
def cmpR (r q : Rf) : Int:=if Lib.compareInt r.1 q.1=0 then Lib.compareInt r.2 q.2 else Lib.compareInt r.1 q.1
set_option maxHeartbeats 2000000 in
set_option maxRecDepth 20000 in
theorem compareRefs_any (r q : Rf) (w : World) : Calls Tryz.prog 132 #[refV r,refV q] w fun e w'=>e=.returned (.int .i64 (cmpR r q))∧Gr w w':=by
 obtain ⟨ra,rs⟩:=r
 obtain ⟨qa,qs⟩:=q
 simp only [refV,cmpR]
 have hc1:=compare_any ra qa
 have hc2:=compare_any rs qs
 generalize Lib.compareInt ra qa=x at *
 generalize Lib.compareInt rs qs=y at *
 have OR:=orI_any x y
 generalize (if x=0 then y else x)=z at OR ⊢
 go_enter Tryz.func132,Tryz.ntmps132
 go_wp2_with fail
 have hB : Gr w ((w.alloc (.cells #[.int .i64 ra,.int .i64 rs] 77)).alloc (.cells #[.int .i64 qa,.int .i64 qs] 77)):=((Gr.refl w).alloc _).alloc _
 have y0 : Blk ((w.alloc (.cells #[.int .i64 ra,.int .i64 rs] 77)).alloc (.cells #[.int .i64 qa,.int .i64 qs] 77)) w.heap.size _ _:=(Blk.new w 77 #[.int .i64 ra,.int .i64 rs]).alloc _
 have y1 : Blk ((w.alloc (.cells #[.int .i64 ra,.int .i64 rs] 77)).alloc (.cells #[.int .i64 qa,.int .i64 qs] 77)) (w.heap.size+1) 77 #[.int .i64 qa,.int .i64 qs]:=by
  have:=Blk.new (w.alloc (.cells #[.int .i64 ra,.int .i64 rs] 77)) 77 #[.int .i64 qa,.int .i64 qs]
  simpa using this
 generalize (w.alloc (.cells #[.int .i64 ra,.int .i64 rs] 77)).alloc (.cells #[.int .i64 qa,.int .i64 qs] 77)=w1 at hB y0 y1 ⊢
 have HB:=Lib.hid hB
 have x1 : w1.cell? ⟨w.heap.size,0,none⟩=some (.int .i64 ra):=y0.cell 0
 have x2 : w1.cell? ⟨w.heap.size,1,none⟩=some (.int .i64 rs):=y0.cell 1
 have x3 : w1.cell? ⟨w.heap.size+1,0,none⟩=some (.int .i64 qa):=y1.cell 0
 have x4 : w1.cell? ⟨w.heap.size+1,1,none⟩=some (.int .i64 qs):=y1.cell 1
 clear hB y0 y1
 refine wp_region_still_tail 10 (by kernel_rfl) (by kernel_rfl) ?_
 simp only [List.take_succ_cons,List.take_zero,List.drop_succ_cons,List.drop_zero]
 repeat (refine wpStill_want rfl (fun K hK=>?_);go_simp;refine hK _ ?_;clear hK K)
 (refine wpStill_want rfl (fun K hK=>?_);go_simp;refine ⟨_,hc1 _,hK _ ?_⟩;clear hK K)
 repeat (refine wpStill_want rfl (fun K hK=>?_);go_simp;refine hK _ ?_;clear hK K)
 (refine wpStill_want rfl (fun K hK=>?_);go_simp;refine ⟨_,hc2 _,hK _ ?_⟩;clear hK K)
 repeat (refine wpStill_want rfl (fun K hK=>?_);go_simp;refine hK _ ?_;clear hK K)
 refine wpStill_nil ?_
 change wpList _ _ _ _ _ w1.drew
 have HB2 : Hid (Gr w w1.drew):=HB.out.drew
 generalize w1.drew=w2 at HB2 ⊢
 clear x1 x2 x3 x4
 go_wp2_with fail
 go_at_call 69
 refine (OR w2.heap.size _ (by rw [(Blk.new w2 _ _).cell 0];rfl) (by rw [(Blk.new w2 _ _).cell 1];rfl)).mono ?_
 rintro e w3 ⟨rfl,rfl⟩
 go_wp2_with fail
 go_ret
 exact ⟨rfl,HB2.out.alloc _⟩
end Go.Proofs.YtmpkejflgpodkaaGreatDoor
