/- Contracts of the program's books: the book in memory; New, Has, the ref of a change. -/
import Derived.Test.YtclgfcjcpbiadaaGreatDoorSRef11
import Derived.Test.YtclgfcjcpbiadaaGreatDoorM8
import Derived.Lib.SliceRun
import Derived.Shelf.Abstract
set_option linter.unusedVariables false
set_option linter.unusedSimpArgs false
namespace Go.Proofs.YtclgfcjcpbiadaaGreatDoor
open Go.ChangeShapes Go.WideShapes Go.ChangeAt Go.RowKit

def HasL (w : World) (b : Nat) (L : List ChD) : Prop := MapL w 25 b (L.map fun c => (refV c.rf, c.v))
theorem zero_ch (w : World) : (zeroValue 34).run Tryz.prog w = .ok zeroCh w := by kernel_rfl
def lookV (L : List ChD) (r : Rf) : Value := match findC L r with | some c => c.v | none => zeroCh
theorem HasL.look {w : World} {b : Nat} {L : List ChD} (h : HasL w b L) {r : Rf} (hr : I64R r) (hm : Bool) :
    (Instr.lookup 57 (.map (some b)) (.agg #[.int .i64 r.1, .int .i64 r.2]) hm).run Tryz.prog w = .ok (if hm then .tuple #[lookV L r, .bool (decide (r ∈ refsOf L))] else lookV L r) w := by
  unfold lookV
  cases hf : findC L r with
  | some c =>
    obtain ⟨h1, h2⟩ := findC_some hf
    rw [decide_eq_true (show r ∈ refsOf L from h2 ▸ mem_refs h1)]
    subst h2
    exact MapL.hit h keyed_ref Tryz.underlying57 (zero_ch w) (List.mem_map.2 ⟨c, h1, rfl⟩) hm
  | none =>
    have hn := findC_none.1 hf
    rw [decide_eq_false hn]
    obtain ⟨kl, hk⟩ := keyOf_ref hr
    refine MapL.miss h keyed_ref Tryz.underlying57 (zero_ch w) hk (fun p hp e => ?_) hm
    obtain ⟨q, hq, rfl⟩ := List.mem_map.1 hp
    exact hn (refV_inj e ▸ mem_refs hq)
theorem HasL.lookT {w : World} {b : Nat} {L : List ChD} (h : HasL w b L) {r : Rf} (hr : I64R r) {v : Value} (hv : lookV L r = v) {ok : Bool} (hok : decide (r ∈ refsOf L) = ok) :
    (Instr.lookup 57 (.map (some b)) (.agg #[.int .i64 r.1, .int .i64 r.2]) true).run Tryz.prog w = .ok (.tuple #[v, .bool ok]) w := by
  have := h.look hr true
  rw [hv, hok] at this
  exact this
theorem lookV_cells (L : List ChD) (r : Rf) : ∃ a s st A n c A' n' c', lookV L r = .agg #[.int .i64 a, .int .i64 s, .int .i64 st, .slice A n c, .slice A' n' c'] := by
  unfold lookV
  cases findC L r with
  | none => exact ⟨_, _, _, _, _, _, _, _, _, rfl⟩
  | some c => exact ⟨_, _, _, _, _, _, _, _, _, rfl⟩

theorem chref_any (a s : Int) (v2 v3 v4 : Value) (w : World) (h2 : v2.oneCell' = true) (h3 : v3.oneCell' = true) (h4 : v4.oneCell' = true) :
    Calls Tryz.prog 33 #[.agg #[.int .i64 a, .int .i64 s, v2, v3, v4]] w fun e w' => e = .returned (.agg #[.int .i64 a, .int .i64 s]) ∧ Below w.heap.size w w' := by
  have hres : Tryz.f33.results = #[.cell 2 25] := by kernel_rfl
  go_enter Tryz.func33, Tryz.ntmps33
  go_wp2_with fail
  refine bodyPost_ret (v := .agg #[.int .i64 a, .int .i64 s]) ?_ rfl ⟨rfl, ?_⟩
  · simp only [results, hres]
    go_simp
  · exact ((Below.refl _ w).alloc (Nat.le_refl _) _).alloc (by simp) _
set_option maxHeartbeats 2000000 in
set_option maxRecDepth 20000 in
theorem has_any (L : List ChD) (r : Rf) (hr : I64R r) (g bh : Nat) (V2 V3 : Value) (w : World) (hB : Blk w g 60 #[.map (some bh), V2, V3]) (hm : HasL w bh L) :
    Calls Tryz.prog 9 #[.pointer (some ⟨g, 0, none⟩), .agg #[.int .i64 r.1, .int .i64 r.2]] w fun e w' => e = .returned (.bool (decide (r ∈ refsOf L))) ∧ Below w.heap.size w w' := by
  have hW : Below w.heap.size w (w.alloc (.cells #[.int .i64 r.1, .int .i64 r.2] 25)) := (Below.refl _ w).alloc (Nat.le_refl _) _
  have hQ := Blk.new w 25 #[.int .i64 r.1, .int .i64 r.2]
  have HM : Hid (HasL (w.alloc (.cells #[.int .i64 r.1, .int .i64 r.2] 25)) bh L) := MapL.keep hm (hW.block _ (MapL.lt hm))
  have hG := hB.keep (hW.block _ hB.lt)
  have HW := Lib.hid hW
  obtain ⟨a, s, st, A, n, c, A', n', c', hlv⟩ := lookV_cells L r
  obtain ⟨ok, hok⟩ : ∃ ok, decide (r ∈ refsOf L) = ok := ⟨_, rfl⟩
  have HQ := Lib.hid hQ
  have HGB := Lib.hid hG
  rw [hok]
  go_enter Tryz.func9, Tryz.ntmps9
  go_wp2_with fail
  generalize w.alloc (.cells #[.int .i64 r.1, .int .i64 r.2] 25) = V at *
  have q0 : V.cell? ⟨w.heap.size, 0, none⟩ = some (.int .i64 r.1) := hQ.cell 0
  have q1 : V.cell? ⟨w.heap.size, 1, none⟩ = some (.int .i64 r.2) := hQ.cell 1
  have g0 : V.cell? ⟨g, 0, none⟩ = some (.map (some bh)) := hG.cell 0
  clear hW hQ hG hB hm
  go_wp2_with fail
  have hl := (show HasL V.drew bh L from MapL.keep HM.out rfl).lookT hr hlv hok
  have hql : w.heap.size < V.heap.size := HQ.out.lt
  have hgl : g < V.heap.size := HGB.out.lt
  have KS : ∀ o, (V.drew.alloc o).cell? ⟨w.heap.size, 0, none⟩ = some (.int .i64 r.1) ∧ (V.drew.alloc o).cell? ⟨w.heap.size, 1, none⟩ = some (.int .i64 r.2) ∧ (V.drew.alloc o).cell? ⟨g, 0, none⟩ = some (.map (some bh)) ∧ (Instr.lookup 57 (.map (some bh)) (.agg #[.int .i64 r.1, .int .i64 r.2]) true).run Tryz.prog (V.drew.alloc o) = .ok (.tuple #[.agg #[.int .i64 a, .int .i64 s, .int .i64 st, .slice A n c, .slice A' n' c'], .bool ok]) (V.drew.alloc o) := fun o => by
    refine ⟨?_, ?_, ?_, (show HasL (V.drew.alloc o) bh L from MapL.keep HM.out ((Below.refl _ V).drew.alloc (Nat.le_refl _) o |>.block _ (MapL.lt HM.out))).lookT hr hlv hok⟩
    · rw [World.cell?_alloc_lt _ _ _ (show _ < V.drew.heap.size from hql)]; exact q0
    · rw [World.cell?_alloc_lt _ _ _ (show _ < V.drew.heap.size from hql)]; exact q1
    · rw [World.cell?_alloc_lt _ _ _ (show _ < V.drew.heap.size from hgl)]; exact g0
  go_region_held3 (fun w' => w'.cell? ⟨w.heap.size, 0, none⟩ = some (.int .i64 r.1) ∧ w'.cell? ⟨w.heap.size, 1, none⟩ = some (.int .i64 r.2) ∧ w'.cell? ⟨g, 0, none⟩ = some (.map (some bh)) ∧ (Instr.lookup 57 (.map (some bh)) (.agg #[.int .i64 r.1, .int .i64 r.2]) true).run Tryz.prog w' = .ok (.tuple #[.agg #[.int .i64 a, .int .i64 s, .int .i64 st, .slice A n c, .slice A' n' c'], .bool ok]) w') (first | exact ⟨q0, q1, g0, hl⟩ | exact KS _ | go_keep) (fail)
  all_goals
    clear KS q0 q1 g0 hl
    have HV : Hid (Below w.heap.size w (V.alloc (.cells #[.int .i64 a, .int .i64 s, .int .i64 st, .slice A n c, .slice A' n' c'] 34)).drew) := (HW.out.alloc HW.out.size _).drew
    generalize (V.alloc (.cells #[.int .i64 a, .int .i64 s, .int .i64 st, .slice A n c, .slice A' n' c'] 34)).drew = V2 at HV ⊢
    go_wp2_with fail
    go_ret
    exact ⟨rfl, HV.out⟩
end Go.Proofs.YtclgfcjcpbiadaaGreatDoor

namespace Go.Proofs.YtclgfcjcpbiadaaGreatDoor
open Go.ChangeShapes Go.WideShapes Go.ChangeAt Go.RowKit

set_option maxHeartbeats 2000000 in
set_option maxRecDepth 20000 in
theorem cloneR_any (l : List Rf) (D : Nat → Prop) (A : Option Addr) (c : Nat) (w : World) (hr : Reads D w 2 A l.length (refC l)) (hD : ∀ k, D k → k < w.heap.size) (hl : l.length ≤ 1000000) :
    Calls Tryz.prog 63 #[.slice A l.length c] w fun e w' => ∃ A' c', e = .returned (.slice A' l.length c') ∧ w'.ownsRow w.heap.size 25 2 (.slice A' l.length c') l.length (refC l) ∧ Below w.heap.size w w' := by
  cases A with
  | none =>
    have hl0 : l = [] := by
      rcases Nat.eq_zero_or_pos l.length with h | h
      · exact List.length_eq_zero_iff.1 h
      · obtain ⟨ad, h', _⟩ := hr.2 h; cases h'
    subst hl0
    have hne := Lib.run_eql_slice_nil (P := Tryz.prog) w 23 25 none 0 c 0 0 Tryz.underlying23
    go_enter Tryz.func63, Tryz.ntmps63
    go_wp2_with fail
    go_ret
    exact ⟨none, 0, rfl, own_nil _ _ _ _, Below.refl _ _⟩
  | some ad =>
    have HR := Lib.hid (hr.more hD)
    obtain ⟨n, hn⟩ : ∃ n, l.length = n := ⟨_, rfl⟩
    have hne := Lib.run_eql_slice_nil (P := Tryz.prog) w 23 25 (some ad) n c 0 0 Tryz.underlying23
    obtain ⟨i0, hi, hz0, hz1, hz2⟩ := info_parts infoRef
    clear hr
    rw [hn] at hl HR ⊢
    clear hn
    go_enter Tryz.func63, Tryz.ntmps63
    go_wp2_with (at_builtin; refine wpList_append_any _ rfl (.tmp 5) (.tmp 6) _ rfl (w.heap.size) 25 i0 _ 2 16 Tryz.underlying23 hi hz0 hz1 hz2 rfl (by omega) (.slice (some ⟨w.heap.size, 0, none⟩) 0 0) 0 [] rfl (World.ownsRow_lit w #[] 0 (Nat.le_refl _) (by simp [maxLen]) (by simp)) _ (some ad) n c (refC l) rfl (reads_below HR.out ((Below.refl _ w).alloc (Nat.le_refl _) _)) (refC_one l) ?c1 ?c2 ?c3 ?_)
    try case c1 => simp only [maxLen]; omega
    try case c2 => omega
    try case c3 => simp
    intro v4 w4 ho4 hg4 hat4
    have HW4 : Hid (Below w.heap.size w w4) := ((Below.refl _ w).alloc (Nat.le_refl _) _).grown hg4 (by simp) (fun g hg => by simp [Value.ownBlock] at hg; omega)
    have ho5 : w4.ownsRow w.heap.size 25 2 v4 n (refC l) := by simpa using ho4
    obtain ⟨A', c', rfl, -, -, -⟩ := Reads.of_own ho5
    have HO := Lib.hid ho5
    clear ho4 ho5 hg4 hat4
    go_wp2_with fail
    go_ret
    exact ⟨_, _, rfl, HO.out, HW4.out⟩
theorem eq_idD (a b c d : Int) (w : World) : (Op.equalIn 10000 82 (.agg #[.int .i64 a, .int .i64 b]) (.agg #[.int .i64 c, .int .i64 d])).run Tryz.prog w = .ok (decide ((a, b) = (c, d))) w := by
  rw [eq_id]
  by_cases h1 : a = c <;> by_cases h2 : b = d <;> simp [h1, h2]
def zeroOp : Value := .agg #[.int .i64 0, .int .i64 0, .int .i64 0, .string ⟨#[]⟩, .int .i64 0, .int .i64 0, .bool false, .int .i64 0, .int .i64 0, .string ⟨#[]⟩, .int .i64 0, .int .i64 0, .slice none 0 0]
theorem infoOp : (Tryz.prog.info? 87).map (fun i => (i.zero, i.size, i.bytes)) = some (some zeroOp, 13, 136) := by kernel_rfl
theorem opsC_one (l : List OpD) : ∀ u ∈ opsC l, u.oneCell' = true := by
  intro u hu
  obtain ⟨o, _, h⟩ := List.mem_flatMap.1 hu
  simp only [opC, List.mem_cons, List.not_mem_nil, or_false] at h
  rcases h with rfl | rfl | rfl | rfl | rfl | rfl | rfl | rfl | rfl | rfl | rfl | rfl | rfl <;> rfl
set_option maxHeartbeats 2000000 in
set_option maxRecDepth 20000 in
theorem cloneI_any (l : List Rf) (D : Nat → Prop) (A : Option Addr) (c : Nat) (w : World) (hr : Reads D w 2 A l.length (refC l)) (hD : ∀ k, D k → k < w.heap.size) (hl : l.length ≤ 1000000) :
    Calls Tryz.prog 65 #[.slice A l.length c] w fun e w' => ∃ A' c', e = .returned (.slice A' l.length c') ∧ w'.ownsRow w.heap.size 82 2 (.slice A' l.length c') l.length (refC l) ∧ Below w.heap.size w w' := by
  cases A with
  | none =>
    have hl0 : l = [] := by
      rcases Nat.eq_zero_or_pos l.length with h | h
      · exact List.length_eq_zero_iff.1 h
      · obtain ⟨ad, h', _⟩ := hr.2 h; cases h'
    subst hl0
    have hne := Lib.run_eql_slice_nil (P := Tryz.prog) w 85 82 none 0 c 0 0 Tryz.underlying85
    go_enter Tryz.func65, Tryz.ntmps65
    go_wp2_with fail
    go_ret
    exact ⟨none, 0, rfl, own_nil _ _ _ _, Below.refl _ _⟩
  | some ad =>
    have HR := Lib.hid (hr.more hD)
    obtain ⟨n, hn⟩ : ∃ n, l.length = n := ⟨_, rfl⟩
    have hne := Lib.run_eql_slice_nil (P := Tryz.prog) w 85 82 (some ad) n c 0 0 Tryz.underlying85
    obtain ⟨i0, hi, hz0, hz1, hz2⟩ := info_parts infoId
    clear hr
    rw [hn] at hl HR ⊢
    clear hn
    go_enter Tryz.func65, Tryz.ntmps65
    go_wp2_with (at_builtin; refine wpList_append_any _ rfl (.tmp 5) (.tmp 6) _ rfl (w.heap.size) 82 i0 _ 2 16 Tryz.underlying85 hi hz0 hz1 hz2 rfl (by omega) (.slice (some ⟨w.heap.size, 0, none⟩) 0 0) 0 [] rfl (World.ownsRow_lit w #[] 0 (Nat.le_refl _) (by simp [maxLen]) (by simp)) _ (some ad) n c (refC l) rfl (reads_below HR.out ((Below.refl _ w).alloc (Nat.le_refl _) _)) (refC_one l) ?c1 ?c2 ?c3 ?_)
    try case c1 => simp only [maxLen]; omega
    try case c2 => omega
    try case c3 => simp
    intro v4 w4 ho4 hg4 hat4
    have HW4 : Hid (Below w.heap.size w w4) := ((Below.refl _ w).alloc (Nat.le_refl _) _).grown hg4 (by simp) (fun g hg => by simp [Value.ownBlock] at hg; omega)
    have ho5 : w4.ownsRow w.heap.size 82 2 v4 n (refC l) := by simpa using ho4
    obtain ⟨A', c', rfl, -, -, -⟩ := Reads.of_own ho5
    have HO := Lib.hid ho5
    clear ho4 ho5 hg4 hat4
    go_wp2_with fail
    go_ret
    exact ⟨_, _, rfl, HO.out, HW4.out⟩
set_option maxHeartbeats 2000000 in
set_option maxRecDepth 20000 in
theorem cloneO_any (l : List OpD) (D : Nat → Prop) (A : Option Addr) (c : Nat) (w : World) (hr : Reads D w 13 A l.length (opsC l)) (hD : ∀ k, D k → k < w.heap.size) (hl : l.length ≤ 1000000) :
    Calls Tryz.prog 64 #[.slice A l.length c] w fun e w' => ∃ A' c', e = .returned (.slice A' l.length c') ∧ w'.ownsRow w.heap.size 87 13 (.slice A' l.length c') l.length (opsC l) ∧ Below w.heap.size w w' := by
  cases A with
  | none =>
    have hl0 : l = [] := by
      rcases Nat.eq_zero_or_pos l.length with h | h
      · exact List.length_eq_zero_iff.1 h
      · obtain ⟨ad, h', _⟩ := hr.2 h; cases h'
    subst hl0
    have hne := Lib.run_eql_slice_nil (P := Tryz.prog) w 32 87 none 0 c 0 0 Tryz.underlying32
    go_enter Tryz.func64, Tryz.ntmps64
    go_wp2_with fail
    go_ret
    exact ⟨none, 0, rfl, own_nil _ _ _ _, Below.refl _ _⟩
  | some ad =>
    have HR := Lib.hid (hr.more hD)
    obtain ⟨n, hn⟩ : ∃ n, l.length = n := ⟨_, rfl⟩
    have hne := Lib.run_eql_slice_nil (P := Tryz.prog) w 32 87 (some ad) n c 0 0 Tryz.underlying32
    obtain ⟨i0, hi, hz0, hz1, hz2⟩ := info_parts infoOp
    clear hr
    rw [hn] at hl HR ⊢
    clear hn
    go_enter Tryz.func64, Tryz.ntmps64
    go_wp2_with (at_builtin; refine wpList_append_any _ rfl (.tmp 5) (.tmp 6) _ rfl (w.heap.size) 87 i0 _ 13 136 Tryz.underlying32 hi hz0 hz1 hz2 rfl (by omega) (.slice (some ⟨w.heap.size, 0, none⟩) 0 0) 0 [] rfl (World.ownsRow_lit w #[] 0 (Nat.le_refl _) (by simp [maxLen]) (by simp)) _ (some ad) n c (opsC l) rfl (reads_below HR.out ((Below.refl _ w).alloc (Nat.le_refl _) _)) (opsC_one l) ?c1 ?c2 ?c3 ?_)
    try case c1 => simp only [maxLen]; omega
    try case c2 => omega
    try case c3 => simp
    intro v4 w4 ho4 hg4 hat4
    have HW4 : Hid (Below w.heap.size w w4) := ((Below.refl _ w).alloc (Nat.le_refl _) _).grown hg4 (by simp) (fun g hg => by simp [Value.ownBlock] at hg; omega)
    have ho5 : w4.ownsRow w.heap.size 87 13 v4 n (opsC l) := by simpa using ho4
    obtain ⟨A', c', rfl, -, -, -⟩ := Reads.of_own ho5
    have HO := Lib.hid ho5
    clear ho4 ho5 hg4 hat4
    go_wp2_with fail
    go_ret
    exact ⟨_, _, rfl, HO.out, HW4.out⟩
set_option maxHeartbeats 2000000 in
set_option maxRecDepth 20000 in
theorem equalR_any (l l2 : List Rf) (A A2 : Option Addr) (c c2 : Nat) (w : World) (hr : Reads (fun k => k < w.heap.size) w 2 A l.length (refC l)) (hr2 : Reads (fun k => k < w.heap.size) w 2 A2 l2.length (refC l2)) (hl : l.length ≤ 9223372036854775807) (hl2 : l2.length ≤ 9223372036854775807) :
    Calls Tryz.prog 59 #[.slice A l.length c, .slice A2 l2.length c2] w fun e w' => e = .returned (.bool (decide (l = l2))) ∧ Below w.heap.size w w' := by
  obtain ⟨n, hn⟩ : ∃ n, l.length = n := ⟨_, rfl⟩
  obtain ⟨n2, hn2⟩ : ∃ n2, l2.length = n2 := ⟨_, rfl⟩
  have HN := Lib.hid hn
  have HN2 := Lib.hid hn2
  have HR := Lib.hid hr
  have HR2 := Lib.hid hr2
  rw [hn] at hl
  rw [hn2] at hl2
  rw [hn, hn2]
  clear hr hr2
  by_cases hnn : n = n2
  · subst hnn
    clear hn hn2
    go_enter Tryz.func59, Tryz.ntmps59
    go_wp2_with fail
    go_loopw [5, 13] (fun _ s13 wr => ∃ k : Nat, s13 = .int .i64 k ∧ k ≤ n ∧ Hid (l.take k = l2.take k) ∧ ∃ m, wr = w.drewN m) (fun _ s13 _ => n - (intOf s13).toNat)
    case atStart => exact ⟨0, rfl, by omega, by show _ = _; simp, 0, rfl⟩
    case round =>
      obtain ⟨k, rfl, hk, HI, m, rfl⟩ := hrel
      by_cases hlt : k < n
      · obtain ⟨b1, o1, rfl, -, hc1⟩ := HR.out.at_ (by rw [HN.out]; omega) (by omega)
        obtain ⟨b2, o2, rfl, -, hc2⟩ := HR2.out.at_ (by rw [HN2.out]; omega) (by omega)
        obtain ⟨x, hx⟩ : ∃ x, l[k]? = some x := ⟨_, List.getElem?_eq_getElem (by rw [HN.out]; exact hlt)⟩
        obtain ⟨y, hy⟩ : ∃ y, l2[k]? = some y := ⟨_, List.getElem?_eq_getElem (by rw [HN2.out]; exact hlt)⟩
        have x1 : w.cell? ⟨b1, o1 + k * 2, none⟩ = some (.int .i64 x.1) := hc1 _ _ (refC_at hx).1
        have x2 : w.cell? ⟨b1, o1 + k * 2 + 1, none⟩ = some (.int .i64 x.2) := hc1 _ _ (refC_at hx).2
        have y1 : w.cell? ⟨b2, o2 + k * 2, none⟩ = some (.int .i64 y.1) := hc2 _ _ (refC_at hy).1
        have y2 : w.cell? ⟨b2, o2 + k * 2 + 1, none⟩ = some (.int .i64 y.2) := hc2 _ _ (refC_at hy).2
        have E := fun w => eq_ref x.1 x.2 y.1 y.2 w
        by_cases hxy : x = y
        · have HI2 : Hid (l.take (k + 1) = l2.take (k + 1)) := by show _ = _; rw [List.take_add_one, List.take_add_one, HI.out, hx, hy, hxy]
          have e1 : decide ((x.1, x.2) = (y.1, y.2)) = true := decide_eq_true hxy
          rw [e1] at E
          clear hc1 hc2 hx hy hxy e1
          go_wp2_with fail
          go_quiet (fail)
          change Exit.then _ _ _ _ ((w.drewN m).drewN nq)
          have HW : Hid ((w.drewN m).drewN nq = w.drewN (m + nq)) := by show _ = _; rw [World.drewN_drewN]
          generalize (w.drewN m).drewN nq = w3 at HW ⊢
          clear x1 x2 y1 y2 E
          go_wp2_with fail
          go_roundw
          case rel => exact ⟨k + 1, by go_num, by omega, HI2, _, HW.out⟩
          case measure => simp [intOf]; omega
        · have HE : Hid (decide (l = l2) = false) := decide_eq_false fun e => hxy (by rw [e, hy] at hx; cases hx; rfl)
          have e1 : decide ((x.1, x.2) = (y.1, y.2)) = false := decide_eq_false hxy
          rw [e1] at E
          clear hc1 hc2 hx hy hxy e1
          go_wp2_with fail
          go_quiet (fail)
          go_wp2_with fail
          go_ret
          exact ⟨by rw [HE.out]; rfl, by rw [World.drewN_drewN]; exact below_drewN (Below.refl _ w) _⟩
      · have HE : Hid (decide (l = l2) = true) := decide_eq_true (by have := HI.out; rwa [List.take_of_length_le (by rw [HN.out]; omega), List.take_of_length_le (by rw [HN2.out]; omega)] at this)
        go_wp2_with fail
        go_ret
        exact ⟨by rw [HE.out]; rfl, below_drewN (Below.refl _ w) _⟩
  · have HE : Hid (decide (l = l2) = false) := decide_eq_false fun e => hnn (by rw [← hn, ← hn2, e])
    have hd : ((n : Int) != (n2 : Int)) = true := by simp; omega
    clear hn hn2
    go_enter Tryz.func59, Tryz.ntmps59
    go_wp2_with fail
    go_ret
    exact ⟨by rw [HE.out]; rfl, Below.refl _ _⟩
set_option maxHeartbeats 2000000 in
set_option maxRecDepth 20000 in
theorem equalI_any (l l2 : List Rf) (A A2 : Option Addr) (c c2 : Nat) (w : World) (hr : Reads (fun k => k < w.heap.size) w 2 A l.length (refC l)) (hr2 : Reads (fun k => k < w.heap.size) w 2 A2 l2.length (refC l2)) (hl : l.length ≤ 9223372036854775807) (hl2 : l2.length ≤ 9223372036854775807) :
    Calls Tryz.prog 62 #[.slice A l.length c, .slice A2 l2.length c2] w fun e w' => e = .returned (.bool (decide (l = l2))) ∧ Below w.heap.size w w' := by
  obtain ⟨n, hn⟩ : ∃ n, l.length = n := ⟨_, rfl⟩
  obtain ⟨n2, hn2⟩ : ∃ n2, l2.length = n2 := ⟨_, rfl⟩
  have HN := Lib.hid hn
  have HN2 := Lib.hid hn2
  have HR := Lib.hid hr
  have HR2 := Lib.hid hr2
  rw [hn] at hl
  rw [hn2] at hl2
  rw [hn, hn2]
  clear hr hr2
  by_cases hnn : n = n2
  · subst hnn
    clear hn hn2
    go_enter Tryz.func62, Tryz.ntmps62
    go_wp2_with fail
    go_loopw [5, 13] (fun _ s13 wr => ∃ k : Nat, s13 = .int .i64 k ∧ k ≤ n ∧ Hid (l.take k = l2.take k) ∧ ∃ m, wr = w.drewN m) (fun _ s13 _ => n - (intOf s13).toNat)
    case atStart => exact ⟨0, rfl, by omega, by show _ = _; simp, 0, rfl⟩
    case round =>
      obtain ⟨k, rfl, hk, HI, m, rfl⟩ := hrel
      by_cases hlt : k < n
      · obtain ⟨b1, o1, rfl, -, hc1⟩ := HR.out.at_ (by rw [HN.out]; omega) (by omega)
        obtain ⟨b2, o2, rfl, -, hc2⟩ := HR2.out.at_ (by rw [HN2.out]; omega) (by omega)
        obtain ⟨x, hx⟩ : ∃ x, l[k]? = some x := ⟨_, List.getElem?_eq_getElem (by rw [HN.out]; exact hlt)⟩
        obtain ⟨y, hy⟩ : ∃ y, l2[k]? = some y := ⟨_, List.getElem?_eq_getElem (by rw [HN2.out]; exact hlt)⟩
        have x1 : w.cell? ⟨b1, o1 + k * 2, none⟩ = some (.int .i64 x.1) := hc1 _ _ (refC_at hx).1
        have x2 : w.cell? ⟨b1, o1 + k * 2 + 1, none⟩ = some (.int .i64 x.2) := hc1 _ _ (refC_at hx).2
        have y1 : w.cell? ⟨b2, o2 + k * 2, none⟩ = some (.int .i64 y.1) := hc2 _ _ (refC_at hy).1
        have y2 : w.cell? ⟨b2, o2 + k * 2 + 1, none⟩ = some (.int .i64 y.2) := hc2 _ _ (refC_at hy).2
        have E := fun w => eq_idD x.1 x.2 y.1 y.2 w
        by_cases hxy : x = y
        · have HI2 : Hid (l.take (k + 1) = l2.take (k + 1)) := by show _ = _; rw [List.take_add_one, List.take_add_one, HI.out, hx, hy, hxy]
          have e1 : decide ((x.1, x.2) = (y.1, y.2)) = true := decide_eq_true hxy
          rw [e1] at E
          clear hc1 hc2 hx hy hxy e1
          go_wp2_with fail
          go_quiet (fail)
          change Exit.then _ _ _ _ ((w.drewN m).drewN nq)
          have HW : Hid ((w.drewN m).drewN nq = w.drewN (m + nq)) := by show _ = _; rw [World.drewN_drewN]
          generalize (w.drewN m).drewN nq = w3 at HW ⊢
          clear x1 x2 y1 y2 E
          go_wp2_with fail
          go_roundw
          case rel => exact ⟨k + 1, by go_num, by omega, HI2, _, HW.out⟩
          case measure => simp [intOf]; omega
        · have HE : Hid (decide (l = l2) = false) := decide_eq_false fun e => hxy (by rw [e, hy] at hx; cases hx; rfl)
          have e1 : decide ((x.1, x.2) = (y.1, y.2)) = false := decide_eq_false hxy
          rw [e1] at E
          clear hc1 hc2 hx hy hxy e1
          go_wp2_with fail
          go_quiet (fail)
          go_wp2_with fail
          go_ret
          exact ⟨by rw [HE.out]; rfl, by rw [World.drewN_drewN]; exact below_drewN (Below.refl _ w) _⟩
      · have HE : Hid (decide (l = l2) = true) := decide_eq_true (by have := HI.out; rwa [List.take_of_length_le (by rw [HN.out]; omega), List.take_of_length_le (by rw [HN2.out]; omega)] at this)
        go_wp2_with fail
        go_ret
        exact ⟨by rw [HE.out]; rfl, below_drewN (Below.refl _ w) _⟩
  · have HE : Hid (decide (l = l2) = false) := decide_eq_false fun e => hnn (by rw [← hn, ← hn2, e])
    have hd : ((n : Int) != (n2 : Int)) = true := by simp; omega
    clear hn hn2
    go_enter Tryz.func62, Tryz.ntmps62
    go_wp2_with fail
    go_ret
    exact ⟨by rw [HE.out]; rfl, Below.refl _ _⟩
end Go.Proofs.YtclgfcjcpbiadaaGreatDoor

namespace Go.Proofs.YtclgfcjcpbiadaaGreatDoor
open Go.ChangeShapes Go.WideShapes Go.ChangeAt Go.RowKit

/-- a predicate over the refs of a row, handed over as a function value; it may lay new blocks -/
def PredB (gf : Nat) (lb : Array Value) (l : List Rf) (p : Rf → Bool) (w : World) : Prop :=
  ∀ (W : World) (r : Rf), r ∈ l → Below w.heap.size w W → Calls Tryz.prog gf (#[.agg #[.int .i64 r.1, .int .i64 r.2]] ++ lb) W fun e w' => e = .returned (.bool (p r)) ∧ Below W.heap.size W w'
def idxP (p : Rf → Bool) (l : List Rf) : Int := match l.findIdx? p with | some k => (k : Int) | none => -1
theorem idx_some (p : Rf → Bool) : ∀ {l : List Rf} {k : Nat} {x : Rf}, l[k]? = some x → p x = true → (∀ y ∈ l.take k, p y = false) → l.findIdx? p = some k
  | [], _, _, h, _, _ => by simp at h
  | a :: l, 0, x, h, hp, _ => by
    simp only [List.getElem?_cons_zero, Option.some.injEq] at h
    subst h
    simp [List.findIdx?_cons, hp]
  | a :: l, k + 1, x, h, hp, hn => by
    have ha : p a = false := hn a (by simp)
    have ih := idx_some p (l := l) (k := k) (x := x) (by simpa using h) hp fun y hy => hn y (by simp [hy])
    rw [List.findIdx?_cons, ha, ih]
    simp
theorem idx_none (p : Rf → Bool) {l : List Rf} (h : ∀ y ∈ l, p y = false) : l.findIdx? p = none := List.findIdx?_eq_none_iff.2 h
theorem take_snoc_all {p : Rf → Bool} {l : List Rf} {k : Nat} {x : Rf} (hx : l[k]? = some x) (h : ∀ y ∈ l.take k, p y = false) (hp : p x = false) : ∀ y ∈ l.take (k + 1), p y = false := by
  intro y hy
  rw [List.take_add_one, hx] at hy
  rcases List.mem_append.1 hy with hy | hy
  · exact h y hy
  · simp at hy; rw [hy]; exact hp
set_option maxHeartbeats 2000000 in
set_option maxRecDepth 20000 in
theorem indexF_any (l : List Rf) (A : Option Addr) (c : Nat) (w : World) (hr : Reads (fun k => k < w.heap.size) w 2 A l.length (refC l)) (hl : l.length ≤ 9223372036854775807) (gf : Nat) (lb : Array Value) (p : Rf → Bool)
    (eg : ∀ args w, (callFunc gf args).run Tryz.prog w = .ok (.enter gf args) w) (hp : PredB gf lb l p w) :
    Calls Tryz.prog 46 #[.slice A l.length c, .func (.func gf) #[] lb] w fun e w' => e = .returned (.int .i64 (idxP p l)) ∧ Below w.heap.size w w' := by
  obtain ⟨n, hn⟩ : ∃ n, l.length = n := ⟨_, rfl⟩
  have HN := Lib.hid hn
  have HR := Lib.hid hr
  have HP := Lib.hid hp
  rw [hn] at hl ⊢
  clear hn hr hp
  go_enter Tryz.func46, Tryz.ntmps46
  go_wp2_with fail
  go_loopw [5, 8] (fun _ s8 wr => ∃ k : Nat, s8 = .int .i64 k ∧ k ≤ n ∧ Hid (∀ y ∈ l.take k, p y = false) ∧ Hid (Below w.heap.size w wr)) (fun _ s8 _ => n - (intOf s8).toNat)
  case atStart => exact ⟨0, rfl, by omega, by show ∀ y ∈ _, _; simp, Below.refl _ _⟩
  case round =>
    obtain ⟨k, rfl, hk, HI, HW⟩ := hrel
    by_cases hlt : k < n
    · obtain ⟨b1, o1, rfl, -, hc1⟩ := (reads_below HR.out HW.out).at_ (by rw [HN.out]; omega) (by omega)
      obtain ⟨x, hx⟩ : ∃ x, l[k]? = some x := ⟨_, List.getElem?_eq_getElem (by rw [HN.out]; exact hlt)⟩
      have x1 : wr.cell? ⟨b1, o1 + k * 2, none⟩ = some (.int .i64 x.1) := hc1 _ _ (refC_at hx).1
      have x2 : wr.cell? ⟨b1, o1 + k * 2 + 1, none⟩ = some (.int .i64 x.2) := hc1 _ _ (refC_at hx).2
      have HX := Lib.hid hx
      clear hc1 hx
      go_wp2_with fail
      refine (HP.out wr x (List.mem_of_getElem? HX.out) HW.out).mono ?_
      rintro e w2 ⟨rfl, hb⟩
      replace HW : Hid (Below w.heap.size w w2) := HW.out.trans (hb.mono HW.out.size)
      clear hb x1 x2
      cases hpx : p x with
      | true =>
        have HE : Hid (idxP p l = (k : Int)) := by show _ = _; unfold idxP; rw [idx_some p HX.out hpx HI.out]
        clear hpx
        go_wp2_with fail
        go_ret
        exact ⟨by rw [HE.out]; rfl, HW.out⟩
      | false =>
        have HI2 : Hid (∀ y ∈ l.take (k + 1), p y = false) := take_snoc_all HX.out HI.out hpx
        clear hpx
        go_wp2_with fail
        go_roundw
        case rel => exact ⟨k + 1, by go_num, by omega, HI2, HW⟩
        case measure => simp [intOf]; omega
    · have HE : Hid (idxP p l = -1) := by show _ = _; unfold idxP; rw [idx_none p (by have := HI.out; rwa [List.take_of_length_le (by rw [HN.out]; omega)] at this)]
      go_wp2_with fail
      go_ret
      exact ⟨by rw [HE.out]; rfl, HW.out⟩
theorem idxP_nonneg (p : Rf → Bool) (l : List Rf) : decide (0 ≤ idxP p l) = l.any p := by
  unfold idxP
  cases h : l.findIdx? p with
  | none =>
    have h' : ∀ x ∈ l, p x = false := List.findIdx?_eq_none_iff.1 h
    rw [show l.any p = false from List.any_eq_false.2 fun x hx => by simp [h' x hx]]
    rfl
  | some k =>
    have h' : l.any p = true := by
      cases ha : l.any p with
      | true => rfl
      | false =>
        have := List.findIdx?_eq_none_iff.2 (fun x hx => by have := List.any_eq_false.1 ha x hx; simpa using this)
        rw [h] at this; cases this
    rw [h']
    exact decide_eq_true (by show (0 : Int) ≤ (k : Int); omega)
set_option maxHeartbeats 2000000 in
theorem containsF_any (l : List Rf) (A : Option Addr) (c : Nat) (w : World) (hr : Reads (fun k => k < w.heap.size) w 2 A l.length (refC l)) (hl : l.length ≤ 9223372036854775807) (gf : Nat) (lb : Array Value) (p : Rf → Bool)
    (eg : ∀ args w, (callFunc gf args).run Tryz.prog w = .ok (.enter gf args) w) (hp : PredB gf lb l p w) :
    Calls Tryz.prog 48 #[.slice A l.length c, .func (.func gf) #[] lb] w fun e w' => e = .returned (.bool (l.any p)) ∧ Below w.heap.size w w' := by
  have C1 := indexF_any l A c w hr hl gf lb p eg hp
  have hi := idxP_nonneg p l
  have hi' : decide (idxP p l ≥ 0) = l.any p := hi
  generalize idxP p l = ix at C1 hi hi'
  generalize l.any p = ok at hi hi' ⊢
  clear hr hp eg
  go_enter Tryz.func48, Tryz.ntmps48
  go_wp2_with fail
  go_at_call 46
  refine C1.mono ?_
  rintro e w2 ⟨rfl, hb⟩
  go_wp2_with fail
  go_ret
  exact ⟨rfl, hb⟩
/-- the program's book, as far as what it has goes -/
structure HB (w : World) (g bh : Nat) (V2 V3 : Value) (L : List ChD) : Prop where
  blk : Blk w g 60 #[.map (some bh), V2, V3]
  mh : HasL w bh L
theorem HB.below {w w' : World} {g bh : Nat} {V2 V3 : Value} {L : List ChD} (h : HB w g bh V2 V3 L) (hb : Below w.heap.size w w') : HB w' g bh V2 V3 L :=
  ⟨h.blk.keep (hb.block _ h.blk.lt), MapL.keep h.mh (hb.block _ (MapL.lt h.mh))⟩
set_option maxHeartbeats 2000000 in
theorem ready1_any (L : List ChD) (r : Rf) (hr : I64R r) (g bh q : Nat) (V2 V3 : Value) (w : World) (hB : HB w g bh V2 V3 L) (hq : w.cell? ⟨q, 0, none⟩ = some (.pointer (some ⟨g, 0, none⟩))) (hql : q < w.heap.size) :
    Calls Tryz.prog 66 (#[.agg #[.int .i64 r.1, .int .i64 r.2]] ++ #[.pointer (some ⟨q, 0, none⟩)]) w fun e w' => e = .returned (.bool (!decide (r ∈ refsOf L))) ∧ Below w.heap.size w w' := by
  have hW : Below w.heap.size w (w.alloc (.cells #[.int .i64 r.1, .int .i64 r.2] 25)) := (Below.refl _ w).alloc (Nat.le_refl _) _
  have hQ := Blk.new w 25 #[.int .i64 r.1, .int .i64 r.2]
  have HQ := Lib.hid hQ
  have HW := Lib.hid hW
  have HBB := Lib.hid (hB.below hW)
  have q1 : (w.alloc (.cells #[.int .i64 r.1, .int .i64 r.2] 25)).cell? ⟨q, 0, none⟩ = some (.pointer (some ⟨g, 0, none⟩)) := by rw [World.cell?_alloc_lt _ _ _ hql]; exact hq
  clear hW hQ hB hq
  obtain ⟨ok, hok⟩ : ∃ ok, decide (r ∈ refsOf L) = ok := ⟨_, rfl⟩
  rw [hok]
  show Calls _ _ #[_, _] _ _
  go_enter Tryz.func66, Tryz.ntmps66
  go_wp2_with fail
  generalize w.alloc (.cells #[.int .i64 r.1, .int .i64 r.2] 25) = V at *
  have r1 : V.cell? ⟨w.heap.size, 0, none⟩ = some (.int .i64 r.1) := HQ.out.cell 0
  have r2 : V.cell? ⟨w.heap.size, 1, none⟩ = some (.int .i64 r.2) := HQ.out.cell 1
  have C1 := has_any L r hr g bh V2 V3 V HBB.out.blk HBB.out.mh
  rw [hok] at C1
  go_wp2_with fail
  go_at_call 9
  refine C1.mono ?_
  rintro e w2 ⟨rfl, hb⟩
  replace HW : Hid (Below w.heap.size w w2) := HW.out.trans (hb.mono HW.out.size)
  go_wp2_with fail
  go_ret
  exact ⟨rfl, HW.out⟩
theorem ready_eq (L : List ChD) (c : ChD) : (!c.deps.any fun d => !decide (d ∈ refsOf L)) = readyP L c := by
  unfold readyP
  rw [List.not_any_eq_all_not]
  simp
set_option maxHeartbeats 2000000 in
theorem ready_any (L : List ChD) (c : ChD) (hd : ∀ d ∈ c.deps, I64R d) (g bh : Nat) (V2 V3 : Value) (w : World) (hB : HB w g bh V2 V3 L) (hc : ChIn (fun k => k < w.heap.size) w c) :
    Calls Tryz.prog 36 #[.pointer (some ⟨g, 0, none⟩), c.v] w fun e w' => e = .returned (.bool (readyP L c)) ∧ Below w.heap.size w w' := by
  have hW1 : Below w.heap.size w (w.alloc (.cells #[.pointer (some ⟨g, 0, none⟩)] 26)) := (Below.refl _ w).alloc (Nat.le_refl _) _
  have hQ1 := Blk.new w 26 #[.pointer (some ⟨g, 0, none⟩)]
  generalize hV1 : w.alloc (.cells #[.pointer (some ⟨g, 0, none⟩)] 26) = V1 at hW1 hQ1
  have hs1 : V1.heap.size = w.heap.size + 1 := by rw [← hV1]; simp
  have hW2 : Below w.heap.size w (V1.alloc (.cells #[.int .i64 c.a, .int .i64 c.s, .int .i64 c.st, .slice c.DA c.deps.length c.DC, .slice c.OA c.ops.length c.OC] 34)) := hW1.alloc hW1.size _
  have hQ2 := Blk.new V1 34 #[.int .i64 c.a, .int .i64 c.s, .int .i64 c.st, .slice c.DA c.deps.length c.DC, .slice c.OA c.ops.length c.OC]
  have hQ3 := hQ1.keep (w' := V1.alloc (.cells #[.int .i64 c.a, .int .i64 c.s, .int .i64 c.st, .slice c.DA c.deps.length c.DC, .slice c.OA c.ops.length c.OC] 34)) (((Below.refl _ V1).alloc (Nat.le_refl _) _).block _ hQ1.lt)
  have HW := Lib.hid hW2
  have HBB := Lib.hid (hB.below hW2)
  have HC := Lib.hid (hc.keep fun k hk => hW2.block k hk)
  have HCD := Lib.hid (reads_below hc.hd hW2)
  have hdl := hc.hdl
  have he := ready_eq L c
  rw [← he]
  obtain ⟨ok, hok⟩ : ∃ ok, (c.deps.any fun d => !decide (d ∈ refsOf L)) = ok := ⟨_, rfl⟩
  rw [hok]
  have EG : ∀ args w, (callFunc 66 args).run Tryz.prog w = .ok (.enter 66 args) w := enters_of Tryz.func66 (by kernel_rfl) (Option.some_get (show Tryz.f66.body.isSome = true by kernel_rfl)).symm
  unfold ChD.v
  clear hB hc hW1 hW2
  go_enter Tryz.func36, Tryz.ntmps36
  go_wp2_with fail
  generalize hV2 : V1.alloc (.cells #[.int .i64 c.a, .int .i64 c.s, .int .i64 c.st, .slice c.DA c.deps.length c.DC, .slice c.OA c.ops.length c.OC] 34) = V2' at *
  have hqc : V2'.cell? ⟨w.heap.size, 0, none⟩ = some (.pointer (some ⟨g, 0, none⟩)) := hQ3.cell 0
  have C1 := containsF_any c.deps c.DA c.DC V2' HCD.out hdl 66 #[.pointer (some ⟨w.heap.size, 0, none⟩)] (fun d => !decide (d ∈ refsOf L)) EG
    (fun W r hr hb => ready1_any L r (hd r hr) g bh w.heap.size V2 V3 W (HBB.out.below hb) ((World.cell?_of_block (hb.block _ hQ3.lt)).trans hqc) (Nat.lt_of_lt_of_le hQ3.lt hb.size))
  rw [hok] at C1
  go_at_call 48
  refine C1.mono ?_
  rintro e w2 ⟨rfl, hb⟩
  replace HW : Hid (Below w.heap.size w w2) := HW.out.trans (hb.mono HW.out.size)
  go_wp2_with fail
  go_ret
  exact ⟨rfl, HW.out⟩
end Go.Proofs.YtclgfcjcpbiadaaGreatDoor
