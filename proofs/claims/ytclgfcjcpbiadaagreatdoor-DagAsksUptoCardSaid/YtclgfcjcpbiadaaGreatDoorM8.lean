/- Contracts: id.Less; change.ids: are ids not too many, and do they rise? -/
import Derived.Test.YtclgfcjcpbiadaaGreatDoorClkC
import Derived.Test.YtclgfcjcpbiadaaGreatDoorRefCmp
import Derived.Laws.StructEq
import Derived.Test.YtclgfcjcpbiadaaGreatDoorM1
import Derived.Maps.RangeWalk
import Derived.DeepKeys4
set_option linter.unusedVariables false
set_option linter.unusedSimpArgs false
namespace Go.Proofs.YtclgfcjcpbiadaaGreatDoor
open Go.ChangeShapes Go.WideShapes Go.ChangeAt Go.RowKit

theorem less_dec (a b c d : Int) : decide (cmp2 a b c d < 0) = lessB a b c d := by
  rw [cmp2_less]
  cases lessB a b c d
  · cases lessB c d a b <;> rfl
  · rfl
theorem less_any (a b c d : Int) (w : World) : Calls Tryz.prog 99 #[.agg #[.int .i64 a, .int .i64 b], .agg #[.int .i64 c, .int .i64 d]] w fun e w' => e = .returned (.bool (lessB a b c d)) ∧ Below w.heap.size w w' := by
  have HV : Hid (decide (cmp2 a b c d < 0) = lessB a b c d) := less_dec a b c d
  have IC := idCompare_any a b c d
  generalize cmp2 a b c d = x at *
  go_enter Tryz.func99, Tryz.ntmps99
  go_wp2_with fail
  go_at_call 114
  refine (IC _).mono ?_
  rintro e w1 ⟨rfl, hb⟩
  go_wp2_with fail
  go_ret
  exact ⟨ret_bool HV.out, (((Below.refl _ w).alloc (Nat.le_refl _) _).alloc (by simp) _).trans (hb.mono (by simp; omega))⟩
/-- do ids rise, behind one? -/
def ordFrom : Rf → List Rf → Bool
  | _, [] => true
  | p, r :: l => if lessB p.1 p.2 r.1 r.2 then ordFrom r l else false
def ordB : List Rf → Bool
  | [] => true
  | r :: l => ordFrom r l
def idsE (l : List Rf) : Nat := if 12 < l.length then 4 else if ordB l then 0 else 5
/-- where the loop stands -/
def OrdAt (l : List Rf) (k : Nat) : Prop := (k = 0 → True) ∧ ∀ j r, k = j + 1 → l[j]? = some r → ordB l = ordFrom r (l.drop k)
theorem OrdAt.start (l : List Rf) : OrdAt l 0 := ⟨fun _ => trivial, fun j r h => by omega⟩
theorem drop_at {l : List Rf} {k : Nat} {r : Rf} (h : l[k]? = some r) : l.drop k = r :: l.drop (k + 1) := by
  obtain ⟨hl, e⟩ := List.getElem?_eq_some_iff.1 h
  rw [List.drop_eq_getElem_cons hl, e]
theorem OrdAt.first {l : List Rf} {r : Rf} (h : l[0]? = some r) : OrdAt l 1 := by
  refine ⟨fun e => by omega, fun j r' e h' => ?_⟩
  obtain rfl : j = 0 := by omega
  rw [h] at h'
  cases h'
  cases l with
  | nil => simp at h
  | cons x t => simp at h; subst h; rfl
theorem OrdAt.next {l : List Rf} {j : Nat} {p r : Rf} (h : OrdAt l (j + 1)) (hp : l[j]? = some p) (hr : l[j + 1]? = some r) (hl : lessB p.1 p.2 r.1 r.2 = true) : OrdAt l (j + 1 + 1) := by
  refine ⟨fun e => by omega, fun i r' e h' => ?_⟩
  obtain rfl : i = j + 1 := by omega
  rw [hr] at h'
  cases h'
  rw [h.2 j p rfl hp, drop_at hr, ordFrom, if_pos hl]
theorem OrdAt.bad {l : List Rf} {j : Nat} {p r : Rf} (h : OrdAt l (j + 1)) (hp : l[j]? = some p) (hr : l[j + 1]? = some r) (hl : lessB p.1 p.2 r.1 r.2 = false) : ordB l = false := by
  rw [h.2 j p rfl hp, drop_at hr, ordFrom, if_neg (by rw [hl]; simp)]
theorem OrdAt.fin {l : List Rf} {k : Nat} (h : OrdAt l k) (hk : k = l.length) : ordB l = true := by
  subst hk
  cases hl : l with
  | nil => rfl
  | cons x t =>
    have hlen : l.length = t.length + 1 := by rw [hl]; rfl
    obtain ⟨r, hr⟩ : ∃ r, l[t.length]? = some r := get_lt (by omega)
    rw [← hl, h.2 t.length r hlen hr, List.drop_length]
    rfl

set_option maxHeartbeats 2000000 in
set_option maxRecDepth 20000 in
theorem ids_any (l : List Rf) (D : Nat → Prop) (A : Option Addr) (c : Nat) (w : World) (hr : Reads D w 2 A l.length (refC l)) (hD : ∀ k, D k → k < w.heap.size) :
    Calls Tryz.prog 85 #[.slice A l.length c] w fun e w' => e = .returned (errN (idsE l)) ∧ Below w.heap.size w w' := by
  have HR := Lib.hid hr
  have HD := Lib.hid hD
  clear hr hD
  obtain ⟨n, hn⟩ : ∃ n, l.length = n := ⟨_, rfl⟩
  have HN := Lib.hid hn
  rw [hn]
  by_cases h12 : 12 < n
  · have HV : Hid (idsE l = 4) := by show _ = _; rw [idsE, hn, if_pos h12]
    have d1 : decide (12 < (n : Int)) = true := decide_eq_true (by omega)
    clear hn h12
    go_enter Tryz.func85, Tryz.ntmps85
    go_wp2_with fail
    go_ret
    exact ⟨by rw [HV.out]; rfl, Below.refl _ _⟩
  have HV : Hid (idsE l = if ordB l then 0 else 5) := by show _ = _; rw [idsE, hn, if_neg h12]
  have d1 : decide (12 < (n : Int)) = false := decide_eq_false (by omega)
  clear hn
  go_enter Tryz.func85, Tryz.ntmps85
  go_wp2_with fail
  clear d1
  go_loopw [11] (fun s wr => ∃ k : Nat, k ≤ n ∧ s = .int .i64 k ∧ Hid (Below w.heap.size w wr) ∧ Hid (OrdAt l k)) (fun s _ => n - (intOf s).toNat)
  case atStart => exact ⟨0, by omega, rfl, Below.refl _ _, OrdAt.start l⟩
  case round =>
    obtain ⟨k, hk, rfl, HB, HO⟩ := hrel
    by_cases hlt : k < n
    · obtain ⟨b, off, rfl, hb, hcell⟩ := HR.out.at_ (by rw [HN.out]; omega) (by omega)
      obtain ⟨r, hr⟩ : ∃ r, l[k]? = some r := ⟨_, List.getElem?_eq_getElem (by rw [HN.out]; exact hlt)⟩
      have hbl := HD.out b hb
      have hblk : ∀ o, wr.cell? ⟨b, o, none⟩ = w.cell? ⟨b, o, none⟩ := fun o => World.cell?_of_block (w := w) (HB.out.block b hbl)
      obtain ⟨h1, h2⟩ := refC_at hr
      have x1 : wr.cell? ⟨b, off + k * 2, none⟩ = some (.int .i64 r.1) := by rw [hblk]; exact hcell _ _ h1
      have x2 : wr.cell? ⟨b, off + k * 2 + 1, none⟩ = some (.int .i64 r.2) := by rw [hblk]; exact hcell _ _ h2
      have HX := Lib.hid hr
      obtain ⟨r1, r2⟩ := r
      have HB2 : Hid (Below w.heap.size w (wr.alloc (.cells #[.int .i64 r1, .int .i64 r2] 82))) := HB.out.alloc HB.out.size _
      rcases Nat.eq_zero_or_pos k with hk0 | hk0
      · subst hk0
        have HO1 := Lib.hid (OrdAt.first hr)
        have x1' : wr.cell? ⟨b, off, none⟩ = some (.int .i64 r1) := by simpa using x1
        have x2' : wr.cell? ⟨b, off + 1, none⟩ = some (.int .i64 r2) := by simpa using x2
        clear hblk hcell h1 h2 hr
        go_wp2_with fail
        go_quiet (fail)
        change Exit.then _ _ _ _ ((wr.alloc (.cells #[.int .i64 r1, .int .i64 r2] 82)).drewN nq)
        have HB3 : Hid (Below w.heap.size w ((wr.alloc (.cells #[.int .i64 r1, .int .i64 r2] 82)).drewN nq)) := below_drewN HB2.out nq
        generalize (wr.alloc (.cells #[.int .i64 r1, .int .i64 r2] 82)).drewN nq = w3 at HB3 ⊢
        clear x1 x2 x1' x2' HB2
        go_wp2_with fail
        go_roundw
        case rel => exact ⟨1, by omega, by go_num, HB3, HO1⟩
        case measure => simp [intOf]; omega
      · obtain ⟨j, rfl⟩ : ∃ j, k = j + 1 := ⟨k - 1, by omega⟩
        obtain ⟨p, hp⟩ : ∃ p, l[j]? = some p := ⟨_, List.getElem?_eq_getElem (by rw [HN.out]; omega)⟩
        obtain ⟨g1, g2⟩ := refC_at hp
        have x3 : wr.cell? ⟨b, off + j * 2, none⟩ = some (.int .i64 p.1) := by rw [hblk]; exact hcell _ _ g1
        have x4 : wr.cell? ⟨b, off + j * 2 + 1, none⟩ = some (.int .i64 p.2) := by rw [hblk]; exact hcell _ _ g2
        obtain ⟨p1, p2⟩ := p
        have LS := less_any p1 p2 r1 r2
        have hw : IntKind.i64.wrap ((j : Int) + 1 - 1) = (j : Int) := by
          have := IntWalk.i64_in (j : Int) (by omega)
          rw [show (j : Int) + 1 - 1 = (j : Int) from by omega]; exact this
        have hbw : b < wr.heap.size := Nat.lt_of_lt_of_le hbl HB.out.size
        have hi0 : (0 : Int) ≤ (j : Int) := by omega
        have hw2 : IntKind.i64.wrap (j : Int) = (j : Int) := IntWalk.i64_in _ (by omega)
        have hi1 : (j : Int) < (n : Int) := by omega
        have y1 : (wr.alloc (.cells #[.int .i64 r1, .int .i64 r2] 82)).cell? ⟨wr.heap.size, 0, none⟩ = some (.int .i64 r1) := (Blk.new wr _ _).cell 0
        have y2 : (wr.alloc (.cells #[.int .i64 r1, .int .i64 r2] 82)).cell? ⟨wr.heap.size, 1, none⟩ = some (.int .i64 r2) := (Blk.new wr _ _).cell 1
        have z3 : (wr.alloc (.cells #[.int .i64 r1, .int .i64 r2] 82)).cell? ⟨b, off + j * 2, none⟩ = some (.int .i64 p1) := by
          rw [World.cell?_alloc_lt _ _ ⟨b, off + j * 2, none⟩ hbw]; exact x3
        have z4 : (wr.alloc (.cells #[.int .i64 r1, .int .i64 r2] 82)).cell? ⟨b, off + j * 2 + 1, none⟩ = some (.int .i64 p2) := by
          rw [World.cell?_alloc_lt _ _ ⟨b, off + j * 2 + 1, none⟩ hbw]; exact x4
        cases hls : lessB p1 p2 r1 r2
        case' true => have HQ := Lib.hid (HO.out.next hp hr hls)
        case' false => have HQ : Hid (idsE l = 5) := by show _ = _; rw [HV.out, HO.out.bad hp hr hls]; rfl
        all_goals
          rw [hls] at LS
          have d1 : decide ((0 : Int) < (j : Int) + 1) = true := decide_eq_true (by omega)
          have d1' : decide (0 < j + 1) = true := decide_eq_true (by omega)
          clear hblk hcell h1 h2 hr hp g1 g2 hls HO x3 x4
          go_wp2_with fail
          go_region_held3 (fun w' => w'.cell? ⟨b, off + j * 2, none⟩ = some (.int .i64 p1) ∧ w'.cell? ⟨b, off + j * 2 + 1, none⟩ = some (.int .i64 p2) ∧ w'.cell? ⟨wr.heap.size, 0, none⟩ = some (.int .i64 r1) ∧ w'.cell? ⟨wr.heap.size, 1, none⟩ = some (.int .i64 r2))
            (first | exact ⟨z3, z4, y1, y2⟩ | exact ⟨v1, v2, v3, v4⟩ | go_keep)
            ((go_at_call 99; refine (LS _).mono ?_; rintro e w3 ⟨rfl, hb3⟩; have HB3 : Hid (Below w.heap.size w w3) := Lib.hid (HB2.out.drew.trans (Below.mono hb3 HB2.out.size)); have v1 : w3.cell? ⟨b, off + j * 2, none⟩ = some (.int .i64 p1) := (hb3.cell (by simp; omega)).trans z3; have v2 : w3.cell? ⟨b, off + j * 2 + 1, none⟩ = some (.int .i64 p2) := (hb3.cell (by simp; omega)).trans z4; have v3 : w3.cell? ⟨wr.heap.size, 0, none⟩ = some (.int .i64 r1) := (hb3.cell (by simp)).trans y1; have v4 : w3.cell? ⟨wr.heap.size, 1, none⟩ = some (.int .i64 r2) := (hb3.cell (by simp)).trans y2))
          clear z3 z4 y1 y2 x1 x2 hb3 HB2 LS hw hw2 v1 v2 v3 v4
          go_wp2_with fail
          first
            | (go_ret
               exact ⟨by rw [HQ.out]; rfl, HB3.out⟩)
            | (go_roundw
               case rel => exact ⟨j + 1 + 1, by omega, by go_num, HB3, HQ⟩
               case measure => simp [intOf]; omega)
    · have HF : Hid (idsE l = 0) := by
        show _ = _
        rw [HV.out, HO.out.fin (by rw [HN.out]; omega)]; rfl
      go_wp2_with fail
      go_ret
      exact ⟨by rw [HF.out]; rfl, HB.out⟩
end Go.Proofs.YtclgfcjcpbiadaaGreatDoor

namespace Go.Proofs.YtclgfcjcpbiadaaGreatDoor
open Go.ChangeShapes Go.WideShapes Go.ChangeAt Go.RowKit

set_option maxRecDepth 100000 in
theorem eq_id (a b c d : Int) (w : World) : (Op.equalIn 10000 82 (.agg #[.int .i64 a, .int .i64 b]) (.agg #[.int .i64 c, .int .i64 d])).run Tryz.prog w = .ok (a == c && b == d) w := by
  have hS : Tryz.prog.underlying 82 = some (.struct (Tryz.prog.fieldsOf 82)) := by kernel_rfl
  have hp : Tryz.prog.stoodInHeld 82 = false := by kernel_rfl
  rw [show (10000 : Nat) = 9999 + 1 from rfl, run_equalIn_agg w 9999 82 _ _ hS hp]
  simp only [Program.fieldsOf, Tryz.underlying82]
  go_simp
  by_cases h1 : a = c <;> by_cases h2 : b = d <;> simp [h1, h2]
theorem eq_root (a b : Int) (rt : Bool) (h : rootB a b = rt) (w : World) : (Op.equalIn 10000 82 (.agg #[.int .i64 a, .int .i64 b]) (.agg #[.int .i64 0, .int .i64 0])).run Tryz.prog w = .ok rt w := by
  rw [eq_id, ← h]
  by_cases h1 : a = 0 <;> by_cases h2 : b = 0 <;> simp [rootB, h1, h2]
end Go.Proofs.YtclgfcjcpbiadaaGreatDoor

namespace Go.Proofs.YtclgfcjcpbiadaaGreatDoor
open Go.ChangeShapes Go.WideShapes Go.ChangeAt Go.RowKit
open Go.Maps (Keyed)

theorem keyed_ref : Keyed Tryz.prog 25 :=
  Keyed.of_law (deep_law_laid laidOut (m := 2) (by omega) (of_decide_eq_true (by kernel_rfl)) (by kernel_rfl) (by rw [Tryz.underlying25]))
theorem keyed_id : Keyed Tryz.prog 82 :=
  Keyed.of_law (deep_law_laid laidOut (m := 2) (by omega) (of_decide_eq_true (by kernel_rfl)) (by kernel_rfl) (by rw [Tryz.underlying82]))
/-- both numbers are int64s -/
def I64R (r : Rf) : Prop := (-9223372036854775808 ≤ r.1 ∧ r.1 ≤ 9223372036854775807) ∧ (-9223372036854775808 ≤ r.2 ∧ r.2 ≤ 9223372036854775807)
theorem wf64 {x : Int} (h : -9223372036854775808 ≤ x ∧ x ≤ 9223372036854775807) : (Lit.int .i64 x).wf = true := by
  simp only [Lit.wf, IntKind.min, IntKind.max, IntKind.signed, IntKind.bits]
  simpa using h
theorem keyOf_ref {r : Rf} (h : I64R r) : ∃ kl, keyOf Tryz.prog 25 (refV r) = some kl := by
  have hk : Tryz.prog.keyType 25 = true := by kernel_rfl
  have hc : Tryz.prog.cellsOf 25 = 2 := by kernel_rfl
  have hi : Tryz.prog.cellsOf 3 = 1 := by kernel_rfl
  have hf : (refV r).formed Tryz.prog 25 = true := by simp [refV, Value.formed, Tryz.underlying25, hc]
  obtain ⟨d, hd⟩ : ∃ d, Tryz.prog.types.size = d + 1 := ⟨Tryz.prog.types.size - 1, by have : 0 < Tryz.prog.types.size := of_decide_eq_true (by kernel_rfl); omega⟩
  unfold keyOf
  rw [Tryz.underlying25]
  simp only [hk, hf, Bool.and_true, if_true, hd]
  have e : ∃ ls, Tryz.prog.keyLits (d + 1 + 1) 25 (refV r).cells.toList = some ls := by
    unfold Program.keyLits
    rw [Tryz.underlying25]
    simp [refV, Value.cells, hc, hi, Program.keyLits, Tryz.underlying3, wf64 h.1, wf64 h.2]
  obtain ⟨ls, e⟩ := e
  exact ⟨_, by rw [e]; rfl⟩
theorem keyOf_id {r : Rf} (h : I64R r) : ∃ kl, keyOf Tryz.prog 82 (refV r) = some kl := by
  have hk : Tryz.prog.keyType 82 = true := by kernel_rfl
  have hc : Tryz.prog.cellsOf 82 = 2 := by kernel_rfl
  have hi : Tryz.prog.cellsOf 3 = 1 := by kernel_rfl
  have hf : (refV r).formed Tryz.prog 82 = true := by simp [refV, Value.formed, Tryz.underlying82, hc]
  obtain ⟨d, hd⟩ : ∃ d, Tryz.prog.types.size = d + 1 := ⟨Tryz.prog.types.size - 1, by have : 0 < Tryz.prog.types.size := of_decide_eq_true (by kernel_rfl); omega⟩
  unfold keyOf
  rw [Tryz.underlying82]
  simp only [hk, hf, Bool.and_true, if_true, hd]
  have e : ∃ ls, Tryz.prog.keyLits (d + 1 + 1) 82 (refV r).cells.toList = some ls := by
    unfold Program.keyLits
    rw [Tryz.underlying82]
    simp [refV, Value.cells, hc, hi, Program.keyLits, Tryz.underlying3, wf64 h.1, wf64 h.2]
  obtain ⟨ls, e⟩ := e
  exact ⟨_, by rw [e]; rfl⟩
theorem refV_inj {r q : Rf} (h : refV r = refV q) : r = q := by
  obtain ⟨a, b⟩ := r
  obtain ⟨c, d⟩ := q
  simpa [refV] using h
/-! ### at the operation, for the walk -/
section
variable (w : World) {ops : Array Oper} {rest : List Oper} {o : Oper} {a : Act} {Q : Exit → Act → World → Prop}
theorem wpL_store (hg : o.guard = none) (m x v : Operand) (t : TypeId) (hop : o.op = Op.mapUpdate t m x v ∨ o.op = Op.insert t m x v) (b : Nat) (key val : Value) (hm : a.eval m = .map (some b)) (hx : a.eval x = key) (hv : a.eval v = val)
    (R : World → Prop) (h : ∃ w', (Instr.mapUpdate t (.map (some b)) key val).run Tryz.prog w = .ok () w' ∧ R w')
    (hK : ∀ w', R w' → wpList Tryz.prog ops Q rest (a.put o.dst undef) w') : wpList Tryz.prog ops Q (o :: rest) a w := by
  refine wpList_plain hg fun K' hK' => ?_
  obtain ⟨w', hrun, hR⟩ := h
  unfold Oper.wp
  rcases hop with hop | hop <;> simp [execOp, hop, hm, hx, hv, hrun, Result.andThen] <;> exact hK' _ _ (hK w' hR)
theorem wpL_delete (hg : o.guard = none) (m x : Operand) (t k : TypeId) (hop : o.op = Op.call { callee := Callee.builtin Builtin.delete, args := #[m, x], argTypes := #[t, k] }) (b : Nat) (key : Value) (hm : a.eval m = .map (some b)) (hx : a.eval x = key)
    (R : World → Prop) (h : ∀ ty, ∃ w', (Builtin.delete_ #[t, k] ty #[.map (some b), key]).run Tryz.prog w = .ok (.tuple #[]) w' ∧ R w')
    (hK : ∀ w', R w' → wpList Tryz.prog ops Q rest (a.put o.dst (.tuple #[])) w') : wpList Tryz.prog ops Q (o :: rest) a w := by
  refine wpList_plain hg fun K' hK' => ?_
  obtain ⟨w', hrun, hR⟩ := h o.type
  unfold Oper.wp
  simp [execOp, hop, resolve, invoke, builtin, hm, hx, hrun, Result.andThen]
  exact hK' _ _ (hK w' hR)
theorem wpL_range (hg : o.guard = none) (m : Operand) (t : TypeId) (hop : o.op = Op.range t m) (k e : TypeId) (ht : Tryz.prog.underlying t = some (.map k e)) (b : Nat) (l : List (Value × Value)) (hm : a.eval m = .map (some b)) (h : MapL w k b l)
    (hK : ∀ w', IterL w' k b w.heap.size l l → Below w.heap.size w w' → w'.heap.size = w.heap.size + 1 → wpList Tryz.prog ops Q rest (a.put o.dst (.pointer (some ⟨w.heap.size, 0, none⟩))) w') :
    wpList Tryz.prog ops Q (o :: rest) a w := by
  refine wpList_plain hg fun K' hK' => ?_
  obtain ⟨w', hrun, r1, r2, r3⟩ := h.range ht
  unfold Oper.wp
  simp [execOp, hop, hm, hrun, Result.andThen]
  exact hK' _ _ (hK w' r1 r2 r3)
theorem wpL_next (hg : o.guard = none) (it : Operand) (hop : o.op = Op.next it false) (k : TypeId) (b r : Nat) (l todo : List (Value × Value)) (hit : a.eval it = .pointer (some ⟨r, 0, none⟩)) (h : IterL w k b r l todo)
    (hDone : todo = [] → wpList Tryz.prog ops Q rest (a.put o.dst (.tuple #[.bool false])) w)
    (hMore : ∀ (key v : Value) (todo' : List (Value × Value)) (w' : World), todo.Perm ((key, v) :: todo') → IterL w' k b r l todo' → w.grownBy w' (some r) → w'.heap.size = w.heap.size →
      (Instr.entry (.pointer (some ⟨r, 0, none⟩))).run Tryz.prog w' = .ok (.tuple #[key, v]) w' → wpList Tryz.prog ops Q rest (a.put o.dst (.tuple #[.bool true, key, v])) w') :
    wpList Tryz.prog ops Q (o :: rest) a w := by
  refine wpList_plain hg fun K' hK' => ?_
  unfold Oper.wp
  rcases h.next o.type with ⟨h0, hrun⟩ | ⟨key, v, todo', w', hp, hrun, hI, hg, hs, hen⟩
  · simp [execOp, hop, hit, hrun, Result.andThen]
    exact hK' _ _ (hDone h0)
  · simp [execOp, hop, hit, hrun, Result.andThen]
    exact hK' _ _ (hMore key v todo' w' hp hI hg hs hen)
end

/-! ### sets of refs -/
def SetM (w : World) (b : Nat) (S : List Rf) : Prop := MapL w 25 b (S.map fun r => (refV r, .bool true))
theorem zero_bool (w : World) : (zeroValue 4).run Tryz.prog w = .ok (.bool false) w := by kernel_rfl
theorem SetM.made (w : World) : SetM (w.alloc (.map #[] 0)) w.heap.size [] := MapL.made w _
theorem SetM.nodup {w : World} {b : Nat} {S : List Rf} (h : SetM w b S) : S.Nodup := by
  have h1 := MapL.apart h
  rw [List.pairwise_map] at h1
  exact h1.imp fun h e => h (by rw [e])
theorem SetM.look {w : World} {b : Nat} {S : List Rf} (h : SetM w b S) {r : Rf} (hr : I64R r) :
    (Instr.lookup 73 (.map (some b)) (refV r) false).run Tryz.prog w = .ok (.bool (decide (r ∈ S))) w := by
  by_cases hm : r ∈ S
  · rw [decide_eq_true hm]
    exact MapL.hit h keyed_ref Tryz.underlying73 (zero_bool w) (List.mem_map.2 ⟨r, hm, rfl⟩) false
  · rw [decide_eq_false hm]
    obtain ⟨kl, hk⟩ := keyOf_ref hr
    refine MapL.miss h keyed_ref Tryz.underlying73 (zero_bool w) hk (fun p hp e => ?_) false
    obtain ⟨q, hq, rfl⟩ := List.mem_map.1 hp
    exact hm (refV_inj e ▸ hq)
theorem perm_pick {S : List Rf} {r : Rf} (hm : r ∈ S) : ∃ S', S.Perm (r :: S') := by
  obtain ⟨a, b, rfl⟩ := List.append_of_mem hm
  exact ⟨a ++ b, List.perm_middle⟩
theorem SetM.add {w : World} {b : Nat} {S : List Rf} (h : SetM w b S) {r : Rf} (hr : I64R r) (hn : S.length < maxLen) :
    ∃ w', (Instr.mapUpdate 73 (.map (some b)) (refV r) (.bool true)).run Tryz.prog w = .ok () w' ∧ (∃ S', SetM w' b S' ∧ (∀ x, x ∈ S' ↔ x ∈ S ∨ x = r) ∧ S'.length ≤ S.length + 1) ∧ w.mapTurned w' b := by
  by_cases hm : r ∈ S
  · obtain ⟨S', hp⟩ := perm_pick hm
    obtain ⟨w', h1, h2, h3⟩ := MapL.over (v := .bool true) (v0 := .bool true) (l' := S'.map fun r => (refV r, .bool true)) h keyed_ref Tryz.underlying73 (hp.map _)
    refine ⟨w', h1, ⟨r :: S', h2, fun x => ?_, by rw [hp.length_eq]; exact Nat.le_succ _⟩, h3⟩
    rw [hp.mem_iff, List.mem_cons]
    constructor
    · exact Or.inl
    · rintro (h | h)
      · exact h
      · exact Or.inl h
  · obtain ⟨kl, hk⟩ := keyOf_ref hr
    obtain ⟨w', h1, h2, h3⟩ := MapL.store (v := .bool true) h keyed_ref Tryz.underlying73 (by rw [List.length_map]; exact hn) hk (fun p hp e => by
      obtain ⟨q, hq, rfl⟩ := List.mem_map.1 hp
      exact hm (refV_inj e ▸ hq))
    refine ⟨w', h1, ⟨S ++ [r], ?_, fun x => by simp, by simp⟩, h3⟩
    have e : (S ++ [r]).map (fun r => (refV r, Value.bool true)) = S.map (fun r => (refV r, .bool true)) ++ [(refV r, .bool true)] := by simp
    unfold SetM; rw [e]; exact h2
theorem SetM.perm {w : World} {b : Nat} {S S' : List Rf} (h : SetM w b S) (hp : S.Perm S') : SetM w b S' := MapL.perm h (hp.map _)
theorem SetM.keep {w w' : World} {b : Nat} {S : List Rf} (h : SetM w b S) (hk : w'.heap[b]? = w.heap[b]?) : SetM w' b S := MapL.keep h hk
/-- a set ranged over: what is still to come -/
def IterS (w : World) (b r : Nat) (S todo : List Rf) : Prop := IterL w 25 b r (S.map fun r => (refV r, .bool true)) (todo.map fun r => (refV r, .bool true))
theorem perm_unmap {α β : Type} (f : α → β) : ∀ {l : List α} {x : β} {m : List β}, (l.map f).Perm (x :: m) → ∃ y l', f y = x ∧ l.Perm (y :: l') ∧ m.Perm (l'.map f) := by
  intro l x m h
  have hx : x ∈ l.map f := h.mem_iff.2 (List.mem_cons_self ..)
  obtain ⟨y, hy, rfl⟩ := List.mem_map.1 hx
  obtain ⟨a, b, rfl⟩ := List.append_of_mem hy
  refine ⟨y, a ++ b, rfl, List.perm_middle, ?_⟩
  have h2 : ((a ++ y :: b).map f).Perm (f y :: (a ++ b).map f) := by
    simp only [List.map_append, List.map_cons]
    exact List.perm_middle
  exact (h2.symm.trans h).symm.cons_inv
theorem IterS.sub {w : World} {b r : Nat} {S todo : List Rf} (h : IterS w b r S todo) : ∀ x ∈ todo, x ∈ S := by
  intro x hx
  have := IterL.sub h (refV x, .bool true) (List.mem_map.2 ⟨x, hx, rfl⟩)
  obtain ⟨y, hy, e⟩ := List.mem_map.1 this
  have e1 : refV y = refV x := congrArg Prod.fst e
  exact refV_inj e1 ▸ hy
theorem IterL.perm {w : World} {k : TypeId} {b r : Nat} {l todo todo' : List (Value × Value)} (h : IterL w k b r l todo) (hp : todo.Perm todo') : IterL w k b r l todo' := by
  obtain ⟨es, c, s, sn, c0, h1, h2, h3, h4, h5, h6, h7⟩ := h
  exact ⟨es, c, s, sn, c0, h1, h2, h3, h4, h5, h6.trans hp, h7⟩
section
variable (w : World) {ops : Array Oper} {rest : List Oper} {o : Oper} {a : Act} {Q : Exit → Act → World → Prop}
theorem wpS_next (hg : o.guard = none) (it : Operand) (hop : o.op = Op.next it false) (b r : Nat) (S todo : List Rf) (hit : a.eval it = .pointer (some ⟨r, 0, none⟩)) (h : IterS w b r S todo)
    (hDone : todo = [] → wpList Tryz.prog ops Q rest (a.put o.dst (.tuple #[.bool false])) w)
    (hMore : ∀ (x : Rf) (todo' : List Rf) (w' : World), todo.Perm (x :: todo') → IterS w' b r S todo' → w.grownBy w' (some r) → w'.heap.size = w.heap.size →
      (Instr.entry (.pointer (some ⟨r, 0, none⟩))).run Tryz.prog w' = .ok (.tuple #[.agg #[.int .i64 x.1, .int .i64 x.2], .bool true]) w' → wpList Tryz.prog ops Q rest (a.put o.dst (.tuple #[.bool true, .agg #[.int .i64 x.1, .int .i64 x.2], .bool true])) w') :
    wpList Tryz.prog ops Q (o :: rest) a w := by
  refine wpL_next w hg it hop _ b r _ _ hit h (fun e => hDone (List.map_eq_nil_iff.1 e)) fun key v todo' w' hp hI hg hs hen => ?_
  obtain ⟨x, t', hx, hp1, hp2⟩ := perm_unmap _ hp
  have e1 : refV x = key := congrArg Prod.fst hx
  have e2 : Value.bool true = v := congrArg Prod.snd hx
  subst e1 e2
  exact hMore x t' w' hp1 (hI.perm hp2) hg hs hen
end
end Go.Proofs.YtclgfcjcpbiadaaGreatDoor
