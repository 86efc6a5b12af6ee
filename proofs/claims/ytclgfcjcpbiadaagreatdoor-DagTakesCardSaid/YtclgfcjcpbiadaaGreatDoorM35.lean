/- A row of refs, one struck out in place: append behind a part of the row itself; clear. -/
import Derived.Test.YtclgfcjcpbiadaaGreatDoorM34
import Derived.Test.YtclgfcjcpbiadaaGreatDoorM1
import Derived.Test.YtclgfcjcpbiadaaGreatDoorSRef11
import Derived.Test.YtclgfcjcpbiadaaGreatDoorM30
import Derived.Test.YtclgfcjcpbiadaaGreatDoorM18
import Derived.Test.YtclgfcjcpbiadaaGreatDoorM26
set_option linter.unusedVariables false
set_option linter.unusedSimpArgs false
namespace Go.Proofs.YtclgfcjcpbiadaaGreatDoor
open Go.ChangeShapes Go.WideShapes Go.ChangeAt Go.RowKit

theorem RefRow.cell1 {w : World} {g : Nat} {l : List Rf} (h : RefRow w g l) {k : Nat} {r : Rf} (hr : l[k]? = some r) : w.cell? ⟨g, k * 2, none⟩ = some (.int .i64 r.1) := (h _ _ (refC_at hr).1).1
theorem RefRow.cell2 {w : World} {g : Nat} {l : List Rf} (h : RefRow w g l) {k : Nat} {r : Rf} (hr : l[k]? = some r) : w.cell? ⟨g, k * 2 + 1, none⟩ = some (.int .i64 r.2) := (h _ _ (refC_at hr).2).1
theorem refC_cons (r : Rf) (l : List Rf) : refC (r :: l) = [.int .i64 r.1, .int .i64 r.2] ++ refC l := by simp [refC]
theorem RefRow.set {w : World} {g : Nat} {l : List Rf} (h : RefRow w g l) (k : Nat) (r : Rf) (hk : k < l.length) : RefRow ((w.setCell ⟨g, k * 2, none⟩ (.int .i64 r.1)).setCell ⟨g, k * 2 + 1, none⟩ (.int .i64 r.2)) g (l.set k r) := by
  have ew : (w.setCell ⟨g, k * 2, none⟩ (.int .i64 r.1)).setCell ⟨g, k * 2 + 1, none⟩ (.int .i64 r.2) = w.setCells g (k * 2) [.int .i64 r.1, .int .i64 r.2] := rfl
  rw [ew]
  intro j u hu
  have e1 : l.set k r = l.take k ++ r :: l.drop (k + 1) := by rw [List.set_eq_take_append_cons_drop, if_pos hk]
  have e2 : l = l.take k ++ l[k] :: l.drop (k + 1) := by rw [← List.drop_eq_getElem_cons hk, List.take_append_drop]
  have hlt : (refC (l.take k)).length = k * 2 := by rw [refC_length, List.length_take]; omega
  have H : ∀ j u, (refC l)[j]? = some u → w.cell? ⟨g, j, none⟩ = some u ∧ w.frozen? ⟨g, j, none⟩ = false := h
  rw [e2, refC_append, refC_cons] at H
  rw [e1, refC_append, refC_cons] at hu
  have hz : ∀ i, i < 2 → (w.cell? ⟨g, k * 2 + i, none⟩).isSome = true ∧ w.frozen? ⟨g, k * 2 + i, none⟩ = false := by
    intro i hi
    have := H (k * 2 + i) (if i = 0 then .int .i64 l[k].1 else .int .i64 l[k].2) (by
      rw [List.getElem?_append_right (by omega), hlt, show k * 2 + i - k * 2 = i from by omega]
      match i, hi with
      | 0, _ => rfl
      | 1, _ => rfl)
    exact ⟨by rw [this.1]; rfl, this.2⟩
  rcases Nat.lt_or_ge j (k * 2) with hj | hj
  · rw [List.getElem?_append_left (by omega)] at hu
    have := H j u (by rw [List.getElem?_append_left (by omega)]; exact hu)
    rw [World.frozen?_setCells, World.cell?_setCells_out g _ _ _ _ (fun _ _ => .inl hj)]
    exact this
  · rw [List.getElem?_append_right (by omega), hlt] at hu
    rcases Nat.lt_or_ge j (k * 2 + 2) with hj2 | hj2
    · obtain ⟨i, hi, rfl⟩ : ∃ i, i < 2 ∧ j = k * 2 + i := ⟨j - k * 2, by omega, by omega⟩
      rw [show k * 2 + i - k * 2 = i from by omega, List.getElem?_append_left (by simpa using hi)] at hu
      rw [World.frozen?_setCells, World.cell?_setCells_in g [.int .i64 r.1, .int .i64 r.2] (k * 2) w (fun j hj => (hz j (by simpa using hj)).1) i (by simpa using hi)]
      refine ⟨?_, (hz i hi).2⟩
      rw [List.getElem?_eq_getElem (by simpa using hi)] at hu
      exact hu
    · rw [List.getElem?_append_right (by simp; omega)] at hu
      have := H j u (by rw [List.getElem?_append_right (by omega), hlt, List.getElem?_append_right (by simp; omega)]; exact hu)
      rw [World.frozen?_setCells, World.cell?_setCells_out g _ _ _ _ (fun _ _ => .inr (by simpa using hj2))]
      exact this
theorem RefRow.cleared {w : World} {g : Nat} {l : List Rf} (h : RefRow w g l) (m : Nat) (vs : List Value) : RefRow (w.setCells g (m * 2) vs) g (l.take m) := by
  intro j u hu
  have hl : (refC (l.take m)).length ≤ m * 2 := by rw [refC_length, List.length_take]; omega
  have hj : j < (refC (l.take m)).length := (List.getElem?_eq_some_iff.1 hu).1
  have e : refC l = refC (l.take m) ++ refC (l.drop m) := by rw [← refC_append, List.take_append_drop]
  have := h j u (by rw [e, List.getElem?_append_left hj]; exact hu)
  rw [World.frozen?_setCells, World.cell?_setCells_out g _ _ _ _ (fun _ _ => .inl (show j < m * 2 by omega))]
  exact this
theorem chg_setCells {w : World} {g : Nat} : ∀ (vs : List Value) (o : Nat) {w' : World}, Chg (fun k => k = g) w w' → Chg (fun k => k = g) w (w'.setCells g o vs)
  | [], _, _, h => h
  | v :: vs, o, _, h => chg_setCells vs (o + 1) (h.setCell (p := ⟨g, o, none⟩) (.inl rfl) v)
/-- 'clear' on a row of refs -/
theorem clear_refs (w : World) (g o n c : Nat) (hn : 0 < n) (hc : ∀ i, i < n * 2 → (w.cell? ⟨g, o + i, none⟩).isSome = true) (hf : ∀ i, i < n * 2 → w.frozen? ⟨g, o + i, none⟩ = false) :
    (Builtin.clear_ #[23] 0 #[.slice (some ⟨g, o, none⟩) n c]).run Tryz.prog w = .ok (.tuple #[]) (w.setCells g o (List.replicate (n * 2) (.int .i64 0))) := by
  have hz : (zeroValue 25).run Tryz.prog w = .ok (.agg #[.int .i64 0, .int .i64 0]) w := Tryz.zeroValue25 w
  have hzc : (Builtin.zeroCells (Value.agg #[.int .i64 0, .int .i64 0]).cells n).toList = List.replicate (n * 2) (.int .i64 0) := by
    apply List.ext_getElem
    · simp [Builtin.zeroCells, Value.cells]
    · intro i h1 h2
      simp only [Builtin.zeroCells, Value.cells]
      rcases Nat.mod_two_eq_zero_or_one i with h | h <;> simp [h]
  have hst := run_storeCells_cells (P := Tryz.prog) g o (List.replicate (n * 2) (.int .i64 0)) 0 w (by simpa using hc) (by simpa using hf) (by intro v hv; rw [List.eq_of_mem_replicate hv]; rfl)
  simp only [Nat.add_zero] at hst
  obtain ⟨m, rfl⟩ : ∃ m, n = m + 1 := ⟨n - 1, by omega⟩
  simp [Builtin.clear_, run_underlying Tryz.underlying23, hz, hzc, hst]
theorem RefRow.shifted {w : World} {g : Nat} {l : List Rf} (h : RefRow w g l) {i : Nat} (hi : i < l.length) : RefRow (w.setCells g (i * 2) (refC (l.drop (i + 1)))) g (l.eraseIdx i) := by
  intro j u hu
  have e1 : l.eraseIdx i = l.take i ++ l.drop (i + 1) := List.eraseIdx_eq_take_drop_succ l i
  have hlt : (refC (l.take i)).length = i * 2 := by rw [refC_length, List.length_take]; omega
  have hld : (refC (l.drop (i + 1))).length = (l.length - (i + 1)) * 2 := by rw [refC_length, List.length_drop]
  have H : ∀ j u, (refC l)[j]? = some u → w.cell? ⟨g, j, none⟩ = some u ∧ w.frozen? ⟨g, j, none⟩ = false := h
  have hh : ∀ j, j < l.length * 2 → (w.cell? ⟨g, j, none⟩).isSome = true ∧ w.frozen? ⟨g, j, none⟩ = false := fun j hj => by
    obtain ⟨u, hu⟩ : ∃ u, (refC l)[j]? = some u := ⟨_, List.getElem?_eq_getElem (by rw [refC_length]; exact hj)⟩
    exact ⟨by rw [(H j u hu).1]; rfl, (H j u hu).2⟩
  rw [e1, refC_append] at hu
  rcases Nat.lt_or_ge j (i * 2) with hj | hj
  · rw [List.getElem?_append_left (by omega)] at hu
    have e2 : l = l.take i ++ l.drop i := (List.take_append_drop i l).symm
    have := H j u (by rw [e2, refC_append, List.getElem?_append_left (by omega)]; exact hu)
    rw [World.frozen?_setCells, World.cell?_setCells_out g _ _ _ _ (fun _ _ => .inl hj)]
    exact this
  · rw [List.getElem?_append_right (by omega), hlt] at hu
    have hj2 : j - i * 2 < (refC (l.drop (i + 1))).length := (List.getElem?_eq_some_iff.1 hu).1
    obtain ⟨k, rfl⟩ : ∃ k, j = i * 2 + k := ⟨j - i * 2, by omega⟩
    rw [show i * 2 + k - i * 2 = k from by omega] at hu hj2
    rw [World.frozen?_setCells, World.cell?_setCells_in g (refC (l.drop (i + 1))) (i * 2) w (fun t ht => (hh (i * 2 + t) (by rw [hld] at ht; omega)).1) k hj2]
    rw [List.getElem?_eq_getElem hj2] at hu
    exact ⟨hu, (hh (i * 2 + k) (by rw [hld] at hj2; omega)).2⟩
/-- what stands behind the i-th goes one down -/
theorem append_down (w : World) (g i m cap cap2 : Nat) (ty : TypeId) (l : List Rf) (h : RefRow w g l) (hi : i + 1 + m = l.length) (hc : l.length ≤ cap) (hcm : cap ≤ 9223372036854775807) :
    (Builtin.append_ #[23, 23] ty #[.slice (some ⟨g, 0, none⟩) i cap, .slice (some ⟨g, (i + 1) * 2, none⟩) m cap2]).run Tryz.prog w = .ok (.slice (some ⟨g, 0, none⟩) (i + m) cap) (w.setCells g (i * 2) (refC (l.drop (i + 1)))) := by
  obtain ⟨i0, hi0, hz0, hz1, hz2⟩ := info_parts infoRef
  have hld : (refC (l.drop (i + 1))).length = m * 2 := by rw [refC_length, List.length_drop, show l.length - (i + 1) = m from by omega]
  have hh : ∀ j u, (refC (l.drop (i + 1)))[j]? = some u → w.cell? ⟨g, (i + 1) * 2 + j, none⟩ = some u := fun j u hu => by
    have e2 : l = l.take (i + 1) ++ l.drop (i + 1) := (List.take_append_drop (i + 1) l).symm
    have hlt : (refC (l.take (i + 1))).length = (i + 1) * 2 := by rw [refC_length, List.length_take, Nat.min_eq_left (by omega)]
    refine (h ((i + 1) * 2 + j) u ?_).1
    rw [e2, refC_append, List.getElem?_append_right (by omega), hlt, show (i + 1) * 2 + j - (i + 1) * 2 = j from by omega]
    exact hu
  have hcell : ∀ j, j < l.length * 2 → (w.cell? ⟨g, j, none⟩).isSome = true ∧ w.frozen? ⟨g, j, none⟩ = false := fun j hj => by
    obtain ⟨u, hu⟩ : ∃ u, (refC l)[j]? = some u := ⟨_, List.getElem?_eq_getElem (by rw [refC_length]; exact hj)⟩
    have := h j u hu
    exact ⟨by rw [this.1]; rfl, this.2⟩
  have hfo := run_firstCells_some (P := Tryz.prog) w 2 m ⟨g, (i + 1) * 2, none⟩ m cap2 (refC (l.drop (i + 1))) hld (fun j u hu => by
    have := hh j u hu
    unfold Addr.add
    split
    · rename_i e; rw [e] at this; exact this
    · simpa using this)
  have hst := run_storeCells_cells (P := Tryz.prog) g (i * 2) (refC (l.drop (i + 1))) 0 w (fun j hj => (hcell (i * 2 + j) (by rw [hld] at hj; omega)).1) (fun j hj => (hcell (i * 2 + j) (by rw [hld] at hj; omega)).2) (refC_one _)
  simp only [Nat.add_zero] at hst
  have hroom : i + m ≤ cap := by omega
  simp [Builtin.append_, run_underlying Tryz.underlying23, sizeOf, typeInfo, hi0, hz1, Builtin.lenOf, hroom, hfo, Addr.add_lit, hst]
theorem append_down0 (w : World) (g i cap cap2 : Nat) (B : Option Addr) (ty : TypeId) (hi : i ≤ cap) :
    (Builtin.append_ #[23, 23] ty #[.slice (some ⟨g, 0, none⟩) i cap, .slice B 0 cap2]).run Tryz.prog w = .ok (.slice (some ⟨g, 0, none⟩) i cap) w := by
  obtain ⟨i0, hi0, hz0, hz1, hz2⟩ := info_parts infoRef
  have hf : (Builtin.firstCells 2 0 (.slice B 0 cap2)).run Tryz.prog w = .ok #[] w := by
    cases B with
    | none => exact run_firstCells_none (P := Tryz.prog) w 2 0 0 cap2
    | some A => exact run_firstCells_some (P := Tryz.prog) w 2 0 A 0 cap2 [] rfl (fun j u hu => by simp at hu)
  have hst := run_storeCells_cells (P := Tryz.prog) g (i * 2) [] 0 w (fun j hj => by simp at hj) (fun j hj => by simp at hj) (fun u hu => by simp at hu)
  simp only [Nat.add_zero] at hst
  simp [Builtin.append_, run_underlying Tryz.underlying23, sizeOf, typeInfo, hi0, hz1, Builtin.lenOf, hi, hf, Addr.add_lit, hst]
  rfl
set_option maxHeartbeats 4000000 in
set_option maxRecDepth 20000 in
theorem delete1_any (g cap i n m : Nat) (l : List Rf) (w : World) (h : RefRow w g l) (hn : l.length = n) (hi : i + 1 + m = n) (hl : n ≤ 1000000) (hc : n ≤ cap) (hm : cap ≤ 9223372036854775807) (hcj : ¬ cap = i + 1) :
    Calls Tryz.prog 50 #[.slice (some ⟨g, 0, none⟩) n cap, .int .i64 i, .int .i64 ((i : Int) + 1)] w fun e w' =>
      e = .returned (.slice (some ⟨g, 0, none⟩) (i + m) cap) ∧ RefRow w' g (l.eraseIdx i) ∧ Chg (fun k => k = g) w w' := by
  have HN := Lib.hid hn
  have hap := fun c2 ty => append_down w.drew g i m cap c2 ty l (h.keep (w' := w.drew) rfl) (by omega) (by omega) hm
  have HR1 : Hid (RefRow (w.drew.setCells g (i * 2) (refC (l.drop (i + 1)))) g (l.eraseIdx i)) := (h.keep (w' := w.drew) rfl).shifted (by omega)
  have HC1 : Hid (Chg (fun k => k = g) w (w.drew.setCells g (i * 2) (refC (l.drop (i + 1))))) := chg_setCells _ _ (Chg.refl w).drew
  have hld : (refC (l.drop (i + 1))).length = m * 2 := by rw [refC_length, List.length_drop, show l.length - (i + 1) = m from by omega]
  have hzz : ∀ j, j < 1 * 2 → ((w.drew.setCells g (i * 2) (refC (l.drop (i + 1)))).cell? ⟨g, (i + m) * 2 + j, none⟩).isSome = true ∧ (w.drew.setCells g (i * 2) (refC (l.drop (i + 1)))).frozen? ⟨g, (i + m) * 2 + j, none⟩ = false := by
    intro j hj
    obtain ⟨u, hu⟩ : ∃ u, (refC l)[(i + m) * 2 + j]? = some u := ⟨_, List.getElem?_eq_getElem (by rw [refC_length]; omega)⟩
    have := h _ u hu
    rw [World.frozen?_setCells, World.cell?_setCells_out g _ _ _ _ (fun _ _ => .inr (by show i * 2 + _ ≤ (i + m) * 2 + j; rw [hld]; omega))]
    exact ⟨by rw [show w.drew.cell? ⟨g, (i + m) * 2 + j, none⟩ = w.cell? ⟨g, (i + m) * 2 + j, none⟩ from rfl, this.1]; rfl, this.2⟩
  have hclr := clear_refs (w.drew.setCells g (i * 2) (refC (l.drop (i + 1)))) g ((i + m) * 2) 1 (cap - (i + m)) (by omega) (fun j hj => (hzz j hj).1) (fun j hj => (hzz j hj).2)
  have HRL : Hid ((l.eraseIdx i).length = i + m) := by show _ = _; rw [List.length_eraseIdx_of_lt (by omega)]; omega
  clear hzz hld
  have hki : n - (i + 1) = m := by omega
  have hkm : n - (i + m) = 1 := by omega
  have hcm : ¬ cap = i + m := by omega
  have him : i + m ≤ n := by omega
  have hic : i ≤ cap := by omega
  have hin : i + 1 ≤ n := by omega
  have hi0 : 0 ≤ (i : Int) + 1 := by omega
  have hi1 : (i : Int) + 1 ≤ (n : Int) := by omega
  clear h hn
  go_enter Tryz.func50, Tryz.ntmps50
  · go_wp2_with fail
    refine wp_region_still_tail 6 (by kernel_rfl) (by kernel_rfl) ?_
    simp only [List.take_succ_cons, List.take_zero, List.drop_succ_cons, List.drop_zero]
    repeat (first | (refine wpStill_want rfl (fun K hK => ?_); go_simp; refine hK _ ?_; clear hK K) | (refine wpStill_skip rfl ?_; go_frame))
    refine wpStill_nil ?_
    change wpList _ _ _ _ _ w.drew
    go_wp2_with (refine wpList_app rfl (.tmp 22) (.tmp 25) 23 23 rfl _ _ rfl rfl (fun v' w' => v' = .slice (some ⟨g, 0, none⟩) (i + m) cap ∧ w' = w.drew.setCells g (i * 2) (refC (l.drop (i + 1)))) ⟨_, _, hap _ _, rfl, rfl⟩ ?_; rintro v' w' ⟨rfl, rfl⟩)
    go_wp2_with fail
    go_ret
    exact ⟨rfl, by have := HR1.out.cleared (i + m) (List.replicate (1 * 2) (.int .i64 0)); rw [List.take_of_length_le (by rw [HRL.out]; omega)] at this; exact this, chg_setCells _ _ HC1.out⟩
set_option maxHeartbeats 4000000 in
set_option maxRecDepth 20000 in
theorem delete0_any (g i : Nat) (l : List Rf) (w : World) (h : RefRow w g l) (hn : l.length = i + 1) (hl : i ≤ 1000000) :
    Calls Tryz.prog 50 #[.slice (some ⟨g, 0, none⟩) (i + 1) (i + 1), .int .i64 i, .int .i64 ((i : Int) + 1)] w fun e w' =>
      e = .returned (.slice (some ⟨g, 0, none⟩) i (i + 1)) ∧ RefRow w' g (l.eraseIdx i) ∧ Chg (fun k => k = g) w w' := by
  have hap := fun c2 B ty => append_down0 w.drew g i (i + 1) c2 B ty (by omega)
  have HR1 : Hid (RefRow w.drew g l) := h.keep (w' := w.drew) rfl
  have hzz : ∀ j, j < 1 * 2 → (w.drew.cell? ⟨g, i * 2 + j, none⟩).isSome = true ∧ w.drew.frozen? ⟨g, i * 2 + j, none⟩ = false := by
    intro j hj
    obtain ⟨u, hu⟩ : ∃ u, (refC l)[i * 2 + j]? = some u := ⟨_, List.getElem?_eq_getElem (by rw [refC_length]; omega)⟩
    have := HR1.out _ u hu
    exact ⟨by rw [this.1]; rfl, this.2⟩
  have hclr := clear_refs w.drew g (i * 2) 1 1 (by omega) (fun j hj => (hzz j hj).1) (fun j hj => (hzz j hj).2)
  have HRL : Hid (l.eraseIdx i = l.take i) := by show _ = _; rw [List.eraseIdx_eq_take_drop_succ, List.drop_of_length_le (by omega), List.append_nil]
  clear hzz
  have hkm : i + 1 - i = 1 := by omega
  have hic : i ≤ i + 1 := by omega
  have hi0 : 0 ≤ (i : Int) + 1 := by omega
  have hcm : ¬ i + 1 = i := by omega
  have hi2 : (i : Int) ≤ (i : Int) + 1 := by omega
  clear h hn
  go_enter Tryz.func50, Tryz.ntmps50
  go_wp2_with fail
  refine wp_region_still_tail 6 (by kernel_rfl) (by kernel_rfl) ?_
  simp only [List.take_succ_cons, List.take_zero, List.drop_succ_cons, List.drop_zero]
  repeat (first | (refine wpStill_want rfl (fun K hK => ?_); go_simp; refine hK _ ?_; clear hK K) | (refine wpStill_skip rfl ?_; go_frame))
  refine wpStill_nil ?_
  change wpList _ _ _ _ _ w.drew
  go_wp2_with (refine wpList_app rfl (.tmp 22) (.tmp 25) 23 23 rfl _ _ rfl rfl (fun v' w' => v' = .slice (some ⟨g, 0, none⟩) i (i + 1) ∧ w' = w.drew) ⟨_, _, hap _ _ _, rfl, rfl⟩ ?_; rintro v' w' ⟨rfl, rfl⟩)
  go_wp2_with fail
  go_ret
  exact ⟨rfl, by rw [HRL.out]; exact HR1.out.cleared i (List.replicate (1 * 2) (.int .i64 0)), chg_setCells _ _ (Chg.refl w).drew⟩
theorem delete_any (g cap i n m : Nat) (l : List Rf) (w : World) (h : RefRow w g l) (hn : l.length = n) (hi : i + 1 + m = n) (hl : n ≤ 1000000) (hc : n ≤ cap) (hm : cap ≤ 9223372036854775807) :
    Calls Tryz.prog 50 #[.slice (some ⟨g, 0, none⟩) n cap, .int .i64 i, .int .i64 ((i : Int) + 1)] w fun e w' =>
      e = .returned (.slice (some ⟨g, 0, none⟩) (i + m) cap) ∧ RefRow w' g (l.eraseIdx i) ∧ Chg (fun k => k = g) w w' := by
  by_cases hcj : cap = i + 1
  · obtain rfl : m = 0 := by omega
    obtain rfl : n = i + 1 := by omega
    subst hcj
    exact delete0_any g i l w h hn (by omega)
  · exact delete1_any g cap i n m l w h hn hi hl hc hm hcj
end Go.Proofs.YtclgfcjcpbiadaaGreatDoor

namespace Go.Proofs.YtclgfcjcpbiadaaGreatDoor
open Go.ChangeShapes Go.WideShapes Go.ChangeAt Go.RowKit

/-- a set of refs in a variable of its own -/
structure SetV (w : World) (q m : Nat) (S : List Rf) : Prop where
  cell : w.cell? ⟨q, 0, none⟩ = some (.map (some m))
  lt : q < w.heap.size
  set : SetM w m S
theorem SetV.below {w w' : World} {q m : Nat} {S : List Rf} (h : SetV w q m S) (hb : Below w.heap.size w w') : SetV w' q m S :=
  ⟨(World.cell?_of_block (hb.block _ h.lt)).trans h.cell, Nat.lt_of_lt_of_le h.lt hb.size, h.set.keep (hb.block _ (MapL.lt h.set))⟩
set_option maxHeartbeats 2000000 in
theorem head1_any (S : List Rf) (r : Rf) (hr : I64R r) (q m : Nat) (w : World) (hS : SetV w q m S) :
    Calls Tryz.prog 52 (#[.agg #[.int .i64 r.1, .int .i64 r.2]] ++ #[.pointer (some ⟨q, 0, none⟩)]) w fun e w' => e = .returned (.bool (decide (r ∈ S))) ∧ Below w.heap.size w w' := by
  have hW : Below w.heap.size w (w.alloc (.cells #[.int .i64 r.1, .int .i64 r.2] 25)) := (Below.refl _ w).alloc (Nat.le_refl _) _
  have hQ := Blk.new w 25 #[.int .i64 r.1, .int .i64 r.2]
  have hS2 := hS.below hW
  have HW := Lib.hid hW
  obtain ⟨ok, hok⟩ : ∃ ok, decide (r ∈ S) = ok := ⟨_, rfl⟩
  rw [hok]
  clear hS hW
  show Calls _ _ #[.agg #[.int .i64 r.1, .int .i64 r.2], .pointer (some ⟨q, 0, none⟩)] _ _
  go_enter Tryz.func52, Tryz.ntmps52
  go_upto_region 1 with fail
  generalize w.alloc (.cells #[.int .i64 r.1, .int .i64 r.2] 25) = V at *
  have r1 : V.cell? ⟨w.heap.size, 0, none⟩ = some (.int .i64 r.1) := hQ.cell 0
  have r2 : V.cell? ⟨w.heap.size, 1, none⟩ = some (.int .i64 r.2) := hQ.cell 1
  have m1 := hS2.cell
  have hlk := hS2.set.look hr
  rw [hok] at hlk
  unfold refV at hlk
  clear hS2 hQ hok
  go_wp2_with fail
  go_ret
  exact ⟨rfl, HW.out⟩
set_option maxHeartbeats 2000000 in
theorem all11_any (S : List Rf) (r : Rf) (hr : I64R r) (q m : Nat) (w : World) (hS : SetV w q m S) :
    Calls Tryz.prog 49 (#[.agg #[.int .i64 r.1, .int .i64 r.2]] ++ #[.pointer (some ⟨q, 0, none⟩)]) w fun e w' => e = .returned (.bool (!decide (r ∈ S))) ∧ Below w.heap.size w w' := by
  have hW : Below w.heap.size w (w.alloc (.cells #[.int .i64 r.1, .int .i64 r.2] 25)) := (Below.refl _ w).alloc (Nat.le_refl _) _
  have hQ := Blk.new w 25 #[.int .i64 r.1, .int .i64 r.2]
  have hS2 := hS.below hW
  have HW := Lib.hid hW
  obtain ⟨ok, hok⟩ : ∃ ok, decide (r ∈ S) = ok := ⟨_, rfl⟩
  rw [hok]
  clear hS hW
  show Calls _ _ #[.agg #[.int .i64 r.1, .int .i64 r.2], .pointer (some ⟨q, 0, none⟩)] _ _
  go_enter Tryz.func49, Tryz.ntmps49
  go_upto_region 1 with fail
  generalize w.alloc (.cells #[.int .i64 r.1, .int .i64 r.2] 25) = V at *
  have r1 : V.cell? ⟨w.heap.size, 0, none⟩ = some (.int .i64 r.1) := hQ.cell 0
  have r2 : V.cell? ⟨w.heap.size, 1, none⟩ = some (.int .i64 r.2) := hQ.cell 1
  have m1 := hS2.cell
  have hlk := hS2.set.look hr
  rw [hok] at hlk
  unfold refV at hlk
  clear hS2 hQ hok
  go_wp2_with fail
  go_ret
  exact ⟨rfl, HW.out⟩
set_option maxHeartbeats 4000000 in
set_option maxRecDepth 20000 in
theorem field_deps (a s st : Int) (A : Option Addr) (n c : Nat) (A' : Option Addr) (n' c' : Nat) (w : World) :
    (Instr.field 34 (.agg #[.int .i64 a, .int .i64 s, .int .i64 st, .slice A n c, .slice A' n' c']) 3).run Tryz.prog w = .ok (.slice A n c) w := by kernel_rfl
set_option maxHeartbeats 4000000 in
set_option maxRecDepth 20000 in
theorem all1_any (L : List ChD) (x : ChD) (hf : findC L x.rf = some x) (hr : I64R x.rf) (hd : ∀ d ∈ x.deps, I64R d) (S : List Rf) (g bh q q2 m : Nat) (V2 V3 : Value) (w : World) (hB : HB w g bh V2 V3 L) (hx : ChIn (fun k => k < w.heap.size) w x)
    (hq : w.cell? ⟨q, 0, none⟩ = some (.pointer (some ⟨g, 0, none⟩))) (hql : q < w.heap.size) (hS : SetV w q2 m S) :
    Calls Tryz.prog 47 (#[.agg #[.int .i64 x.a, .int .i64 x.s]] ++ #[.pointer (some ⟨q, 0, none⟩), .pointer (some ⟨q2, 0, none⟩)]) w fun e w' => e = .returned (.bool (x.deps.all fun d => decide (d ∈ S))) ∧ Below w.heap.size w w' := by
  have hW : Below w.heap.size w (w.alloc (.cells #[.int .i64 x.a, .int .i64 x.s] 25)) := (Below.refl _ w).alloc (Nat.le_refl _) _
  have hQ := Blk.new w 25 #[.int .i64 x.a, .int .i64 x.s]
  have hS2 := hS.below hW
  have hB2 := hB.below hW
  have hq2 : (w.alloc (.cells #[.int .i64 x.a, .int .i64 x.s] 25)).cell? ⟨q, 0, none⟩ = some (.pointer (some ⟨g, 0, none⟩)) := by rw [World.cell?_alloc_lt _ _ _ hql]; exact hq
  have hxd := reads_below hx.hd hW
  have hxl := hx.hdl
  have HW := Lib.hid hW
  have EG : ∀ args w, (callFunc 49 args).run Tryz.prog w = .ok (.enter 49 args) w := enters_of Tryz.func49 (by kernel_rfl) (Option.some_get (show Tryz.f49.body.isSome = true by kernel_rfl)).symm
  have hall : (x.deps.all fun d => decide (d ∈ S)) = !(x.deps.any fun d => !decide (d ∈ S)) := by rw [List.not_any_eq_all_not]; simp
  obtain ⟨ok, hok⟩ : ∃ ok, (x.deps.any fun d => !decide (d ∈ S)) = ok := ⟨_, rfl⟩
  rw [hall, hok]
  clear hS hW hB hq hall hx
  show Calls _ _ #[.agg #[.int .i64 x.a, .int .i64 x.s], .pointer (some ⟨q, 0, none⟩), .pointer (some ⟨q2, 0, none⟩)] _ _
  go_enter Tryz.func47, Tryz.ntmps47
  go_upto_region 1 with fail
  generalize w.alloc (.cells #[.int .i64 x.a, .int .i64 x.s] 25) = V at *
  have r1 : V.cell? ⟨w.heap.size, 0, none⟩ = some (.int .i64 x.a) := hQ.cell 0
  have r2 : V.cell? ⟨w.heap.size, 1, none⟩ = some (.int .i64 x.s) := hQ.cell 1
  have g0 : V.cell? ⟨g, 0, none⟩ = some (.map (some bh)) := hB2.blk.cell 0
  have hlk := (hB2.below (Below.refl _ V).drew).mh.look hr false
  have hlv : lookV L x.rf = x.v := by unfold lookV; rw [hf]
  rw [hlv] at hlk
  unfold ChD.v ChD.rf at hlk
  simp only [Bool.false_eq_true, if_false] at hlk
  have C1 := containsF_any x.deps x.DA x.DC V.drew (hxd.keep fun k hk => rfl) hxl 49 #[.pointer (some ⟨q2, 0, none⟩)] (fun d => !decide (d ∈ S)) EG
    (fun W r hr' hb => all11_any S r (hd r hr') q2 m W ((hS2.below (Below.refl _ V).drew).below hb))
  rw [hok] at C1
  have hfl := fun w => field_deps x.a x.s x.st x.DA x.deps.length x.DC x.OA x.ops.length x.OC w
  clear hS2 hQ hB2 hlv
  refine wp_region_still_tail 8 (by kernel_rfl) (by kernel_rfl) ?_
  simp only [List.take_succ_cons, List.take_zero, List.drop_succ_cons, List.drop_zero]
  repeat (first | (refine wpStill_want rfl (fun K hK => ?_); go_simp; refine hK _ ?_; clear hK K) | (refine wpStill_skip rfl ?_; go_frame))
  refine wpStill_nil ?_
  change wpList _ _ _ _ _ V.drew
  go_wp2_with fail
  go_at_call 48
  refine C1.mono ?_
  rintro e w2 ⟨rfl, hb⟩
  replace HW : Hid (Below w.heap.size w w2) := HW.out.drew.trans (hb.mono HW.out.size)
  go_wp2_with fail
  go_ret
  exact ⟨rfl, HW.out⟩
end Go.Proofs.YtclgfcjcpbiadaaGreatDoor

namespace Go.Proofs.YtclgfcjcpbiadaaGreatDoor
open Go.ChangeShapes Go.WideShapes Go.ChangeAt Go.RowKit

/-- a predicate that holds though row g is written -/
def PredG (gf : Nat) (lb : Array Value) (l : List Rf) (p : Rf → Bool) (g : Nat) (w : World) : Prop :=
  ∀ (W : World) (r : Rf), r ∈ l → Chg (fun k => k = g) w W → Calls Tryz.prog gf (#[.agg #[.int .i64 r.1, .int .i64 r.2]] ++ lb) W fun e w' => e = .returned (.bool (p r)) ∧ Below W.heap.size W w'
theorem filter_snoc {p : Rf → Bool} {l : List Rf} {j : Nat} {x : Rf} (h : l[j]? = some x) : (l.take (j + 1)).filter p = (l.take j).filter p ++ (if p x then [x] else []) := by
  rw [List.take_add_one, h, Option.toList_some, List.filter_append]
  cases h : p x <;> simp [h]
set_option maxHeartbeats 4000000 in
set_option maxRecDepth 20000 in
theorem deleteF_any (g cap n : Nat) (l : List Rf) (w : World) (h : RefRow w g l) (hg : g < w.heap.size) (hn : l.length = n) (hl : n ≤ 1000000) (hc : n ≤ cap) (hm : cap ≤ 9223372036854775807) (gf : Nat) (lb : Array Value) (p : Rf → Bool)
    (eg : ∀ args w, (callFunc gf args).run Tryz.prog w = .ok (.enter gf args) w) (hp : PredG gf lb l p g w) :
    Calls Tryz.prog 51 #[.slice (some ⟨g, 0, none⟩) n cap, .func (.func gf) #[] lb] w fun e w' =>
      e = .returned (.slice (some ⟨g, 0, none⟩) (l.filter fun r => !p r).length cap) ∧ RefRow w' g (l.filter fun r => !p r) ∧ Chg (fun k => k = g) w w' := by
  have C1 := indexF_any l (some ⟨g, 0, none⟩) cap w (h.reads.more fun k hk => by rw [hk]; exact hg) (by omega) gf lb p eg (fun W r hr hb => hp W r hr (Chg.of_below hb))
  rw [hn] at C1
  have HR := Lib.hid h
  have HP := Lib.hid hp
  have HN := Lib.hid hn
  have HG := Lib.hid hg
  clear h hp hn hg
  go_enter Tryz.func51, Tryz.ntmps51
  go_wp2_with fail
  go_at_call 46
  refine C1.mono ?_
  rintro e w1 ⟨rfl, hb⟩
  have HR1 := Lib.hid (HR.out.keep (hb.block _ HG.out))
  have HC1 : Hid (Chg (fun k => k = g) w w1) := Chg.of_below hb
  clear C1 hb
  unfold idxP
  cases hf : l.findIdx? p with
  | none =>
    have HF : Hid ((l.filter fun r => !p r) = l) := by
      show _ = _
      rw [List.filter_eq_self]
      intro r hr
      rw [List.findIdx?_eq_none_iff.1 hf r hr]; rfl
    clear hf
    go_wp2_with fail
    go_ret
    exact ⟨by rw [HF.out, HN.out]; rfl, by rw [HF.out]; exact HR1.out, HC1.out⟩
  | some k =>
    obtain ⟨hkl, hpk, hlt⟩ := List.findIdx?_eq_some_iff_getElem.1 hf
    have HST : Hid (l.take k = (l.take (k + 1)).filter fun r => !p r) := by
      show _ = _
      rw [filter_snoc (List.getElem?_eq_some_iff.2 ⟨hkl, rfl⟩), hpk]
      simp only [Bool.not_true, Bool.false_eq_true, if_false, List.append_nil]
      symm
      rw [List.filter_eq_self]
      intro r hr
      obtain ⟨j, hj, e⟩ := List.getElem_of_mem hr
      have hj' : j < k := by rw [List.length_take] at hj; omega
      have := hlt j hj'
      rw [List.getElem_take] at e
      rw [e] at this
      simpa using this
    have hk1 : k + 1 ≤ n := by rw [← HN.out]; omega
    have hkz : ((k : Int) == -1) = false := by simp
    clear hf hkl hpk hlt
    go_wp2_with fail
    go_loopw [5, 6, 7] (fun s5 s6 _ wr => ∃ (i j : Nat) (xs : List Rf), s5 = .int .i64 i ∧ s6 = .int .i64 j ∧ i < j ∧ j ≤ n ∧ Hid (RefRow wr g xs ∧ xs.length = n ∧ xs.take i = ((l.take j).filter fun r => !p r) ∧ xs.drop j = l.drop j) ∧ Hid (Chg (fun k => k = g) w wr)) (fun _ s6 _ _ => n - (intOf s6).toNat)
    case atStart => exact ⟨k, k + 1, l, rfl, by go_num, by omega, hk1, Lib.hid ⟨HR1.out, HN.out, HST.out, rfl⟩, HC1⟩
    case round =>
      clear HR1 HC1
      obtain ⟨i, j, xs, rfl, rfl, hij, hj, HX, HC⟩ := hrel
      by_cases hjl : j < n
      · obtain ⟨x, hx⟩ : ∃ x, l[j]? = some x := ⟨_, List.getElem?_eq_getElem (by rw [HN.out]; exact hjl)⟩
        have hxx : xs[j]? = some x := by
          have h1 : (xs.drop j)[0]? = (l.drop j)[0]? := by rw [HX.out.2.2.2]
          rw [List.getElem?_drop, List.getElem?_drop] at h1
          rw [← hx]; simpa using h1
        have x1 : wr.cell? ⟨g, j * 2, none⟩ = some (.int .i64 x.1) := HX.out.1.cell1 hxx
        have x2 : wr.cell? ⟨g, j * 2 + 1, none⟩ = some (.int .i64 x.2) := HX.out.1.cell2 hxx
        have hgl : g < wr.heap.size := Nat.lt_of_lt_of_le HG.out HC.out.size
        have HXM := Lib.hid (List.mem_of_getElem? hx)
        have HFS := Lib.hid (filter_snoc (p := fun r => !p r) hx)
        have HD1 : Hid (xs.drop (j + 1) = l.drop (j + 1)) := by show _ = _; rw [← List.drop_drop, ← List.drop_drop, HX.out.2.2.2]
        clear hx hxx
        go_upto_region 8 with fail
        have HQ := Lib.hid (Blk.new wr 25 #[.int .i64 x.1, .int .i64 x.2])
        have HX2 := Lib.hid (HX.out.1.keep (w' := wr.alloc (.cells #[.int .i64 x.1, .int .i64 x.2] 25)) (Below.heap_alloc _ _ _ hgl))
        have HC2 := Lib.hid (HC.out.alloc (.cells #[.int .i64 x.1, .int .i64 x.2] 25))
        clear x1 x2 HC
        generalize wr.alloc (.cells #[.int .i64 x.1, .int .i64 x.2] 25) = w2 at HQ HX2 HC2 ⊢
        generalize wr.heap.size = qx at HQ hgl ⊢
        have q1 : w2.cell? ⟨qx, 0, none⟩ = some (.int .i64 x.1) := HQ.out.cell 0
        have q2 : w2.cell? ⟨qx, 1, none⟩ = some (.int .i64 x.2) := HQ.out.cell 1
        go_wp2_with fail
        refine (HP.out w2 x HXM.out HC2.out).mono ?_
        rintro e w3 ⟨rfl, hb⟩
        have HQ3 := Lib.hid (HQ.out.keep (hb.block _ HQ.out.lt))
        have HX3 := Lib.hid (HX2.out.keep (hb.block _ (Nat.lt_of_lt_of_le HG.out HC2.out.size)))
        have HC3 : Hid (Chg (fun k => k = g) w w3) := HC2.out.trans (Chg.of_below hb) fun _ _ h => h
        clear q1 q2 hb HQ HX2 HC2
        cases hpx : p x with
        | true =>
          have HF2 : Hid (xs.take i = ((l.take (j + 1)).filter fun r => !p r)) := by show _ = _; rw [HFS.out, hpx, HX.out.2.2.1]; simp
          clear hpx
          go_wp2_with fail
          go_roundw
          case rel => exact ⟨i, j + 1, xs, rfl, by go_num, by omega, by omega, Lib.hid ⟨HX3.out, HX.out.2.1, HF2.out, HD1.out⟩, HC3⟩
          case measure => simp [intOf]; omega
        | false =>
          have hil : i < xs.length := by rw [HX.out.2.1]; omega
          have HF2 : Hid ((xs.set i x).take (i + 1) = ((l.take (j + 1)).filter fun r => !p r)) := by
            show _ = _
            rw [HFS.out, hpx, ← HX.out.2.2.1, List.take_add_one, List.getElem?_set_self hil, List.take_set_of_le (Nat.le_refl i)]; rfl
          have HD2 : Hid ((xs.set i x).drop (j + 1) = l.drop (j + 1)) := by
            show _ = _
            rw [List.drop_set_of_lt (by omega), HD1.out]
          have HX4 := Lib.hid (HX3.out.set i x hil)
          have HC4 : Hid (Chg (fun k => k = g) w ((w3.setCell ⟨g, i * 2, none⟩ (.int .i64 x.1)).setCell ⟨g, i * 2 + 1, none⟩ (.int .i64 x.2))) := (HC3.out.setCell (p := ⟨g, i * 2, none⟩) (.inl rfl) _).setCell (p := ⟨g, i * 2 + 1, none⟩) (.inl rfl) _
          have HSL : Hid ((xs.set i x).length = n) := by show _ = _; rw [List.length_set]; exact HX.out.2.1
          have q1 : w3.cell? ⟨qx, 0, none⟩ = some (.int .i64 x.1) := HQ3.out.cell 0
          have q2 : w3.cell? ⟨qx, 1, none⟩ = some (.int .i64 x.2) := HQ3.out.cell 1
          obtain ⟨y, hy⟩ : ∃ y, xs[i]? = some y := ⟨_, List.getElem?_eq_getElem hil⟩
          have s1 : w3.cell? ⟨g, i * 2, none⟩ = some (.int .i64 y.1) := HX3.out.cell1 hy
          have s2 : w3.cell? ⟨g, i * 2 + 1, none⟩ = some (.int .i64 y.2) := HX3.out.cell2 hy
          have f1 : w3.frozen? ⟨g, i * 2, none⟩ = false := (HX3.out _ _ (refC_at hy).1).2
          have f2 : w3.frozen? ⟨g, i * 2 + 1, none⟩ = false := (HX3.out _ _ (refC_at hy).2).2
          clear hpx hy hil
          go_wp2_with fail
          go_roundw
          case rel => exact ⟨i + 1, j + 1, xs.set i x, by go_num, by go_num, by omega, by omega, Lib.hid ⟨HX4.out, HSL.out, HF2.out, HD2.out⟩, HC4⟩
          case measure => simp [intOf]; omega
      · have HFI : Hid ((l.filter fun r => !p r) = xs.take i) := by
          show _ = _
          rw [HX.out.2.2.1, List.take_of_length_le (by rw [HN.out]; omega)]
        have HIL : Hid ((xs.take i).length = i) := by show _ = _; rw [List.length_take, HX.out.2.1]; omega
        have hzz : ∀ t, t < (n - i) * 2 → (wr.cell? ⟨g, i * 2 + t, none⟩).isSome = true ∧ wr.frozen? ⟨g, i * 2 + t, none⟩ = false := by
          intro t ht
          have hlen : i * 2 + t < (refC xs).length := by rw [refC_length, HX.out.2.1]; omega
          have := HX.out.1 _ _ (List.getElem?_eq_getElem hlen)
          exact ⟨by rw [this.1]; rfl, this.2⟩
        have hclr := clear_refs wr g (i * 2) (n - i) (cap - i) (by omega) (fun t ht => (hzz t ht).1) (fun t ht => (hzz t ht).2)
        have hcm : ¬ cap = i := by omega
        clear hzz
        go_wp2_with fail
        go_ret
        exact ⟨by rw [HFI.out, HIL.out]; rfl, by rw [HFI.out]; exact HX.out.1.cleared i _, chg_setCells _ _ HC.out⟩
end Go.Proofs.YtclgfcjcpbiadaaGreatDoor

namespace Go.Proofs.YtclgfcjcpbiadaaGreatDoor
open Go.RowKit

/-- All under way: the refs that are left, ascending (S); what came (out) -/
structure AllG (L : List ChD) (S : List Rf) (out : List ChD) : Prop where
  fin : allP L = allGo L S.length out
  len : S.length + out.length = L.length
  mem : ∀ r, r ∈ S ↔ r ∈ refsOf L ∧ r ∉ refsOf out
  asc : AscW S
  nd : S.Nodup
section
variable {L out : List ChD} {S : List Rf} {k : Nat} {r : Rf} {x : ChD}
theorem AllG.start (hn : (refsOf L).Nodup) (hp : S.Perm (refsOf L)) (ha : AscW S) : AllG L S [] := by
  have hl : S.length = L.length := by rw [hp.length_eq]; simp [refsOf]
  exact ⟨by rw [hl]; rfl, by simp [hl], fun r => by simp [refsOf, hp.mem_iff] , ha, hp.nodup_iff.2 hn⟩
theorem AscW.erase (h : AscW S) (k : Nat) : AscW (S.eraseIdx k) := by
  intro i j x y hij hx hy
  rw [List.getElem?_eraseIdx] at hx hy
  by_cases h1 : i < k
  · rw [if_pos h1] at hx
    by_cases h2 : j < k
    · rw [if_pos h2] at hy; exact h i j x y hij hx hy
    · rw [if_neg h2] at hy; exact h i (j + 1) x y (by omega) hx hy
  · rw [if_neg h1] at hx
    rw [if_neg (by omega)] at hy
    exact h (i + 1) (j + 1) x y (by omega) hx hy
/-- may it be next? -/
def mayNext (L out : List ChD) (r : Rf) : Bool := match findC L r with
  | some c => c.deps.all fun d => decide (d ∈ refsOf out)
  | none => false
theorem AllG.step (h : AllG L S out) (hb : Bk L) (hk : S.findIdx? (mayNext L out) = some k) (hr : S[k]? = some r) : ∃ x, findC L r = some x ∧ x ∈ L ∧ x.rf = r ∧ AllG L (S.eraseIdx k) (out ++ [x]) := by
  obtain ⟨hkl, hpk, hlt⟩ := List.findIdx?_eq_some_iff_getElem.1 hk
  have er : S[k] = r := by have := List.getElem?_eq_some_iff.1 hr; exact this.2
  rw [er] at hpk
  have hrL := (h.mem r).1 (List.mem_of_getElem? hr)
  cases hf : findC L r with
  | none => exact absurd hrL.1 (findC_none.1 hf)
  | some x =>
    obtain ⟨hx, hxr⟩ := findC_some hf
    have hall : (x.deps.all fun d => decide (d ∈ refsOf out)) = true := by unfold mayNext at hpk; rw [hf] at hpk; exact hpk
    have hnx : nextP L out x = true := by
      unfold nextP
      rw [hall, hxr, decide_eq_false hrL.2]; rfl
    obtain ⟨i, hi, ei⟩ := List.getElem_of_mem hx
    have hxi : L[i]? = some x := List.getElem?_eq_some_iff.2 ⟨hi, ei⟩
    have hl : leastAt (nextP L out) L = some (i, x.rf) := by
      refine leastAt_is hb.nodup hxi hnx fun d hd hpd => ?_
      unfold nextP at hpd
      rw [Bool.and_eq_true] at hpd
      have hdo : d.rf ∉ refsOf out := by simpa using hpd.1
      obtain ⟨j, hj, ej⟩ := List.getElem_of_mem ((h.mem d.rf).2 ⟨mem_refs hd, hdo⟩)
      have hdj : S[j]? = some d.rf := List.getElem?_eq_some_iff.2 ⟨hj, ej⟩
      rw [hxr]
      rcases Nat.lt_trichotomy j k with hlt' | rfl | hgt
      · have := hlt j hlt'
        rw [ej] at this
        unfold mayNext at this
        rw [findC_is hb.nodup hd] at this
        simp only [Bool.not_eq_true] at this
        rw [this] at hpd
        cases hpd.2
      · rw [hdj] at hr
        cases hr
        exact aheadR_irrefl _
      · have := h.asc k j r d.rf hgt hr hdj
        unfold aheadR
        rw [decide_eq_false_iff_not]; exact this
    have hln : S.length = (S.eraseIdx k).length + 1 := by rw [List.length_eraseIdx_of_lt hkl]; omega
    refine ⟨x, rfl, hx, hxr, ⟨by rw [h.fin, hln]; exact allGo_step hl hxi, by have := h.len; simp only [List.length_append, List.length_cons, List.length_nil]; omega, fun q => ?_, h.asc.erase k, h.nd.sublist (List.eraseIdx_sublist _ _)⟩⟩
    have hp := pick_perm S k r hr
    have hnd : (r :: S.eraseIdx k).Nodup := hp.nodup_iff.1 h.nd
    have h1 : q ∈ S ↔ q = r ∨ q ∈ S.eraseIdx k := by rw [hp.mem_iff, List.mem_cons]
    have h2 : q ∈ refsOf (out ++ [x]) ↔ q ∈ refsOf out ∨ q = r := by
      rw [refsOf_append, List.mem_append]; simp [refsOf, hxr]
    rw [h2]
    constructor
    · intro hq
      have := (h.mem q).1 (h1.2 (.inr hq))
      refine ⟨this.1, ?_⟩
      rintro (h' | rfl)
      · exact this.2 h'
      · exact (List.nodup_cons.1 hnd).1 hq
    · rintro ⟨hq, hn⟩
      rcases h1.1 ((h.mem q).2 ⟨hq, fun h' => hn (.inl h')⟩) with rfl | h'
      · exact absurd (.inr rfl) hn
      · exact h'
theorem AllG.more (h : AllG L S out) (hb : Bk L) (hs : 0 < S.length) : ∃ k, S.findIdx? (mayNext L out) = some k ∧ k < S.length := by
  cases hk : S.findIdx? (mayNext L out) with
  | some k => exact ⟨k, rfl, (List.findIdx?_eq_some_iff_getElem.1 hk).1⟩
  | none =>
    obtain ⟨c, hc, hp⟩ := next_ex hb (out := out) (by have := h.len; omega)
    unfold nextP at hp
    rw [Bool.and_eq_true] at hp
    have hm := (h.mem c.rf).2 ⟨mem_refs hc, by simpa using hp.1⟩
    have := List.findIdx?_eq_none_iff.1 hk c.rf hm
    unfold mayNext at this
    rw [findC_is hb.nodup hc] at this
    simp only at this
    rw [this] at hp
    cases hp.2
theorem AllG.done (h : AllG L S out) (hs : S.length = 0) : allP L = out := by
  rw [h.fin, hs]; rfl
end
/-! ### lists of refs, ascending -/
theorem aheadR_asc {l : List Rf} (h : AscR l) : AscW l ∧ l.Nodup := by
  unfold AscR at h
  constructor
  · intro i j x y hij hx hy hh
    obtain ⟨h1, e1⟩ := List.getElem?_eq_some_iff.1 hx
    obtain ⟨h2, e2⟩ := List.getElem?_eq_some_iff.1 hy
    have := List.pairwise_iff_getElem.1 h i j h1 h2 hij
    rw [e1, e2] at this
    unfold aheadR at this
    simp only [decide_eq_true_eq] at this
    omega
  · exact h.imp fun {a b} hab e => by subst e; rw [aheadR_irrefl] at hab; cases hab
theorem asc_eq : ∀ {a b : List Rf}, AscW a → a.Nodup → AscW b → b.Nodup → (∀ r, r ∈ a ↔ r ∈ b) → a = b
  | [], [], _, _, _, _, _ => rfl
  | [], y :: b, _, _, _, _, h => absurd ((h y).2 (List.mem_cons_self ..)) (by simp)
  | x :: a, [], _, _, _, _, h => absurd ((h x).1 (List.mem_cons_self ..)) (by simp)
  | x :: a, y :: b, ha, na, hb, nb, h => by
    have tail : ∀ {z : Rf} {l : List Rf}, AscW (z :: l) → AscW l := fun hl i j x y hij hx hy => hl (i + 1) (j + 1) x y (by omega) (by simpa using hx) (by simpa using hy)
    have least : ∀ {z : Rf} {l : List Rf}, AscW (z :: l) → ∀ u ∈ l, ¬ (u.1 < z.1 ∨ u.1 = z.1 ∧ u.2 < z.2) := fun {z l} hl u hu => by
      obtain ⟨j, hj, e⟩ := List.getElem_of_mem hu
      exact hl 0 (j + 1) z u (by omega) rfl (by simpa using List.getElem?_eq_some_iff.2 ⟨hj, e⟩)
    have hxy : x = y := by
      have h1 := (h x).1 (List.mem_cons_self ..)
      have h2 := (h y).2 (List.mem_cons_self ..)
      rcases List.mem_cons.1 h1 with e | h1
      · exact e
      rcases List.mem_cons.1 h2 with e | h2
      · exact e.symm
      have q1 := least hb x h1
      have q2 := least ha y h2
      exact Prod.ext (by omega) (by omega)
    subst hxy
    congr 1
    refine asc_eq (tail ha) (List.nodup_cons.1 na).2 (tail hb) (List.nodup_cons.1 nb).2 fun r => ?_
    have hr := h r
    rw [List.mem_cons, List.mem_cons] at hr
    constructor
    · intro h'
      rcases hr.1 (.inr h') with rfl | h''
      · exact absurd h' (List.nodup_cons.1 na).1
      · exact h''
    · intro h'
      rcases hr.2 (.inr h') with rfl | h''
      · exact absurd h' (List.nodup_cons.1 nb).1
      · exact h''
end Go.Proofs.YtclgfcjcpbiadaaGreatDoor

namespace Go.Proofs.YtclgfcjcpbiadaaGreatDoor
open Go.RowKit

theorem ins_asc {r : Rf} : ∀ {l : List Rf}, AscR l → r ∉ l → AscR (l.takeWhile (fun x => aheadR x r) ++ r :: l.dropWhile (fun x => aheadR x r))
  | [], _, _ => by simp [AscR]
  | x :: l, h, hn => by
    obtain ⟨h1, h2⟩ := List.pairwise_cons.1 h
    have hxr : x ≠ r := fun e => hn (by rw [e]; exact List.mem_cons_self ..)
    cases hx : aheadR x r with
    | true =>
      rw [List.takeWhile_cons_of_pos (by simpa using hx), List.dropWhile_cons_of_pos (by simpa using hx), List.cons_append]
      refine List.pairwise_cons.2 ⟨fun y hy => ?_, ins_asc h2 (fun e => hn (List.mem_cons_of_mem _ e))⟩
      rcases List.mem_append.1 hy with hy | hy
      · exact h1 y ((List.takeWhile_sublist _).subset hy)
      · rcases List.mem_cons.1 hy with rfl | hy
        · exact hx
        · exact h1 y ((List.dropWhile_sublist _).subset hy)
    | false =>
      rw [List.takeWhile_cons_of_neg (by simp [hx]), List.dropWhile_cons_of_neg (by simp [hx]), List.nil_append]
      have hrx : aheadR r x = true := by
        rcases aheadR_total hxr with h' | h'
        · rw [hx] at h'; cases h'
        · exact h'
      refine List.pairwise_cons.2 ⟨fun y hy => ?_, h⟩
      rcases List.mem_cons.1 hy with rfl | hy
      · exact hrx
      · exact aheadR_trans hrx (h1 y hy)
theorem putQ_asc {l : List Rf} {r : Rf} (h : AscR l) : AscR (putR l r) := by
  unfold putR
  by_cases hm : r ∈ l
  · rw [if_pos hm]; exact h
  · rw [if_neg hm]; exact ins_asc h hm
theorem putQ_mem {l : List Rf} {r q : Rf} : q ∈ putR l r ↔ q = r ∨ q ∈ l := by
  unfold putR
  by_cases hm : r ∈ l
  · rw [if_pos hm]
    exact ⟨.inr, fun h => h.elim (fun e => by rw [e]; exact hm) id⟩
  · rw [if_neg hm]
    have e : q ∈ l ↔ q ∈ l.takeWhile (fun x => aheadR x r) ∨ q ∈ l.dropWhile (fun x => aheadR x r) := by
      rw [← List.mem_append, List.takeWhile_append_dropWhile]
    rw [List.mem_append, List.mem_cons, e]
    constructor
    · rintro (h | h | h)
      · exact .inr (.inl h)
      · exact .inl h
      · exact .inr (.inr h)
    · rintro (h | h | h)
      · exact .inr (.inl h)
      · exact .inl h
      · exact .inr (.inr h)
theorem refsGo_asc : ∀ (L : List ChD) (out : List Rf), AscR out → AscR (L.foldl (fun out c => putR out c.rf) out) ∧ ∀ q, q ∈ L.foldl (fun out c => putR out c.rf) out ↔ q ∈ out ∨ q ∈ refsOf L
  | [], out, h => ⟨h, fun q => by simp [refsOf]⟩
  | c :: L, out, h => by
    obtain ⟨h1, h2⟩ := refsGo_asc L (putR out c.rf) (putQ_asc h)
    refine ⟨h1, fun q => ?_⟩
    rw [List.foldl_cons, h2 q, putQ_mem]
    simp only [refsOf, List.map_cons, List.mem_cons]
    constructor
    · rintro ((h | h) | h)
      · exact .inr (.inl h)
      · exact .inl h
      · exact .inr (.inr h)
    · rintro (h | h | h)
      · exact .inl (.inr h)
      · exact .inl (.inl h)
      · exact .inr h
theorem refsP_asc (L : List ChD) : AscR (refsP L) := (refsGo_asc L [] List.Pairwise.nil).1
theorem refsP_mem (L : List ChD) (q : Rf) : q ∈ refsP L ↔ q ∈ refsOf L := by
  have := (refsGo_asc L [] List.Pairwise.nil).2 q
  simpa [refsP] using this
theorem waits_eq {W : List ChD} {S : List Rf} (hn : (refsOf W).Nodup) (hp : S.Perm (refsOf W)) (ha : AscW S) : S = refsP W := by
  obtain ⟨h1, h2⟩ := aheadR_asc (refsP_asc W)
  exact asc_eq ha (hp.nodup_iff.2 hn) h1 h2 fun r => by rw [hp.mem_iff, refsP_mem]
theorem headsGo_asc (L0 : List ChD) : ∀ (L : List ChD) (out : List Rf), AscR out →
    AscR (L.foldl (fun out c => if onP L0 c.rf then out else putR out c.rf) out) ∧ ∀ q, q ∈ L.foldl (fun out c => if onP L0 c.rf then out else putR out c.rf) out ↔ q ∈ out ∨ q ∈ refsOf L ∧ onP L0 q = false
  | [], out, h => ⟨h, fun q => by simp [refsOf]⟩
  | c :: L, out, h => by
    cases ho : onP L0 c.rf with
    | true =>
      obtain ⟨h1, h2⟩ := headsGo_asc L0 L out h
      refine ⟨by rw [List.foldl_cons, ho]; exact h1, fun q => ?_⟩
      rw [List.foldl_cons, ho]
      simp only [if_true]
      rw [h2 q]
      simp only [refsOf, List.map_cons, List.mem_cons]
      constructor
      · rintro (h | ⟨h, h'⟩)
        · exact .inl h
        · exact .inr ⟨.inr h, h'⟩
      · rintro (h | ⟨h | h, h'⟩)
        · exact .inl h
        · rw [h, ho] at h'; cases h'
        · exact .inr ⟨h, h'⟩
    | false =>
      obtain ⟨h1, h2⟩ := headsGo_asc L0 L (putR out c.rf) (putQ_asc h)
      refine ⟨by rw [List.foldl_cons, ho]; exact h1, fun q => ?_⟩
      rw [List.foldl_cons, ho]
      simp only [Bool.false_eq_true, if_false]
      rw [h2 q, putQ_mem]
      simp only [refsOf, List.map_cons, List.mem_cons]
      constructor
      · rintro ((h | h) | ⟨h, h'⟩)
        · exact .inr ⟨.inl h, by rw [h]; exact ho⟩
        · exact .inl h
        · exact .inr ⟨.inr h, h'⟩
      · rintro (h | ⟨h | h, h'⟩)
        · exact .inl (.inr h)
        · exact .inl (.inl h)
        · exact .inr ⟨h, h'⟩
theorem headsP_asc (L : List ChD) : AscR (headsP L) := (headsGo_asc L L [] List.Pairwise.nil).1
theorem headsP_mem (L : List ChD) (q : Rf) : q ∈ headsP L ↔ q ∈ refsOf L ∧ onP L q = false := by
  have := (headsGo_asc L L [] List.Pairwise.nil).2 q
  simpa [headsP] using this
theorem AscW.filter {S : List Rf} (h : AscW S) (hn : S.Nodup) (p : Rf → Bool) : AscW (S.filter p) := by
  have hpw : S.Pairwise (fun x y => ¬ (y.1 < x.1 ∨ y.1 = x.1 ∧ y.2 < x.2)) := by
    rw [List.pairwise_iff_getElem]
    intro i j hi hj hij
    exact h i j _ _ hij (List.getElem?_eq_some_iff.2 ⟨hi, rfl⟩) (List.getElem?_eq_some_iff.2 ⟨hj, rfl⟩)
  have := hpw.sublist (List.filter_sublist (l := S) (p := p))
  intro i j x y hij hx hy
  obtain ⟨h1, e1⟩ := List.getElem?_eq_some_iff.1 hx
  obtain ⟨h2, e2⟩ := List.getElem?_eq_some_iff.1 hy
  have := List.pairwise_iff_getElem.1 this i j h1 h2 hij
  rw [e1, e2] at this
  exact this
theorem heads_eq {L : List ChD} {S : List Rf} (hn : (refsOf L).Nodup) (hp : S.Perm (refsOf L)) (ha : AscW S) : S.filter (fun r => !onP L r) = headsP L := by
  obtain ⟨h1, h2⟩ := aheadR_asc (headsP_asc L)
  have hs := hp.nodup_iff.2 hn
  refine asc_eq (ha.filter hs _) (hs.sublist List.filter_sublist) h1 h2 fun r => ?_
  rw [List.mem_filter, headsP_mem, hp.mem_iff]
  simp
end Go.Proofs.YtclgfcjcpbiadaaGreatDoor

namespace Go.Proofs.YtclgfcjcpbiadaaGreatDoor
open Go.ChangeShapes Go.WideShapes Go.ChangeAt Go.RowKit

set_option maxHeartbeats 2000000 in
set_option maxRecDepth 20000 in
theorem sameRefs_any (a b : List Rf) (D D' : Nat → Prop) (A B : Option Addr) (ca cb : Nat) (w : World) (ha : Reads D w 2 A a.length (refC a)) (hb : Reads D' w 2 B b.length (refC b)) (hla : a.length ≤ 9223372036854775807) :
    Calls Tryz.prog 17 #[.slice A a.length ca, .slice B b.length cb] w fun e w' => e = .returned (.bool (decide (a = b))) ∧ ∃ n, w' = w.drewN n := by
  by_cases hl : a.length = b.length
  case neg =>
    have hne : decide (a = b) = false := decide_eq_false fun e => hl (by rw [e])
    rw [hne]
    have hl' : (a.length : Int) ≠ b.length := by omega
    clear ha hb hne hla
    generalize a.length = na at *
    generalize b.length = nb at *
    go_enter Tryz.func17, Tryz.ntmps17
    go_wp2_with fail
    go_ret
    exact ⟨rfl, 0, rfl⟩
  case pos =>
    have HA := Lib.hid ha
    have HB := Lib.hid hb
    obtain ⟨n, hn⟩ : ∃ n, a.length = n := ⟨_, rfl⟩
    have HN := Lib.hid hn
    have HN' : Hid (b.length = n) := hl.symm.trans hn
    rw [← hl, hn] 
    rw [hn] at hla
    clear ha hb hl hn
    go_enter Tryz.func17, Tryz.ntmps17
    go_wp2_with fail
    go_loopw [5] (fun s5 wr => ∃ k : Nat, s5 = .int .i64 k ∧ k ≤ n ∧ Hid (a.take k = b.take k ∧ ∃ m, wr = w.drewN m)) (fun s5 _ => n - (intOf s5).toNat)
    case atStart => exact ⟨0, rfl, by omega, ⟨by simp, 0, rfl⟩⟩
    case round =>
      obtain ⟨k, rfl, hk, HI⟩ := hrel
      obtain ⟨m, hm⟩ := HI.out.2
      have HM := Lib.hid hm
      by_cases hlt : k < n
      · obtain ⟨b1, o1, rfl, -, hc1⟩ := HA.out.at_ (by rw [HN.out]; omega) (by omega)
        obtain ⟨b2, o2, rfl, -, hc2⟩ := HB.out.at_ (by rw [HN'.out]; omega) (by omega)
        obtain ⟨r, hr⟩ : ∃ r, a[k]? = some r := ⟨_, List.getElem?_eq_getElem (by rw [HN.out]; exact hlt)⟩
        obtain ⟨q, hq⟩ : ∃ q, b[k]? = some q := ⟨_, List.getElem?_eq_getElem (by rw [HN'.out]; exact hlt)⟩
        have x1 : wr.cell? ⟨b1, o1 + k * 2, none⟩ = some (.int .i64 r.1) := by rw [hm]; exact hc1 _ _ (refC_at hr).1
        have x2 : wr.cell? ⟨b1, o1 + k * 2 + 1, none⟩ = some (.int .i64 r.2) := by rw [hm]; exact hc1 _ _ (refC_at hr).2
        have x3 : wr.cell? ⟨b2, o2 + k * 2, none⟩ = some (.int .i64 q.1) := by rw [hm]; exact hc2 _ _ (refC_at hq).1
        have x4 : wr.cell? ⟨b2, o2 + k * 2 + 1, none⟩ = some (.int .i64 q.2) := by rw [hm]; exact hc2 _ _ (refC_at hq).2
        have HX : Hid (a.take (k + 1) = a.take k ++ [r] ∧ b.take (k + 1) = b.take k ++ [q]) := by
          refine ⟨?_, ?_⟩
          · rw [List.take_add_one, hr]; rfl
          · rw [List.take_add_one, hq]; rfl
        have HRQ := Lib.hid (And.intro hr hq)
        clear hr hq hc1 hc2 hm
        obtain ⟨ra, rs⟩ := r
        obtain ⟨qa, qs⟩ := q
        dsimp only at x1 x2 x3 x4
        by_cases h1 : ra = qa
        · subst h1
          by_cases h2 : rs = qs
          · subst h2
            go_wp2_with fail
            go_quiet (fail)
            change Exit.then _ _ _ _ (wr.drewN nq)
            have HQ : Hid (wr.drewN nq = w.drewN (m + nq)) := by show _ = _; rw [HM.out, World.drewN_drewN]
            generalize wr.drewN nq = w3 at HQ ⊢
            clear x1 x2 x3 x4
            go_wp2_with fail
            go_roundw
            case rel => exact ⟨k + 1, by go_num, by omega, ⟨by rw [HX.out.1, HX.out.2, HI.out.1], _, HQ.out⟩⟩
            case measure => simp [intOf]; omega
          · have HD : Hid (decide (a = b) = false) := decide_eq_false fun e => by
              have := HRQ.out
              rw [e, this.2] at this
              simp only [Option.some.injEq, Prod.mk.injEq] at this
              exact h2 this.1.2.symm
            have d1 : decide (rs = qs) = false := decide_eq_false h2
            go_wp2_with fail
            go_quiet (fail)
            change Exit.then _ _ _ _ (wr.drewN nq)
            have HQ : Hid (wr.drewN nq = w.drewN (m + nq)) := by show _ = _; rw [HM.out, World.drewN_drewN]
            generalize wr.drewN nq = w3 at HQ ⊢
            clear x1 x2 x3 x4
            go_wp2_with fail
            go_ret
            exact ⟨by rw [HD.out]; rfl, _, HQ.out⟩
        · have HD : Hid (decide (a = b) = false) := decide_eq_false fun e => by
            have := HRQ.out
            rw [e, this.2] at this
            simp only [Option.some.injEq, Prod.mk.injEq] at this
            exact h1 this.1.1.symm
          have d1 : decide (ra = qa) = false := decide_eq_false h1
          go_wp2_with fail
          go_quiet (fail)
          change Exit.then _ _ _ _ (wr.drewN nq)
          have HQ : Hid (wr.drewN nq = w.drewN (m + nq)) := by show _ = _; rw [HM.out, World.drewN_drewN]
          generalize wr.drewN nq = w3 at HQ ⊢
          clear x1 x2 x3 x4
          go_wp2_with fail
          go_ret
          exact ⟨by rw [HD.out]; rfl, _, HQ.out⟩
      · have hkn : k = n := by omega
        have hd : decide (a = b) = true := by
          have h1 := HI.out.1
          rw [List.take_of_length_le (by rw [HN.out]; omega), List.take_of_length_le (by rw [HN'.out]; omega)] at h1
          exact decide_eq_true h1
        have HD := Lib.hid hd
        clear hd hm
        go_wp2_with fail
        go_ret
        exact ⟨by rw [HD.out]; rfl, m, HM.out⟩
/-- two rows of changes that differ in where they lie alone -/
theorem chs_base_at {La Lb : List ChD} (he : La.map ChD.base = Lb.map ChD.base) {k : Nat} {x : ChD} (hx : La[k]? = some x) : ∃ y, Lb[k]? = some y ∧ x.base = y.base := by
  have h1 : (La.map ChD.base)[k]? = some x.base := by rw [List.getElem?_map, hx]; rfl
  rw [he, List.getElem?_map] at h1
  cases hy : Lb[k]? with
  | none => rw [hy] at h1; cases h1
  | some y => rw [hy] at h1; exact ⟨y, rfl, (Option.some.inj h1).symm⟩
theorem base_parts {x y : ChD} (h : x.base = y.base) : x.a = y.a ∧ x.s = y.s ∧ x.st = y.st ∧ x.enc = y.enc ∧ x.err = y.err := by
  have e1 : x.base.a = y.base.a := by rw [h]
  have e2 : x.base.s = y.base.s := by rw [h]
  have e3 : x.base.st = y.base.st := by rw [h]
  exact ⟨e1, e2, e3, by rw [← base_enc x, ← base_enc y, h], by rw [← base_err x, ← base_err y, h]⟩
theorem same_ch (x y : ChD) (w : World) (hx : ChIn (fun k => k < w.heap.size) w x) (hy : ChIn (fun k => k < w.heap.size) w y) (gx : EncG x.a x.s x.st x.deps x.ops) (gy : EncG y.a y.s y.st y.deps y.ops) (h : x.base = y.base) :
    Calls Tryz.prog 14 #[x.v, y.v] w fun e w' => e = .returned (.bool true) ∧ Below w.heap.size w w' := by
  obtain ⟨e1, e2, e3, e4, _⟩ := base_parts h
  unfold ChD.v
  unfold ChD.enc at e4
  rw [← e1, ← e2, ← e3] at gy e4 ⊢
  exact same_change x.a x.s x.st x.deps x.DA x.deps.length x.DC x.ops x.OA x.ops.length x.OC y.deps y.DA y.deps.length y.DC y.ops y.OA y.ops.length y.OC w (hx.chm fun _ h => h) (hy.chm fun _ h => h) rfl rfl rfl rfl gx gy e4
set_option maxHeartbeats 4000000 in
set_option maxRecDepth 20000 in
theorem sameChs_any (La Lb : List ChD) (A B : Option Addr) (ca cb : Nat) (w : World) (ha : ChsIn (fun k => k < w.heap.size) w A La) (hb : ChsIn (fun k => k < w.heap.size) w B Lb) (he : La.map ChD.base = Lb.map ChD.base)
    (ga : ∀ c ∈ La, EncG c.a c.s c.st c.deps c.ops) (gb : ∀ c ∈ Lb, EncG c.a c.s c.st c.deps c.ops) (hl : La.length ≤ 1000000) :
    Calls Tryz.prog 23 #[.slice A La.length ca, .slice B Lb.length cb] w fun e w' => e = .returned (.bool true) ∧ Below w.heap.size w w' := by
  have hlen : Lb.length = La.length := by have := congrArg List.length he; simpa using this.symm
  obtain ⟨n, hn⟩ : ∃ n, La.length = n := ⟨_, rfl⟩
  have HN := Lib.hid hn
  have HN' : Hid (Lb.length = n) := hlen.trans hn
  have HA := Lib.hid ha
  have HB := Lib.hid hb
  have HE := Lib.hid he
  have HGA := Lib.hid ga
  have HGB := Lib.hid gb
  rw [hlen, hn]
  rw [hn] at hl
  clear ha hb he ga gb hlen hn
  go_enter Tryz.func23, Tryz.ntmps23
  go_wp2_with fail
  go_loopw [5, 6] (fun s5 _ wr => ∃ k : Nat, s5 = .int .i64 k ∧ k ≤ n ∧ Hid (Below w.heap.size w wr)) (fun s5 _ _ => n - (intOf s5).toNat)
  case atStart => exact ⟨0, rfl, by omega, Below.refl _ w⟩
  case round =>
    obtain ⟨k, rfl, hk, HW⟩ := hrel
    by_cases hlt : k < n
    · obtain ⟨x, hx⟩ : ∃ x, La[k]? = some x := ⟨_, List.getElem?_eq_getElem (by rw [HN.out]; exact hlt)⟩
      obtain ⟨y, hy, hxy⟩ := chs_base_at HE.out hx
      obtain ⟨b1, o1, hA1, hl1, hc1⟩ := (reads_below HA.out.row HW.out).at_ (by rw [HN.out]; omega) (by omega)
      obtain ⟨b2, o2, hA2, hl2, hc2⟩ := (reads_below HB.out.row HW.out).at_ (by rw [HN'.out]; omega) (by omega)
      subst hA1 hA2
      have x10 : wr.cell? ⟨b1, o1 + k * 5, none⟩ = some (.int .i64 x.a) := hc1 _ _ (chsC_at hx 0 (by omega))
      have x11 : wr.cell? ⟨b1, o1 + k * 5 + 1, none⟩ = some (.int .i64 x.s) := hc1 _ _ (chsC_at hx 1 (by omega))
      have x12 : wr.cell? ⟨b1, o1 + k * 5 + 2, none⟩ = some (.int .i64 x.st) := hc1 _ _ (chsC_at hx 2 (by omega))
      have x13 : wr.cell? ⟨b1, o1 + k * 5 + 3, none⟩ = some (.slice x.DA x.deps.length x.DC) := hc1 _ _ (chsC_at hx 3 (by omega))
      have x14 : wr.cell? ⟨b1, o1 + k * 5 + 4, none⟩ = some (.slice x.OA x.ops.length x.OC) := hc1 _ _ (chsC_at hx 4 (by omega))
      have y10 : wr.cell? ⟨b2, o2 + k * 5, none⟩ = some (.int .i64 y.a) := hc2 _ _ (chsC_at hy 0 (by omega))
      have y11 : wr.cell? ⟨b2, o2 + k * 5 + 1, none⟩ = some (.int .i64 y.s) := hc2 _ _ (chsC_at hy 1 (by omega))
      have y12 : wr.cell? ⟨b2, o2 + k * 5 + 2, none⟩ = some (.int .i64 y.st) := hc2 _ _ (chsC_at hy 2 (by omega))
      have y13 : wr.cell? ⟨b2, o2 + k * 5 + 3, none⟩ = some (.slice y.DA y.deps.length y.DC) := hc2 _ _ (chsC_at hy 3 (by omega))
      have y14 : wr.cell? ⟨b2, o2 + k * 5 + 4, none⟩ = some (.slice y.OA y.ops.length y.OC) := hc2 _ _ (chsC_at hy 4 (by omega))
      have HX := List.mem_of_getElem? hx
      have HY := List.mem_of_getElem? hy
      have C := same_ch x y wr.drew ((HA.out.below HW.out.drew).each x HX) ((HB.out.below HW.out.drew).each y HY) (HGA.out x HX) (HGB.out y HY) hxy
      unfold ChD.v at C
      clear hc1 hc2 hx hy HX HY hxy
      go_wp2_with fail
      refine wp_region_still_tail 8 (by kernel_rfl) (by kernel_rfl) ?_
      simp only [List.take_succ_cons, List.take_zero, List.drop_succ_cons, List.drop_zero]
      repeat (first | (refine wpStill_want rfl (fun K hK => ?_); go_simp; refine hK _ ?_; clear hK K) | (refine wpStill_skip rfl ?_; go_frame))
      refine wpStill_nil ?_
      change wpList _ _ _ _ _ wr.drew
      go_wp2_with fail
      go_at_call 14
      refine C.mono ?_
      rintro e w2 ⟨rfl, hb⟩
      have HW2 : Hid (Below w.heap.size w w2) := HW.out.drew.trans (hb.mono HW.out.size)
      clear x10 x11 x12 x13 x14 y10 y11 y12 y13 y14 C hb
      go_wp2_with fail
      go_roundw
      case rel => exact ⟨k + 1, by go_num, by omega, HW2⟩
      case measure => simp [intOf]; omega
    · go_wp2_with fail
      go_ret
      exact ⟨rfl, HW.out⟩
end Go.Proofs.YtclgfcjcpbiadaaGreatDoor
