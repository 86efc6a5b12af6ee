/- Contracts: of each actor the first ref alone is kept. -/
import Derived.Test.YtfaihilehdjfjaaDoorClock5
import Derived.Lib.SliceRun
namespace Go.Proofs.YtfaihilehdjfjaaDoor
open Go.ChangeShapes Go.WideShapes Go.ChangeAt Go.RowKit

/-- of each run of one actor the first one -/
def keepF : Int → List Rf → List Rf
  | _, [] => []
  | p, q :: l => if p = q.1 then keepF q.1 l else q :: keepF q.1 l
def compactF : List Rf → List Rf
  | [] => []
  | r :: l => r :: keepF r.1 l
theorem keepF_snoc : ∀ (l : List Rf) (p : Int) (q r : Rf), keepF p (l ++ [q, r]) = keepF p (l ++ [q]) ++ (if q.1 = r.1 then [] else [r])
  | [], p, q, r => by
    simp only [List.nil_append, keepF]
    by_cases h1 : p = q.1 <;> by_cases h2 : q.1 = r.1 <;> simp [h1, h2]
  | x :: l, p, q, r => by
    have ih := keepF_snoc l x.1 q r
    simp only [List.cons_append, keepF]
    split <;> simp [ih]
theorem compactF_snoc (l : List Rf) (q r : Rf) : compactF (l ++ [q, r]) = compactF (l ++ [q]) ++ (if q.1 = r.1 then [] else [r]) := by
  cases l with
  | nil => simp only [List.nil_append, compactF, keepF]; split <;> simp
  | cons x l => simp only [List.cons_append, compactF]; rw [keepF_snoc]
theorem keepF_length : ∀ (l : List Rf) (p : Int), (keepF p l).length ≤ l.length
  | [], _ => Nat.le_refl _
  | q :: l, p => by have := keepF_length l q.1; simp only [keepF]; split <;> simp only [List.length_cons] <;> omega
theorem compactF_length (l : List Rf) : (compactF l).length ≤ l.length := by
  cases l with
  | nil => exact Nat.le_refl _
  | cons x l => have := keepF_length l x.1; simp only [compactF, List.length_cons]; omega
/-- one more -/
theorem compactF_step {l : List Rf} {k : Nat} {q r : Rf} (hk : 1 ≤ k) (hq : l[k - 1]? = some q) (hr : l[k]? = some r) : compactF (l.take (k + 1)) = compactF (l.take k) ++ (if q.1 = r.1 then [] else [r]) := by
  have e1 : l.take (k + 1) = l.take k ++ [r] := by rw [List.take_add_one, hr]; rfl
  have e2 : l.take k = l.take (k - 1) ++ [q] := by
    have : l.take (k - 1 + 1) = l.take (k - 1) ++ [q] := by rw [List.take_add_one, hq]; rfl
    rwa [show k - 1 + 1 = k from by omega] at this
  rw [e1, e2, List.append_assoc]
  exact compactF_snoc _ q r

theorem RefRow.cell1 {w : World} {g : Nat} {l : List Rf} (h : RefRow w g l) {k : Nat} {r : Rf} (hr : l[k]? = some r) : w.cell? ⟨g, k * 2, none⟩ = some (.int .i64 r.1) := (h _ _ (refC_at hr).1).1
theorem RefRow.cell2 {w : World} {g : Nat} {l : List Rf} (h : RefRow w g l) {k : Nat} {r : Rf} (hr : l[k]? = some r) : w.cell? ⟨g, k * 2 + 1, none⟩ = some (.int .i64 r.2) := (h _ _ (refC_at hr).2).1
theorem refC_cons (r : Rf) (l : List Rf) : refC (r :: l) = [.int .i64 r.1, .int .i64 r.2] ++ refC l := by simp [refC]
theorem RefRow.set {w : World} {g : Nat} {l : List Rf} (h : RefRow w g l) (k : Nat) (r : Rf) (hk : k < l.length) : RefRow ((w.setCell ⟨g, k * 2, none⟩ (.int .i64 r.1)).setCell ⟨g, k * 2 + 1, none⟩ (.int .i64 r.2)) g (l.set k r) := by
  have ew : (w.setCell ⟨g, k * 2, none⟩ (.int .i64 r.1)).setCell ⟨g, k * 2 + 1, none⟩ (.int .i64 r.2) = w.setCells g (k * 2) [.int .i64 r.1, .int .i64 r.2] := rfl
  rw [ew]
  intro j u hu
  have e1 : l.set k r = l.take k ++ r :: l.drop (k + 1) := by rw [List.set_eq_take_append_cons_drop, if_pos hk]
  have e2 : l = l.take k ++ l[k] :: l.drop (k + 1) := by rw [← List.drop_eq_getElem_cons hk, List.take_append_drop]
  have hlt : (refC (l.take k)).length = k * 2 := by rw [refC_length, List.length_take]; omega
  have H : ∀ j u, (refC l)[j]? = some u → w.cell? ⟨g, j, none⟩ = some u ∧ w.frozen? ⟨g, j, none⟩ = false := h
  rw [e2, refC_append, refC_cons] at H
  rw [e1, refC_append, refC_cons] at hu
  have hz : ∀ i, i < 2 → (w.cell? ⟨g, k * 2 + i, none⟩).isSome = true ∧ w.frozen? ⟨g, k * 2 + i, none⟩ = false := by
    intro i hi
    have := H (k * 2 + i) (if i = 0 then .int .i64 l[k].1 else .int .i64 l[k].2) (by
      rw [List.getElem?_append_right (by omega), hlt, show k * 2 + i - k * 2 = i from by omega]
      match i, hi with
      | 0, _ => rfl
      | 1, _ => rfl)
    exact ⟨by rw [this.1]; rfl, this.2⟩
  rcases Nat.lt_or_ge j (k * 2) with hj | hj
  · rw [List.getElem?_append_left (by omega)] at hu
    have := H j u (by rw [List.getElem?_append_left (by omega)]; exact hu)
    rw [World.frozen?_setCells, World.cell?_setCells_out g _ _ _ _ (fun _ _ => .inl hj)]
    exact this
  · rw [List.getElem?_append_right (by omega), hlt] at hu
    rcases Nat.lt_or_ge j (k * 2 + 2) with hj2 | hj2
    · obtain ⟨i, hi, rfl⟩ : ∃ i, i < 2 ∧ j = k * 2 + i := ⟨j - k * 2, by omega, by omega⟩
      rw [show k * 2 + i - k * 2 = i from by omega, List.getElem?_append_left (by simpa using hi)] at hu
      rw [World.frozen?_setCells, World.cell?_setCells_in g [.int .i64 r.1, .int .i64 r.2] (k * 2) w (fun j hj => (hz j (by simpa using hj)).1) i (by simpa using hi)]
      refine ⟨?_, (hz i hi).2⟩
      rw [List.getElem?_eq_getElem (by simpa using hi)] at hu
      exact hu
    · rw [List.getElem?_append_right (by simp; omega)] at hu
      have := H j u (by rw [List.getElem?_append_right (by omega), hlt, List.getElem?_append_right (by simp; omega)]; exact hu)
      rw [World.frozen?_setCells, World.cell?_setCells_out g _ _ _ _ (fun _ _ => .inr (by simpa using hj2))]
      exact this
theorem RefRow.cleared {w : World} {g : Nat} {l : List Rf} (h : RefRow w g l) (m : Nat) (vs : List Value) : RefRow (w.setCells g (m * 2) vs) g (l.take m) := by
  intro j u hu
  have hl : (refC (l.take m)).length ≤ m * 2 := by rw [refC_length, List.length_take]; omega
  have hj : j < (refC (l.take m)).length := (List.getElem?_eq_some_iff.1 hu).1
  have e : refC l = refC (l.take m) ++ refC (l.drop m) := by rw [← refC_append, List.take_append_drop]
  have := h j u (by rw [e, List.getElem?_append_left hj]; exact hu)
  rw [World.frozen?_setCells, World.cell?_setCells_out g _ _ _ _ (fun _ _ => .inl (show j < m * 2 by omega))]
  exact this
theorem chg_setCells {w : World} {g : Nat} : ∀ (vs : List Value) (o : Nat) {w' : World}, Chg (fun k => k = g) w w' → Chg (fun k => k = g) w (w'.setCells g o vs)
  | [], _, _, h => h
  | v :: vs, o, _, h => chg_setCells vs (o + 1) (h.setCell (p := ⟨g, o, none⟩) (.inl rfl) v)
/-- 'clear' on a row of refs -/
theorem clear_refs (w : World) (g o n c : Nat) (hn : 0 < n) (hc : ∀ i, i < n * 2 → (w.cell? ⟨g, o + i, none⟩).isSome = true) (hf : ∀ i, i < n * 2 → w.frozen? ⟨g, o + i, none⟩ = false) :
    (Builtin.clear_ #[22] 0 #[.slice (some ⟨g, o, none⟩) n c]).run Tryd.prog w = .ok (.tuple #[]) (w.setCells g o (List.replicate (n * 2) (.int .i64 0))) := by
  have hz : (zeroValue 79).run Tryd.prog w = .ok (.agg #[.int .i64 0, .int .i64 0]) w := Tryd.zeroValue79 w
  have hzc : (Builtin.zeroCells (Value.agg #[.int .i64 0, .int .i64 0]).cells n).toList = List.replicate (n * 2) (.int .i64 0) := by
    apply List.ext_getElem
    · simp [Builtin.zeroCells, Value.cells]
    · intro i h1 h2
      simp only [Builtin.zeroCells, Value.cells]
      rcases Nat.mod_two_eq_zero_or_one i with h | h <;> simp [h]
  have hst := run_storeCells_cells (P := Tryd.prog) g o (List.replicate (n * 2) (.int .i64 0)) 0 w (by simpa using hc) (by simpa using hf) (by intro v hv; rw [List.eq_of_mem_replicate hv]; rfl)
  simp only [Nat.add_zero] at hst
  obtain ⟨m, rfl⟩ : ∃ m, n = m + 1 := ⟨n - 1, by omega⟩
  simp [Builtin.clear_, run_underlying Tryd.underlying22, hz, hzc, hst]
theorem Gr.row {w w' : World} {g : Nat} {l : List Rf} (h : Gr w w') (hr : RefRow w g l) (hg : g < w.heap.size) : RefRow w' g l := hr.keep (h.below.block g hg)
theorem Gr.chg {w w' : World} (h : Gr w w') {M : Nat → Prop} : Chg M w w' := Chg.of_below h.below
set_option maxHeartbeats 4000000 in
set_option maxRecDepth 20000 in
theorem compact_any (g cap n : Nat) (l : List Rf) (w : World) (hn : Hid (l.length = n)) (h : RefRow w g l) (hg : g < w.heap.size) (hl : n ≤ 1000000) (hc : n ≤ cap) (hm : cap ≤ 9223372036854775807) :
    Calls Tryd.prog 51 #[.slice (some ⟨g, 0, none⟩) n cap, .func (.func 52) #[] #[]] w fun e w' =>
      e = .returned (.slice (some ⟨g, 0, none⟩) (compactF l).length cap) ∧ RefRow w' g (compactF l) ∧ Chg (fun k => k = g) w w' := by
  have H := Lib.hid h
  clear h
  by_cases h2 : n < 2
  · have hcl : compactF l = l := by
      match l, hn with
      | [], _ => rfl
      | [r], _ => rfl
      | a :: b :: l, hn => have := hn.out; simp at this; omega
    have HC := Lib.hid hcl
    have d1 : decide ((n : Int) < 2) = true := decide_eq_true (by omega)
    clear hcl
    go_enter Tryd.func51, Tryd.ntmps51
    go_wp2_with fail
    go_ret
    exact ⟨by rw [HC.out, hn.out]; rfl, by rw [HC.out]; exact H.out, Chg.refl _⟩
  · go_enter Tryd.func51, Tryd.ntmps51
    go_wp2_with fail
    go_loopw [5] (fun s5 wr => ∃ j : Nat, s5 = .int .i64 ((j : Int) + 1) ∧ j + 1 ≤ n ∧ Hid (RefRow wr g l ∧ Chg (fun k => k = g) w wr ∧ compactF (l.take (j + 1)) = l.take (j + 1))) (fun s5 _ => n - (intOf s5).toNat)
    case atStart =>
      refine ⟨0, by first | rfl | go_num, by omega, ⟨H.out, Chg.refl _, ?_⟩⟩
      cases l with
      | nil => rfl
      | cons x l => simp [compactF, keepF]
    case round =>
      obtain ⟨j, rfl, hj, HI⟩ := hrel
      by_cases hlt : j + 1 < n
      · obtain ⟨r, hr⟩ : ∃ r, l[j + 1]? = some r := ⟨_, List.getElem?_eq_getElem (by rw [hn.out]; exact hlt)⟩
        obtain ⟨q, hq⟩ : ∃ q, l[j]? = some q := ⟨_, List.getElem?_eq_getElem (by rw [hn.out]; omega)⟩
        have x1 : wr.cell? ⟨g, (j + 1) * 2, none⟩ = some (.int .i64 r.1) := HI.out.1.cell1 hr
        have x2 : wr.cell? ⟨g, (j + 1) * 2 + 1, none⟩ = some (.int .i64 r.2) := HI.out.1.cell2 hr
        have x3 : wr.cell? ⟨g, j * 2, none⟩ = some (.int .i64 q.1) := HI.out.1.cell1 hq
        have x4 : wr.cell? ⟨g, j * 2 + 1, none⟩ = some (.int .i64 q.2) := HI.out.1.cell2 hq
        have HRQ := Lib.hid (And.intro hr hq)
        have hw : IntKind.i64.wrap (j : Int) = (j : Int) := IntWalk.i64_in _ (by omega)
        have hi1 : (j : Int) < (n : Int) := by omega
        have hi3 : (j : Int) + 1 < (n : Int) := by omega
        have hi4 : 0 ≤ (j : Int) + 1 := by omega
        have hi2 : ((j : Int) + 1).toNat = j + 1 := by omega
        have hi5 : j < n := by omega
        clear hr hq
        go_wp2_with fail
        refine wp_region_still_tail 10 (by kernel_rfl) (by kernel_rfl) ?_
        simp only [List.take_succ_cons, List.take_zero, List.drop_succ_cons, List.drop_zero]
        repeat (refine wpStill_want rfl (fun K hK => ?_); go_simp; refine hK _ ?_; clear hK K)
        refine wpStill_nil ?_
        change wpList _ _ _ _ _ wr.drew
        have HR1 : Hid (RefRow wr.drew g l ∧ Chg (fun k => k = g) w wr.drew ∧ compactF (l.take (j + 1)) = l.take (j + 1)) := ⟨HI.out.1.keep rfl, HI.out.2.1.drew, HI.out.2.2⟩
        have hgw : g < wr.drew.heap.size := Nat.lt_of_lt_of_le hg HI.out.2.1.size
        generalize wr.drew = w1 at HR1 hgw ⊢
        clear x1 x2 x3 x4 hw
        go_wp2_with fail
        go_at_call 52
        refine (join2_any r q w1).mono ?_
        rintro e w2 ⟨rfl, hb2⟩
        have HR2 : Hid (RefRow w2 g l ∧ Chg (fun k => k = g) w w2 ∧ compactF (l.take (j + 1)) = l.take (j + 1)) := ⟨hb2.row HR1.out.1 hgw, HR1.out.2.1.trans hb2.chg (fun _ _ e => e), HR1.out.2.2⟩
        have hgw2 : g < w2.heap.size := Nat.lt_of_lt_of_le hgw hb2.below.size
        clear hb2 hgw
        have hstep := compactF_step (l := l) (k := j + 1) (by omega) HRQ.out.2 HRQ.out.1
        by_cases heq : r.1 = q.1
        · rw [if_pos heq.symm] at hstep
          have HS : Hid (compactF (l.take (j + 2)) = l.take (j + 1)) := by
            show _ = _
            rw [hstep, List.append_nil, HR2.out.2.2]
          have d1 : decide (r.1 = q.1) = true := decide_eq_true heq
          rw [d1]
          clear d1 heq hstep
          have hcap : ¬ cap = j + 1 := by omega
          go_wp2_with fail
          go_loopw [5, 7] (fun s5 s7 wr => ∃ (j2 m : Nat) (xs : List Rf), s7 = .int .i64 ((j2 : Int) + 1) ∧ s5 = .int .i64 m ∧ j + 1 + (j2 + 1) ≤ n ∧ m ≤ j + j2 + 1 ∧
            Hid (RefRow wr g xs ∧ Chg (fun k => k = g) w wr ∧ xs.length = n ∧ xs.take m = compactF (l.take (j + j2 + 2)) ∧ m = (compactF (l.take (j + j2 + 2))).length ∧ ∀ i, j + j2 + 1 ≤ i → xs[i]? = l[i]?)) (fun _ s7 _ => n - (intOf s7).toNat)
          case atStart =>
            refine ⟨0, j + 1, l, by first | rfl | go_num, by go_num, by omega, by omega, ⟨HR2.out.1, HR2.out.2.1, hn.out, ?_, ?_, fun _ _ => rfl⟩⟩
            · rw [Nat.add_zero, HS.out]
            · rw [Nat.add_zero, HS.out, List.length_take, hn.out]; omega
          case round =>
            obtain ⟨j2, m, xs, rfl, rfl, hj2, hm2, HX⟩ := hrel
            by_cases hlt2 : j + 1 + (j2 + 1) < n
            · obtain ⟨r2, hr2⟩ : ∃ r, l[j + j2 + 2]? = some r := ⟨_, List.getElem?_eq_getElem (by rw [hn.out]; omega)⟩
              obtain ⟨q2, hq2⟩ : ∃ q, l[j + j2 + 1]? = some q := ⟨_, List.getElem?_eq_getElem (by rw [hn.out]; omega)⟩
              have hxr := (HX.out.2.2.2.2.2 (j + j2 + 2) (by omega)).trans hr2
              have hxq := (HX.out.2.2.2.2.2 (j + j2 + 1) (by omega)).trans hq2
              have e1 : (j + j2 + 2) * 2 = (j + 1) * 2 + (j2 + 1) * 2 := by omega
              have e2 : (j + j2 + 1) * 2 = (j + 1) * 2 + j2 * 2 := by omega
              have x1 : wr.cell? ⟨g, (j + 1) * 2 + (j2 + 1) * 2, none⟩ = some (.int .i64 r2.1) := e1 ▸ HX.out.1.cell1 hxr
              have x2 : wr.cell? ⟨g, (j + 1) * 2 + (j2 + 1) * 2 + 1, none⟩ = some (.int .i64 r2.2) := e1 ▸ HX.out.1.cell2 hxr
              have x3 : wr.cell? ⟨g, (j + 1) * 2 + j2 * 2, none⟩ = some (.int .i64 q2.1) := e2 ▸ HX.out.1.cell1 hxq
              have x4 : wr.cell? ⟨g, (j + 1) * 2 + j2 * 2 + 1, none⟩ = some (.int .i64 q2.2) := e2 ▸ HX.out.1.cell2 hxq
              have HRQ2 := Lib.hid (And.intro hr2 (And.intro hq2 hxr))
              have hw : IntKind.i64.wrap (j2 : Int) = (j2 : Int) := IntWalk.i64_in _ (by omega)
              have b1 : (j2 : Int) < ((n - (j + 1) : Nat) : Int) := by omega
              have b2 : (j2 : Int) + 1 < ((n - (j + 1) : Nat) : Int) := by omega
              have b3 : 0 ≤ (j2 : Int) + 1 := by omega
              have b4 : ((j2 : Int) + 1).toNat = j2 + 1 := by omega
              have b5 : j2 < n - (j + 1) := by omega
              clear hr2 hq2 hxr hxq e1 e2
              go_wp2_with fail
              refine wp_region_still_tail 10 (by kernel_rfl) (by kernel_rfl) ?_
              simp only [List.take_succ_cons, List.take_zero, List.drop_succ_cons, List.drop_zero]
              repeat (refine wpStill_want rfl (fun K hK => ?_); go_simp; refine hK _ ?_; clear hK K)
              refine wpStill_nil ?_
              change wpList _ _ _ _ _ wr.drew
              have HR3 : Hid (RefRow wr.drew g xs ∧ Chg (fun k => k = g) w wr.drew) := ⟨HX.out.1.keep rfl, HX.out.2.1.drew⟩
              have hgw : g < wr.drew.heap.size := Nat.lt_of_lt_of_le hg HX.out.2.1.size
              generalize wr.drew = w3 at HR3 hgw ⊢
              clear x1 x2 x3 x4 hw
              go_wp2_with fail
              go_at_call 52
              refine (join2_any r2 q2 w3).mono ?_
              rintro e w4 ⟨rfl, hb4⟩
              have HR4 : Hid (RefRow w4 g xs ∧ Chg (fun k => k = g) w w4) := ⟨hb4.row HR3.out.1 hgw, HR3.out.2.trans hb4.chg (fun _ _ e => e)⟩
              clear hb4 hgw
              have hstep := compactF_step (l := l) (k := j + j2 + 2) (by omega) HRQ2.out.2.1 HRQ2.out.1
              by_cases heq : r2.1 = q2.1
              · rw [if_pos heq.symm, List.append_nil] at hstep
                have HS : Hid (compactF (l.take (j + (j2 + 1) + 2)) = compactF (l.take (j + j2 + 2))) := hstep
                have d1 : decide (r2.1 = q2.1) = true := decide_eq_true heq
                rw [d1]
                clear d1 heq hstep
                go_wp2_with fail
                go_roundw
                case rel => exact ⟨j2 + 1, m, xs, by go_num, rfl, by omega, by omega, ⟨HR4.out.1, HR4.out.2, HX.out.2.2.1, by rw [HS.out]; exact HX.out.2.2.2.1, by rw [HS.out]; exact HX.out.2.2.2.2.1, fun i hi => HX.out.2.2.2.2.2 i (by omega)⟩⟩
                case measure => simp [intOf]; omega
              · have d1 : decide (r2.1 = q2.1) = false := decide_eq_false heq
                rw [if_neg (fun e => heq e.symm)] at hstep
                have HS := Lib.hid hstep
                rw [d1]
                clear d1 heq hstep
                have hxl := HX.out.2.2.1
                have HXL := Lib.hid hxl
                clear hxl
                have e1 : (j + j2 + 2) * 2 = (j + 1) * 2 + (j2 + 1) * 2 := by omega
                have x1 : w4.cell? ⟨g, (j + 1) * 2 + (j2 + 1) * 2, none⟩ = some (.int .i64 r2.1) := e1 ▸ HR4.out.1.cell1 HRQ2.out.2.2
                have x2 : w4.cell? ⟨g, (j + 1) * 2 + (j2 + 1) * 2 + 1, none⟩ = some (.int .i64 r2.2) := e1 ▸ HR4.out.1.cell2 HRQ2.out.2.2
                obtain ⟨o, ho⟩ : ∃ o, xs[m]? = some o := ⟨_, List.getElem?_eq_getElem (by rw [HXL.out]; omega)⟩
                have x3 : w4.cell? ⟨g, m * 2, none⟩ = some (.int .i64 o.1) := HR4.out.1.cell1 ho
                have x4 : w4.cell? ⟨g, m * 2 + 1, none⟩ = some (.int .i64 o.2) := HR4.out.1.cell2 ho
                have f3 : w4.frozen? ⟨g, m * 2, none⟩ = false := (HR4.out.1 _ _ (refC_at ho).1).2
                have f4 : w4.frozen? ⟨g, m * 2 + 1, none⟩ = false := (HR4.out.1 _ _ (refC_at ho).2).2
                have hmn : m < n := by omega
                clear e1 ho
                go_wp2_with fail
                refine ⟨⟨j2 + 1, m + 1, xs.set m r2, by go_num, by go_num, by omega, by omega, ⟨HR4.out.1.set m r2 (by rw [HXL.out]; exact hmn), chg_setCells [.int .i64 r2.1, .int .i64 r2.2] (m * 2) HR4.out.2, by rw [List.length_set]; exact HXL.out, ?_, ?_, ?_⟩⟩, by simp [intOf]; omega⟩
                · rw [List.set_eq_take_append_cons_drop, if_pos (by rw [HXL.out]; exact hmn)]
                  have e1 : (xs.take m).length = m := by rw [List.length_take, HXL.out]; omega
                  rw [List.take_append, e1, List.take_of_length_le (by omega), show m + 1 - m = 1 from by omega, List.take_succ_cons, List.take_zero, HX.out.2.2.2.1]
                  exact HS.out.symm
                · have := HX.out.2.2.2.2.1
                  rw [show j + (j2 + 1) + 2 = j + j2 + 2 + 1 from by omega, HS.out, List.length_append, ← this]; rfl
                · intro i hi
                  rw [List.getElem?_set_ne (by omega)]
                  exact HX.out.2.2.2.2.2 i (by omega)
            · have hjn : j + j2 + 2 = n := by omega
              have hcl : xs.take m = compactF l ∧ m = (compactF l).length := by
                have h1 := HX.out.2.2.2.1
                have h2 := HX.out.2.2.2.2.1
                rw [List.take_of_length_le (l := l) (by rw [hn.out]; omega)] at h1 h2
                exact ⟨h1, h2⟩
              have HC := Lib.hid hcl
              have hmn : m < n := by omega
              have hzz : ∀ i, i < (n - m) * 2 → (wr.cell? ⟨g, m * 2 + i, none⟩).isSome = true ∧ wr.frozen? ⟨g, m * 2 + i, none⟩ = false := by
                intro i hi
                have hlen : m * 2 + i < (refC xs).length := by rw [refC_length, HX.out.2.2.1]; omega
                have := HX.out.1 _ _ (List.getElem?_eq_getElem hlen)
                exact ⟨by rw [this.1]; rfl, this.2⟩
              have hclr := clear_refs wr g (m * 2) (n - m) (cap - m) (by omega) (fun i hi => (hzz i hi).1) (fun i hi => (hzz i hi).2)
              have hcm : ¬ cap = m := by omega
              clear hcl hzz
              go_wp2_with fail
              go_ret
              refine ⟨by rw [← HC.out.2]; rfl, ?_, chg_setCells _ _ HX.out.2.1⟩
              rw [← HC.out.1]
              exact HX.out.1.cleared m _
        · have d1 : decide (r.1 = q.1) = false := decide_eq_false heq
          rw [if_neg (fun e => heq e.symm)] at hstep
          have HS : Hid (compactF (l.take (j + 2)) = l.take (j + 2)) := by
            show _ = _
            rw [hstep, HR2.out.2.2, List.take_add_one (i := j + 1), HRQ.out.1]; rfl
          rw [d1]
          clear d1 heq hstep
          go_wp2_with fail
          go_roundw
          case rel => exact ⟨j + 1, by go_num, by omega, ⟨HR2.out.1, HR2.out.2.1, HS.out⟩⟩
          case measure => simp [intOf]; omega
      · have hjn : j + 1 = n := by omega
        have hcl : compactF l = l := by
          have := HI.out.2.2
          rwa [List.take_of_length_le (by rw [hn.out]; omega)] at this
        have HC := Lib.hid hcl
        have HJ := Lib.hid hjn
        clear hcl hjn
        go_wp2_with fail
        go_ret
        exact ⟨by rw [HC.out, hn.out]; rfl, by rw [HC.out]; exact HI.out.1, HI.out.2.1⟩
end Go.Proofs.YtfaihilehdjfjaaDoor
