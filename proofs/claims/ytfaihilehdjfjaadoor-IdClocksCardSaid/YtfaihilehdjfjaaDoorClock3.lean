/- Contracts: refs held against each other. -/
import Derived.Test.YtfaihilehdjfjaaDoorClock2
import Derived.Lib.Small
import Derived.Sort.Grow
namespace Go.Proofs.YtfaihilehdjfjaaDoor
open Go.ChangeShapes Go.WideShapes Go.ChangeAt Go.RowKit

/-- a world that drew, and laid blocks, alone -/
def Gr (w w' : World) : Prop := ∃ (q : Nat) (os' : Array Obj), w' = Sort.grow (w.drewN q) os'
theorem Gr.refl (w : World) : Gr w w := ⟨0, #[], by rw [Sort.grow_empty]; rfl⟩
theorem Gr.alloc {w w' : World} (h : Gr w w') (o : Obj) : Gr w (w'.alloc o) := by
  obtain ⟨q, os, rfl⟩ := h
  exact ⟨q, os ++ #[o], by rw [Sort.alloc_eq_grow, Sort.grow_grow]⟩
theorem Gr.drew {w w' : World} (h : Gr w w') : Gr w w'.drew := by
  obtain ⟨q, os, rfl⟩ := h
  exact ⟨q + 1, os, rfl⟩
theorem Gr.trans {a b c : World} (h : Gr a b) (k : Gr b c) : Gr a c := by
  obtain ⟨q, os, rfl⟩ := h
  obtain ⟨q2, os2, rfl⟩ := k
  refine ⟨q + q2, os ++ os2, ?_⟩
  rw [← World.drewN_drewN, ← Sort.grow_grow]
  rfl
theorem Gr.below {w w' : World} (h : Gr w w') : Below w.heap.size w w' := by
  obtain ⟨q, os, rfl⟩ := h
  refine ⟨rfl, rfl, rfl, ?_, fun k hk => ?_⟩
  · simp only [Sort.grow, World.drewN, Array.size_append]; omega
  · simp only [Sort.grow, World.drewN]
    rw [Array.getElem?_append_left hk]
theorem isNaN_any (x : Int) (w : World) : Calls Tryd.prog 125 #[.int .i64 x] w fun e w' => e = .returned (.bool false) ∧ w' = w := by
  go_enter Tryd.func125, Tryd.ntmps125
  go_wp2
  go_ret
  exact ⟨rfl, rfl⟩
theorem compare_any (x y : Int) (w : World) : Calls Tryd.prog 92 #[.int .i64 x, .int .i64 y] w fun e w' => e = .returned (.int .i64 (Lib.compareInt x y)) ∧ w' = w := by
  by_cases h1 : x < y
  · have e : Lib.compareInt x y = -1 := by simp [Lib.compareInt, h1]
    rw [e]
    have d1 : decide (x < y) = true := decide_eq_true h1
    go_enter Tryd.func92, Tryd.ntmps92
    go_wp2
    go_ret
    exact ⟨rfl, rfl⟩
  · by_cases h2 : y < x
    · have e : Lib.compareInt x y = 1 := by simp [Lib.compareInt, h1, h2]
      rw [e]
      have d1 : decide (x < y) = false := decide_eq_false h1
      have d2 : decide (y < x) = true := decide_eq_true h2
      go_enter Tryd.func92, Tryd.ntmps92
      go_wp2
      go_ret
      exact ⟨rfl, rfl⟩
    · have e : Lib.compareInt x y = 0 := by simp [Lib.compareInt, h1, h2]
      rw [e]
      have d1 : decide (x < y) = false := decide_eq_false h1
      have d2 : decide (y < x) = false := decide_eq_false h2
      go_enter Tryd.func92, Tryd.ntmps92
      go_wp2
      go_ret
      exact ⟨rfl, rfl⟩
theorem or_any (x y : Int) (g : Nat) (w : World) (c0 : w.cell? ⟨g, 0, none⟩ = some (.int .i64 x)) (c1 : w.cell? ⟨g, 1, none⟩ = some (.int .i64 y)) :
    Calls Tryd.prog 91 #[.slice (some ⟨g, 0, none⟩) 2 2] w fun e w' => e = .returned (.int .i64 (if x = 0 then y else x)) ∧ w' = w := by
  by_cases hx : x = 0
  · have HX := Lib.hid hx
    rw [if_pos hx]
    rw [hx] at c0
    clear hx
    go_enter Tryd.func91, Tryd.ntmps91
    go_wp2_with fail
    go_loop [8] (fun s8 => ∃ k : Nat, s8 = .int .i64 k ∧ k ≤ 2 ∧ (k = 2 → y = 0)) (fun s8 => 2 - (intOf s8).toNat)
    case atStart => exact ⟨0, rfl, by omega, by omega⟩
    case round =>
      obtain ⟨k, rfl, hk, h2⟩ := hrel
      have h3 : k = 0 ∨ k = 1 ∨ k = 2 := by omega
      have H2 := Lib.hid h2
      clear h2
      rcases h3 with rfl | rfl | rfl
      · go_wp2_with fail
        go_round
        case rel => exact ⟨1, by go_num, by omega, by omega⟩
        case measure => simp [intOf]
      · by_cases hy : y = 0
        · have HY := Lib.hid hy
          rw [hy] at c1
          clear hy
          go_wp2_with fail
          go_round
          case rel => exact ⟨2, by go_num, by omega, fun _ => HY.out⟩
          case measure => simp [intOf]
        · go_wp2_with fail
          go_ret
          exact ⟨rfl, rfl⟩
      · have hy := H2.out rfl
        have HY := Lib.hid hy
        clear hy
        go_wp2_with fail
        go_ret
        exact ⟨by rw [HY.out]; rfl, rfl⟩
  · rw [if_neg hx]
    go_enter Tryd.func91, Tryd.ntmps91
    go_wp2_with fail
    go_loop [8] (fun s8 => s8 = .int .i64 0) (fun _ => 0)
    case atStart => rfl
    case round =>
      subst hrel
      go_wp2_with fail
      go_ret
      exact ⟨rfl, rfl⟩
/-- refs held against each other -/
def cmpR (r q : Rf) : Int := if Lib.compareInt r.1 q.1 = 0 then Lib.compareInt r.2 q.2 else Lib.compareInt r.1 q.1
set_option maxHeartbeats 2000000 in
set_option maxRecDepth 20000 in
theorem compareRefs_any (r q : Rf) (w : World) : Calls Tryd.prog 50 #[refV r, refV q] w fun e w' => e = .returned (.int .i64 (cmpR r q)) ∧ Gr w w' := by
  obtain ⟨ra, rs⟩ := r
  obtain ⟨qa, qs⟩ := q
  simp only [refV, cmpR]
  have hc1 := compare_any ra qa
  have hc2 := compare_any rs qs
  generalize Lib.compareInt ra qa = x at *
  generalize Lib.compareInt rs qs = y at *
  have OR := or_any x y
  generalize (if x = 0 then y else x) = z at OR ⊢
  go_enter Tryd.func50, Tryd.ntmps50
  go_wp2_with fail
  have hB : Gr w ((w.alloc (.cells #[.int .i64 ra, .int .i64 rs] 79)).alloc (.cells #[.int .i64 qa, .int .i64 qs] 79)) := ((Gr.refl w).alloc _).alloc _
  have y0 : Blk ((w.alloc (.cells #[.int .i64 ra, .int .i64 rs] 79)).alloc (.cells #[.int .i64 qa, .int .i64 qs] 79)) w.heap.size _ _ := (Blk.new w 79 #[.int .i64 ra, .int .i64 rs]).alloc _
  have y1 : Blk ((w.alloc (.cells #[.int .i64 ra, .int .i64 rs] 79)).alloc (.cells #[.int .i64 qa, .int .i64 qs] 79)) (w.heap.size + 1) 79 #[.int .i64 qa, .int .i64 qs] := by
    have := Blk.new (w.alloc (.cells #[.int .i64 ra, .int .i64 rs] 79)) 79 #[.int .i64 qa, .int .i64 qs]
    simpa using this
  generalize (w.alloc (.cells #[.int .i64 ra, .int .i64 rs] 79)).alloc (.cells #[.int .i64 qa, .int .i64 qs] 79) = w1 at hB y0 y1 ⊢
  have HB := Lib.hid hB
  have x1 : w1.cell? ⟨w.heap.size, 0, none⟩ = some (.int .i64 ra) := y0.cell 0
  have x2 : w1.cell? ⟨w.heap.size, 1, none⟩ = some (.int .i64 rs) := y0.cell 1
  have x3 : w1.cell? ⟨w.heap.size + 1, 0, none⟩ = some (.int .i64 qa) := y1.cell 0
  have x4 : w1.cell? ⟨w.heap.size + 1, 1, none⟩ = some (.int .i64 qs) := y1.cell 1
  clear hB y0 y1
  refine wp_region_still_tail 10 (by kernel_rfl) (by kernel_rfl) ?_
  simp only [List.take_succ_cons, List.take_zero, List.drop_succ_cons, List.drop_zero]
  repeat (refine wpStill_want rfl (fun K hK => ?_); go_simp; refine hK _ ?_; clear hK K)
  (refine wpStill_want rfl (fun K hK => ?_); go_simp; refine ⟨_, hc1 _, hK _ ?_⟩; clear hK K)
  repeat (refine wpStill_want rfl (fun K hK => ?_); go_simp; refine hK _ ?_; clear hK K)
  (refine wpStill_want rfl (fun K hK => ?_); go_simp; refine ⟨_, hc2 _, hK _ ?_⟩; clear hK K)
  repeat (refine wpStill_want rfl (fun K hK => ?_); go_simp; refine hK _ ?_; clear hK K)
  refine wpStill_nil ?_
  change wpList _ _ _ _ _ w1.drew
  have HB2 : Hid (Gr w w1.drew) := HB.out.drew
  generalize w1.drew = w2 at HB2 ⊢
  clear x1 x2 x3 x4
  go_wp2_with fail
  go_at_call 91
  refine (OR w2.heap.size _ (by rw [(Blk.new w2 _ _).cell 0]; rfl) (by rw [(Blk.new w2 _ _).cell 1]; rfl)).mono ?_
  rintro e w3 ⟨rfl, rfl⟩
  go_wp2_with fail
  go_ret
  exact ⟨rfl, HB2.out.alloc _⟩
theorem join1_any (r q : Rf) (w : World) : Calls Tryd.prog 49 #[refV r, refV q] w fun e w' => e = .returned (.int .i64 (cmpR q r)) ∧ Gr w w' := by
  obtain ⟨ra, rs⟩ := r
  obtain ⟨qa, qs⟩ := q
  have hc : ∀ w', Calls Tryd.prog 50 #[.agg #[.int .i64 qa, .int .i64 qs], .agg #[.int .i64 ra, .int .i64 rs]] w' _ := fun w' => compareRefs_any (qa, qs) (ra, rs) w'
  simp only [refV]
  generalize cmpR (qa, qs) (ra, rs) = x at *
  go_enter Tryd.func49, Tryd.ntmps49
  go_wp2_with fail
  go_at_call 50
  refine (hc _).mono ?_
  rintro e w3 ⟨rfl, hb3⟩
  go_wp2_with fail
  go_ret
  exact ⟨rfl, (((Gr.refl w).alloc _).alloc _).trans hb3⟩
theorem join2_any (r q : Rf) (w : World) : Calls Tryd.prog 52 #[refV r, refV q] w fun e w' => e = .returned (.bool (decide (r.1 = q.1))) ∧ Gr w w' := by
  obtain ⟨ra, rs⟩ := r
  obtain ⟨qa, qs⟩ := q
  simp only [refV]
  go_enter Tryd.func52, Tryd.ntmps52
  go_wp2_with fail
  go_ret
  exact ⟨rfl, ((Gr.refl w).alloc _).alloc _⟩
end Go.Proofs.YtfaihilehdjfjaaDoor
