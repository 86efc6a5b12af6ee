/- Contracts of the document's books: Ref, Ahead, Has, find, Put. -/
import Derived.Test.YtclgfcjcpbiadaaGreatDoorM18
import Derived.Test.YtclgfcjcpbiadaaGreatDoorRefEnc
set_option linter.unusedVariables false
set_option linter.unusedSimpArgs false
namespace Go.Proofs.YtclgfcjcpbiadaaGreatDoor
open Go.ChangeShapes Go.WideShapes Go.ChangeAt Go.RowKit

def ChD.cells (c : ChD) : List Value := [.int .i64 c.a, .int .i64 c.s, .int .i64 c.st, .slice c.DA c.deps.length c.DC, .slice c.OA c.ops.length c.OC]
def ChD.v (c : ChD) : Value := .agg #[.int .i64 c.a, .int .i64 c.s, .int .i64 c.st, .slice c.DA c.deps.length c.DC, .slice c.OA c.ops.length c.OC]
def chsC (L : List ChD) : List Value := L.flatMap ChD.cells
theorem chsC_append (a b : List ChD) : chsC (a ++ b) = chsC a ++ chsC b := by simp [chsC]
theorem chsC_at : ∀ {L : List ChD} {k : Nat} {c : ChD}, L[k]? = some c → ∀ i, i < 5 → (chsC L)[k * 5 + i]? = c.cells[i]?
  | [], k, r, h => by simp at h
  | x :: l, 0, o, h => fun i hi => by
    simp at h; subst h
    simp only [chsC, List.flatMap_cons, Nat.zero_mul, Nat.zero_add]
    exact List.getElem?_append_left (by simp only [ChD.cells, List.length_cons, List.length_nil]; omega)
  | x :: l, k + 1, o, h => fun i hi => by
    have ih := chsC_at (L := l) (k := k) (by simpa using h) i hi
    have e : chsC (x :: l) = x.cells ++ chsC l := by simp [chsC]
    have hx : x.cells.length = 5 := by simp [ChD.cells]
    rw [e, List.getElem?_append_right (by rw [hx]; omega), hx, show (k + 1) * 5 + i - 5 = k * 5 + i from by omega]
    exact ih
set_option maxRecDepth 100000 in
theorem eq_ref (a b c d : Int) (w : World) : (Op.equalIn 10000 25 (.agg #[.int .i64 a, .int .i64 b]) (.agg #[.int .i64 c, .int .i64 d])).run Tryz.prog w = .ok (decide ((a, b) = (c, d))) w := by
  have hS : Tryz.prog.underlying 25 = some (.struct (Tryz.prog.fieldsOf 25)) := by kernel_rfl
  have hp : Tryz.prog.stoodInHeld 25 = false := by kernel_rfl
  rw [show (10000 : Nat) = 9999 + 1 from rfl, run_equalIn_agg w 9999 25 _ _ hS hp]
  simp only [Program.fieldsOf, Tryz.underlying25]
  go_simp
  by_cases h1 : a = c <;> by_cases h2 : b = d <;> simp [h1, h2]
theorem sref_any (a s : Int) (v2 v3 v4 : Value) (w : World) (h2 : v2.oneCell' = true) (h3 : v3.oneCell' = true) (h4 : v4.oneCell' = true) :
    Calls Tryz.prog 12 #[.agg #[.int .i64 a, .int .i64 s, v2, v3, v4]] w fun e w' => e = .returned (.agg #[.int .i64 a, .int .i64 s]) ∧ Below w.heap.size w w' := by
  have hres : Tryz.f12.results = #[.cell 2 25] := by kernel_rfl
  go_enter Tryz.func12, Tryz.ntmps12
  go_wp2_with fail
  refine bodyPost_ret (v := .agg #[.int .i64 a, .int .i64 s]) ?_ rfl ⟨rfl, ?_⟩
  · simp only [results, hres]
    go_simp
  · exact ((Below.refl _ w).alloc (Nat.le_refl _) _).alloc (by simp) _
theorem ahead_any (r q : Rf) (w : World) : Calls Tryz.prog 31 #[refV r, refV q] w fun e w' => e = .returned (.bool (aheadR r q)) ∧ Below w.heap.size w w' := by
  obtain ⟨a, b⟩ := r
  obtain ⟨c, d⟩ := q
  simp only [refV, aheadR]
  have HB : Hid (Below w.heap.size w ((w.alloc (.cells #[.int .i64 a, .int .i64 b] 25)).alloc (.cells #[.int .i64 c, .int .i64 d] 25))) := ((Below.refl _ w).alloc (Nat.le_refl _) _).alloc (by simp) _
  by_cases h1 : a = c
  · subst h1
    have e : decide (a < a ∨ a = a ∧ b < d) = decide (b < d) := by simp
    rw [e]
    go_enter Tryz.func31, Tryz.ntmps31
    go_wp2_with fail
    go_ret
    exact ⟨rfl, HB.out⟩
  · have e : decide (a < c ∨ a = c ∧ b < d) = decide (a < c) := by simp [h1]
    rw [e]
    go_enter Tryz.func31, Tryz.ntmps31
    go_wp2_with fail
    go_ret
    exact ⟨rfl, HB.out⟩
theorem has_step {l : List Rf} {k : Nat} {x r : Rf} (hx : l[k]? = some x) (h : r ∉ l.take k) (hne : x ≠ r) : r ∉ l.take (k + 1) := by
  rw [List.take_add_one, hx]
  simp only [Option.toList_some, List.mem_append, List.mem_singleton, not_or]
  exact ⟨h, fun e => hne e.symm⟩
set_option maxHeartbeats 2000000 in
set_option maxRecDepth 20000 in
theorem sHas_any (l : List Rf) (r : Rf) (D : Nat → Prop) (A : Option Addr) (c : Nat) (w : World) (hr : Reads D w 2 A l.length (refC l)) (hD : ∀ k, D k → k < w.heap.size) (hl : l.length ≤ 9223372036854775807) :
    Calls Tryz.prog 10 #[.slice A l.length c, .agg #[.int .i64 r.1, .int .i64 r.2]] w fun e w' => e = .returned (.bool (decide (r ∈ l))) ∧ Below w.heap.size w w' := by
  obtain ⟨n, hn⟩ : ∃ n, l.length = n := ⟨_, rfl⟩
  have HN := Lib.hid hn
  have HR0 := Lib.hid (hr.keep (w' := w.alloc (.cells #[.int .i64 r.1, .int .i64 r.2] 25)) fun k hk => Below.heap_alloc _ _ k (hD k hk))
  have HB0 : Hid (Below w.heap.size w (w.alloc (.cells #[.int .i64 r.1, .int .i64 r.2] 25))) := (Below.refl _ w).alloc (Nat.le_refl _) _
  have hQ := Blk.new w 25 #[.int .i64 r.1, .int .i64 r.2]
  have HC0 := Lib.hid (And.intro (hQ.cell 0) (hQ.cell 1))
  rw [hn] at hl ⊢
  clear hn hr hD hQ
  go_enter Tryz.func10, Tryz.ntmps10
  go_wp2_with fail
  generalize w.alloc (.cells #[.int .i64 r.1, .int .i64 r.2] 25) = V at *
  go_loopw [5] (fun s5 wr => ∃ k : Nat, s5 = .int .i64 k ∧ k ≤ n ∧ Hid (r ∉ l.take k) ∧ ∃ m, wr = V.drewN m) (fun s5 _ => n - (intOf s5).toNat)
  case atStart => exact ⟨0, rfl, by omega, by show r ∉ _; simp, 0, rfl⟩
  case round =>
    obtain ⟨k, rfl, hk, HI, m, rfl⟩ := hrel
    by_cases hlt : k < n
    · obtain ⟨b1, o1, rfl, -, hc1⟩ := HR0.out.at_ (by rw [HN.out]; omega) (by omega)
      obtain ⟨x, hx⟩ : ∃ x, l[k]? = some x := ⟨_, List.getElem?_eq_getElem (by rw [HN.out]; exact hlt)⟩
      have x1 : V.cell? ⟨b1, o1 + k * 2, none⟩ = some (.int .i64 x.1) := hc1 _ _ (refC_at hx).1
      have x2 : V.cell? ⟨b1, o1 + k * 2 + 1, none⟩ = some (.int .i64 x.2) := hc1 _ _ (refC_at hx).2
      have y1 : V.cell? ⟨w.heap.size, 0, none⟩ = some (.int .i64 r.1) := HC0.out.1
      have y2 : V.cell? ⟨w.heap.size, 1, none⟩ = some (.int .i64 r.2) := HC0.out.2
      have HX := Lib.hid hx
      have E := fun w => eq_ref x.1 x.2 r.1 r.2 w
      by_cases hxr : x = r
      · have HE : Hid (decide (r ∈ l) = true) := decide_eq_true (by rw [← hxr]; exact List.mem_of_getElem? hx)
        have e1 : decide ((x.1, x.2) = (r.1, r.2)) = true := decide_eq_true hxr
        rw [e1] at E
        clear hc1 hx hxr e1
        go_wp2_with fail
        go_quiet (fail)
        go_wp2_with fail
        go_ret
        exact ⟨by rw [HE.out]; rfl, by rw [World.drewN_drewN]; exact below_drewN HB0.out _⟩
      · have e1 : decide ((x.1, x.2) = (r.1, r.2)) = false := decide_eq_false hxr
        rw [e1] at E
        have HE : Hid (r ∉ l.take (k + 1)) := has_step hx HI.out hxr
        clear hc1 hx hxr e1
        go_wp2_with fail
        go_quiet (fail)
        change Exit.then _ _ _ _ ((V.drewN m).drewN nq)
        have HW : Hid ((V.drewN m).drewN nq = V.drewN (m + nq)) := by show _ = _; rw [World.drewN_drewN]
        generalize (V.drewN m).drewN nq = w3 at HW ⊢
        clear x1 x2 y1 y2
        go_wp2_with fail
        go_roundw
        case rel => exact ⟨k + 1, by go_num, by omega, HE, _, HW.out⟩
        case measure => simp [intOf]; omega
    · have HE : Hid (decide (r ∈ l) = false) := decide_eq_false (by have := HI.out; rwa [List.take_of_length_le (by rw [HN.out]; omega)] at this)
      go_wp2_with fail
      go_ret
      exact ⟨by rw [HE.out]; rfl, below_drewN HB0.out _⟩
theorem find_none_step {L : List ChD} {k : Nat} {x : ChD} {r : Rf} (hx : L[k]? = some x) (h : r ∉ refsOf (L.take k)) (hne : x.rf ≠ r) : r ∉ refsOf (L.take (k + 1)) := by
  rw [List.take_add_one, hx, refsOf_append]
  simp only [Option.toList_some, List.mem_append, not_or]
  exact ⟨h, fun e => hne (List.mem_singleton.1 e).symm⟩
theorem find_hit {L : List ChD} {k : Nat} {x : ChD} {r : Rf} (hx : L[k]? = some x) (h : r ∉ refsOf (L.take k)) (he : x.rf = r) : findC L r = some x := by
  obtain ⟨hk, hx'⟩ := List.getElem?_eq_some_iff.1 hx
  have e : L = L.take k ++ x :: L.drop (k + 1) := by
    rw [← hx', List.getElem_cons_drop, List.take_append_drop]
  unfold findC
  rw [e, List.find?_append]
  have h1 : (L.take k).find? (fun c => decide (c.rf = r)) = none := findC_none.2 h
  rw [h1]
  simp [he]
/-- what find answers -/
def FindI (L : List ChD) (r : Rf) (i : Int) : Prop := (i = -1 ∧ r ∉ refsOf L) ∨ ∃ (k : Nat) (c : ChD), i = (k : Int) ∧ L[k]? = some c ∧ findC L r = some c
set_option maxHeartbeats 2000000 in
set_option maxRecDepth 20000 in
theorem sfind_any (L : List ChD) (r : Rf) (D : Nat → Prop) (A : Option Addr) (c : Nat) (w : World) (hr : Reads D w 5 A L.length (chsC L)) (hD : ∀ k, D k → k < w.heap.size) (hl : L.length ≤ 9223372036854775807) :
    Calls Tryz.prog 27 #[.slice A L.length c, .agg #[.int .i64 r.1, .int .i64 r.2]] w fun e w' => ∃ i, e = .returned (.int .i64 i) ∧ FindI L r i ∧ Below w.heap.size w w' := by
  obtain ⟨n, hn⟩ : ∃ n, L.length = n := ⟨_, rfl⟩
  have HN := Lib.hid hn
  have HR0 := Lib.hid (hr.keep (w' := w.alloc (.cells #[.int .i64 r.1, .int .i64 r.2] 25)) fun k hk => Below.heap_alloc _ _ k (hD k hk))
  have HB0 : Hid (Below w.heap.size w (w.alloc (.cells #[.int .i64 r.1, .int .i64 r.2] 25))) := (Below.refl _ w).alloc (Nat.le_refl _) _
  have hQ := Blk.new w 25 #[.int .i64 r.1, .int .i64 r.2]
  have HC0 := Lib.hid (And.intro (hQ.cell 0) (hQ.cell 1))
  rw [hn] at hl ⊢
  clear hn hr hD hQ
  go_enter Tryz.func27, Tryz.ntmps27
  go_wp2_with fail
  generalize w.alloc (.cells #[.int .i64 r.1, .int .i64 r.2] 25) = V at *
  go_loopw [5] (fun s5 wr => ∃ k : Nat, s5 = .int .i64 k ∧ k ≤ n ∧ Hid (r ∉ refsOf (L.take k)) ∧ ∃ m, wr = V.drewN m) (fun s5 _ => n - (intOf s5).toNat)
  case atStart => exact ⟨0, rfl, by omega, by show r ∉ _; simp [refsOf], 0, rfl⟩
  case round =>
    obtain ⟨k, rfl, hk, HI, m, rfl⟩ := hrel
    by_cases hlt : k < n
    · obtain ⟨b1, o1, rfl, -, hc1⟩ := HR0.out.at_ (by rw [HN.out]; omega) (by omega)
      obtain ⟨x, hx⟩ : ∃ x, L[k]? = some x := ⟨_, List.getElem?_eq_getElem (by rw [HN.out]; exact hlt)⟩
      have x1 : V.cell? ⟨b1, o1 + k * 5, none⟩ = some (.int .i64 x.a) := hc1 _ _ (chsC_at hx 0 (by omega))
      have x2 : V.cell? ⟨b1, o1 + k * 5 + 1, none⟩ = some (.int .i64 x.s) := hc1 _ _ (chsC_at hx 1 (by omega))
      have y1 : V.cell? ⟨w.heap.size, 0, none⟩ = some (.int .i64 r.1) := HC0.out.1
      have y2 : V.cell? ⟨w.heap.size, 1, none⟩ = some (.int .i64 r.2) := HC0.out.2
      have HX := Lib.hid hx
      by_cases h1 : x.a = r.1
      · have e1 : (x.a == r.1) = true := by simp [h1]
        by_cases h2 : x.s = r.2
        · have e2 : (x.s == r.2) = true := by simp [h2]
          have HE := Lib.hid (find_hit hx HI.out (by unfold ChD.rf; rw [h1, h2]))
          clear hc1 hx h1 h2
          go_wp2_with fail
          go_quiet (fail)
          go_wp2_with fail
          go_ret
          exact ⟨_, rfl, .inr ⟨k, x, rfl, HX.out, HE.out⟩, by rw [World.drewN_drewN]; exact below_drewN HB0.out _⟩
        · have e2 : (x.s == r.2) = false := by simp [h2]
          have HE : Hid (r ∉ refsOf (L.take (k + 1))) := find_none_step hx HI.out (fun e => h2 (congrArg Prod.snd e))
          clear hc1 hx h1 h2
          go_wp2_with fail
          go_quiet (fail)
          change Exit.then _ _ _ _ ((V.drewN m).drewN nq)
          have HW : Hid ((V.drewN m).drewN nq = V.drewN (m + nq)) := by show _ = _; rw [World.drewN_drewN]
          generalize (V.drewN m).drewN nq = w3 at HW ⊢
          clear x1 x2 y1 y2
          go_wp2_with fail
          go_roundw
          case rel => exact ⟨k + 1, by go_num, by omega, HE, _, HW.out⟩
          case measure => simp [intOf]; omega
      · have e1 : (x.a == r.1) = false := by simp [h1]
        have HE : Hid (r ∉ refsOf (L.take (k + 1))) := find_none_step hx HI.out (fun e => h1 (congrArg Prod.fst e))
        clear hc1 hx h1
        go_wp2_with fail
        go_quiet (fail)
        change Exit.then _ _ _ _ ((V.drewN m).drewN nq)
        have HW : Hid ((V.drewN m).drewN nq = V.drewN (m + nq)) := by show _ = _; rw [World.drewN_drewN]
        generalize (V.drewN m).drewN nq = w3 at HW ⊢
        clear x1 x2 y1 y2
        go_wp2_with fail
        go_roundw
        case rel => exact ⟨k + 1, by go_num, by omega, HE, _, HW.out⟩
        case measure => simp [intOf]; omega
    · have HE : Hid (r ∉ refsOf L) := by have := HI.out; rwa [List.take_of_length_le (by rw [HN.out]; omega)] at this
      go_wp2_with fail
      go_ret
      exact ⟨_, rfl, .inl ⟨rfl, HE.out⟩, below_drewN HB0.out _⟩
end Go.Proofs.YtclgfcjcpbiadaaGreatDoor
