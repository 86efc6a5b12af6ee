/- Contracts: what is wrong with a clock; whether two are the same. -/
import Derived.Test.YtclgfcjcpbiadaaGreatDoorM0
import Derived.BigQuiet
import Derived.Deep.QuietTactic
set_option linter.unusedVariables false
set_option linter.unusedSimpArgs false
namespace Go.Proofs.YtclgfcjcpbiadaaGreatDoor
open Go.ChangeShapes Go.WideShapes Go.ChangeAt Go.RowKit

abbrev Rf := Int × Int
def refV (r : Rf) : Value := .agg #[.int .i64 r.1, .int .i64 r.2]
def refC (l : List Rf) : List Value := l.flatMap fun r => [.int .i64 r.1, .int .i64 r.2]
theorem refC_length : ∀ (l : List Rf), (refC l).length = l.length * 2
  | [] => rfl
  | r :: l => by have := refC_length l; simp only [refC, List.flatMap_cons, List.length_append, List.length_cons, List.length_nil] at this ⊢; omega
theorem refC_append (a b : List Rf) : refC (a ++ b) = refC a ++ refC b := by simp [refC]
theorem refC_at : ∀ {l : List Rf} {k : Nat} {r : Rf}, l[k]? = some r → (refC l)[k * 2]? = some (.int .i64 r.1) ∧ (refC l)[k * 2 + 1]? = some (.int .i64 r.2)
  | [], k, r, h => by simp at h
  | x :: l, 0, r, h => by simp at h; subst h; simp [refC]
  | x :: l, k + 1, r, h => by
    have := refC_at (l := l) (k := k) (by simpa using h)
    have e : refC (x :: l) = .int .i64 x.1 :: .int .i64 x.2 :: refC l := by simp [refC]
    rw [e, show (k + 1) * 2 = k * 2 + 1 + 1 from by omega, List.getElem?_cons_succ, List.getElem?_cons_succ, show k * 2 + 1 + 1 + 1 = (k * 2 + 1) + 1 + 1 from rfl, List.getElem?_cons_succ, List.getElem?_cons_succ]
    exact this
/-- is one a ref? -/
def isRef (r : Rf) : Bool := decide (1 ≤ r.1 ∧ r.1 ≤ 99) && decide (1 ≤ r.2 ∧ r.2 ≤ 1000000)
/-- what is wrong with a clock, behind an actor -/
def refsE : Int → List Rf → Nat
  | _, [] => 0
  | p, r :: l => if isRef r = false then 1 else if r.1 ≤ p then 5 else refsE r.1 l
def errN (k : Nat) : Value := if k = 0 then .nilIface else .iface 65 (.int .i64 k)

theorem cactor_any (x : Int) (w : World) : Calls Tryz.prog 73 #[.int .i64 x] w fun e w' => e = .returned (.bool (decide (1 ≤ x ∧ x ≤ 99))) ∧ w' = w := by
  by_cases h1 : 1 ≤ x
  · have h1' : decide (1 ≤ x) = true := decide_eq_true h1
    have h2 : decide (1 ≤ x ∧ x ≤ 99) = decide (x ≤ 99) := by simp [h1]
    rw [h2]
    go_enter Tryz.func73, Tryz.ntmps73
    go_wp2_with fail
    go_ret
    exact ⟨rfl, rfl⟩
  · have h1' : decide (1 ≤ x) = false := decide_eq_false h1
    have h2 : decide (1 ≤ x ∧ x ≤ 99) = false := by simp [h1]
    rw [h2]
    go_enter Tryz.func73, Tryz.ntmps73
    go_wp2_with fail
    go_ret
    exact ⟨rfl, rfl⟩
theorem cnum_any (x : Int) (w : World) : Calls Tryz.prog 74 #[.int .i64 x] w fun e w' => e = .returned (.bool (decide (1 ≤ x ∧ x ≤ 1000000))) ∧ w' = w := by
  by_cases h1 : 1 ≤ x
  · have h1' : decide (1 ≤ x) = true := decide_eq_true h1
    have h2 : decide (1 ≤ x ∧ x ≤ 1000000) = decide (x ≤ 1000000) := by simp [h1]
    rw [h2]
    go_enter Tryz.func74, Tryz.ntmps74
    go_wp2_with fail
    go_ret
    exact ⟨rfl, rfl⟩
  · have h1' : decide (1 ≤ x) = false := decide_eq_false h1
    have h2 : decide (1 ≤ x ∧ x ≤ 1000000) = false := by simp [h1]
    rw [h2]
    go_enter Tryz.func74, Tryz.ntmps74
    go_wp2_with fail
    go_ret
    exact ⟨rfl, rfl⟩
theorem cref_any (r : Rf) (w : World) : Calls Tryz.prog 45 #[refV r] w fun e w' => e = .returned (.bool (isRef r)) ∧ Below w.heap.size w w' := by
  obtain ⟨a, s⟩ := r
  simp only [refV, isRef]
  have ha := cactor_any a
  have hs := cnum_any s
  generalize decide (1 ≤ a ∧ a ≤ 99) = x at *
  generalize decide (1 ≤ s ∧ s ≤ 1000000) = y at *
  cases x with
  | false =>
    go_enter Tryz.func45, Tryz.ntmps45
    go_wp2_with fail
    go_at_call 73
    refine (ha _).mono ?_
    rintro e w1 ⟨rfl, rfl⟩
    go_wp2_with fail
    go_ret
    exact ⟨rfl, (Below.refl _ w).alloc (Nat.le_refl _) _⟩
  | true =>
    go_enter Tryz.func45, Tryz.ntmps45
    go_wp2_with fail
    go_at_call 73
    refine (ha _).mono ?_
    rintro e w1 ⟨rfl, rfl⟩
    go_wp2_with fail
    go_at_call 74
    refine (hs _).mono ?_
    rintro e w1 ⟨rfl, rfl⟩
    go_wp2_with fail
    go_ret
    exact ⟨rfl, (Below.refl _ w).alloc (Nat.le_refl _) _⟩
set_option maxHeartbeats 2000000 in
set_option maxRecDepth 20000 in
theorem refs_any (l : List Rf) (D : Nat → Prop) (A : Option Addr) (c : Nat) (w : World) (hr : Reads D w 2 A l.length (refC l)) (hD : ∀ k, D k → k < w.heap.size) (hl : l.length ≤ 9223372036854775807) :
    Calls Tryz.prog 57 #[.slice A l.length c] w fun e w' => e = .returned (errN (refsE 0 l)) ∧ Below w.heap.size w w' := by
  have HR := Lib.hid hr
  have HD := Lib.hid hD
  clear hr hD
  obtain ⟨n, hn⟩ : ∃ n, l.length = n := ⟨_, rfl⟩
  have HN := Lib.hid hn
  rw [hn] at hl ⊢
  clear hn
  go_enter Tryz.func57, Tryz.ntmps57
  go_wp2_with fail
  go_loopw [7] (fun s7 wr => ∃ k : Nat, k ≤ n ∧ s7 = .int .i64 k ∧ Hid (Below w.heap.size w wr ∧ ∃ p : Int, refsE 0 l = refsE p (l.drop k) ∧ (k = 0 → p = 0) ∧ (∀ j r, k = j + 1 → l[j]? = some r → p = r.1)) ) (fun s7 _ => n - (intOf s7).toNat)
  case atStart => exact ⟨0, by omega, rfl, ⟨Below.refl _ _, 0, by simp, fun _ => rfl, fun j r h => by omega⟩⟩
  case round =>
    obtain ⟨k, hk, rfl, HI⟩ := hrel
    by_cases hlt : k < n
    · obtain ⟨b, off, rfl, hb, hcell⟩ := HR.out.at_ (by rw [HN.out]; omega) (by omega)
      obtain ⟨r, hr⟩ : ∃ r, l[k]? = some r := ⟨_, List.getElem?_eq_getElem (by rw [HN.out]; exact hlt)⟩
      have hbl := HD.out b hb
      have hblk : ∀ o, wr.cell? ⟨b, o, none⟩ = w.cell? ⟨b, o, none⟩ := fun o => World.cell?_of_block (w := w) (HI.out.1.block b hbl)
      obtain ⟨h1, h2⟩ := refC_at hr
      have x1 : wr.cell? ⟨b, off + k * 2, none⟩ = some (.int .i64 r.1) := by rw [hblk]; exact hcell _ _ h1
      have x2 : wr.cell? ⟨b, off + k * 2 + 1, none⟩ = some (.int .i64 r.2) := by rw [hblk]; exact hcell _ _ h2
      clear hblk hcell h1 h2
      have HX := Lib.hid hr
      clear hr
      go_wp2_with fail
      go_at_call 45
      refine (cref_any r _).mono ?_
      rintro e w2 ⟨rfl, hb2⟩
      have hs1 : wr.heap.size < w2.heap.size := by have := hb2.size; simp at this; omega
      have hc4 : w2.cell? ⟨wr.heap.size, 0, none⟩ = some (.int .i64 r.1) := by
        rw [World.cell?_of_block (w := wr.alloc (.cells #[.int .i64 r.1, .int .i64 r.2] 25)) (hb2.block wr.heap.size (by simp))]
        exact (Blk.new wr _ _).cell 0
      have HB2 : Hid (Below w.heap.size w w2) := (HI.out.1.alloc HI.out.1.size _).trans (hb2.mono (by have := HI.out.1.size; simp; omega))
      clear hb2 x1 x2
      obtain ⟨p, hp1, hp2, hp3⟩ := HI.out.2
      have hdr : l.drop k = r :: l.drop (k + 1) := by
        have hl : k < l.length := by rw [HN.out]; exact hlt
        have := HX.out
        rw [List.getElem?_eq_getElem hl] at this
        rw [List.drop_eq_getElem_cons hl, Option.some.inj this]
      have hre : refsE p (r :: l.drop (k + 1)) = if isRef r = false then 1 else if r.1 ≤ p then 5 else refsE r.1 (l.drop (k + 1)) := rfl
      rw [hdr, hre] at hp1
      clear hdr hre
      cases hir : isRef r with
      | false =>
        rw [hir, if_pos rfl] at hp1
        have HP := Lib.hid hp1
        clear hp1 hp2 hp3 hir
        go_wp2_with fail
        go_ret
        exact ⟨by rw [HP.out]; rfl, HB2.out⟩
      | true =>
        rw [hir, if_neg (by simp)] at hp1
        have hr1 : 1 ≤ r.1 := by
          simp only [isRef, Bool.and_eq_true, decide_eq_true_eq] at hir
          exact hir.1.1
        have HP := Lib.hid (And.intro hp1 (And.intro hp2 hp3))
        clear hp1 hp2 hp3 hir
        by_cases hk0 : k = 0
        · have hpz := HP.out.2.1 hk0
          have HE : Hid (refsE 0 l = refsE r.1 (l.drop (k + 1))) := by
            have := HP.out.1
            rw [hpz, if_neg (by omega)] at this
            exact this
          have d1 : decide (0 < (k : Int)) = false := decide_eq_false (by omega)
          have d1' : decide (0 < k) = false := decide_eq_false (by omega)
          clear hk0 hpz
          go_wp2_with fail
          go_quiet (fail)
          change Exit.then _ _ _ _ (w2.drewN nq)
          have HB3 : Hid (Below w.heap.size w (w2.drewN nq)) := below_drewN HB2.out nq
          generalize w2.drewN nq = w3 at HB3 ⊢
          clear hc4 hs1
          go_wp2_with fail
          go_roundw
          case rel =>
            refine ⟨k + 1, hlt, by go_num, ⟨HB3.out, r.1, HE.out, fun e => by omega, fun j r' e h => ?_⟩⟩
            obtain rfl : j = k := by omega
            rw [HX.out] at h
            cases h
            rfl
          case measure => simp [intOf]; omega
        · have d1 : decide (0 < (k : Int)) = true := decide_eq_true (by omega)
          have d1' : decide (0 < k) = true := decide_eq_true (by omega)
          obtain ⟨r0, hr0⟩ : ∃ r, l[k - 1]? = some r := ⟨_, List.getElem?_eq_getElem (by rw [HN.out]; omega)⟩
          have hp0 := HP.out.2.2 (k - 1) r0 (by omega) hr0
          have hblk : ∀ o, w2.cell? ⟨b, o, none⟩ = w.cell? ⟨b, o, none⟩ := fun o => World.cell?_of_block (w := w) (HB2.out.block b hbl)
          obtain ⟨b2, off2, e2, -, hcell2⟩ := HR.out.at_ (by rw [HN.out]; omega) (by omega)
          simp only [Option.some.injEq, Addr.mk.injEq, and_true] at e2
          obtain ⟨rfl, rfl⟩ := e2
          have x3 : w2.cell? ⟨b, off + (k - 1) * 2, none⟩ = some (.int .i64 r0.1) := by rw [hblk]; exact hcell2 _ _ (refC_at hr0).1
          have HP1 := Lib.hid HP.out.1
          rw [hp0] at HP1
          have hw : IntKind.i64.wrap ((k : Int) - 1) = (k : Int) - 1 := IntWalk.i64_in _ (by omega)
          have hi0 : 0 ≤ (k : Int) - 1 := by omega
          have hi1 : (k : Int) - 1 < (n : Int) := by omega
          have hi2 : ((k : Int) - 1).toNat = k - 1 := by omega
          clear hblk hcell2 hr0 hp0 HP
          go_wp2_with fail
          by_cases hle : r.1 ≤ r0.1
          · have d2 : decide (r.1 ≤ r0.1) = true := decide_eq_true hle
            go_quiet (fail)
            change Exit.then _ _ _ _ (w2.drewN nq)
            have HB3 : Hid (Below w.heap.size w (w2.drewN nq)) := below_drewN HB2.out nq
            generalize w2.drewN nq = w3 at HB3 ⊢
            clear hc4 hs1 x3 hw hi2
            go_wp2_with fail
            go_ret
            exact ⟨by rw [HP1.out, if_pos hle]; rfl, HB3.out⟩
          · have d2 : decide (r.1 ≤ r0.1) = false := decide_eq_false hle
            go_quiet (fail)
            change Exit.then _ _ _ _ (w2.drewN nq)
            have HB3 : Hid (Below w.heap.size w (w2.drewN nq)) := below_drewN HB2.out nq
            generalize w2.drewN nq = w3 at HB3 ⊢
            clear hc4 hs1 x3 hw hi2
            go_wp2_with fail
            go_roundw
            case rel =>
              refine ⟨k + 1, hlt, by go_num, ⟨HB3.out, r.1, by rw [HP1.out, if_neg hle], fun e => by omega, fun j r' e h => ?_⟩⟩
              obtain rfl : j = k := by omega
              rw [HX.out] at h
              cases h
              rfl
            case measure => simp [intOf]; omega
    · have hkn : k = n := by omega
      obtain ⟨p, hp1, -, -⟩ := HI.out.2
      rw [List.drop_of_length_le (by rw [HN.out]; omega)] at hp1
      have HP : Hid (refsE 0 l = 0) := hp1
      have HBw := Lib.hid HI.out.1
      clear hp1
      go_wp2_with fail
      go_ret
      exact ⟨by rw [HP.out]; rfl, HBw.out⟩
theorem refRef_any (r : Rf) (w : World) : Calls Tryz.prog 43 #[refV r] w fun e w' => e = .returned (.bool (isRef r)) ∧ Below w.heap.size w w' := by
  obtain ⟨a, s⟩ := r
  simp only [refV, isRef]
  by_cases h1 : 1 ≤ a
  case neg =>
    have d1 : decide (1 ≤ a) = false := decide_eq_false h1
    have e0 : decide (1 ≤ a ∧ a ≤ 99) = false := decide_eq_false fun h => h1 h.1
    rw [e0]
    go_enter Tryz.func43, Tryz.ntmps43
    go_wp2_with fail
    go_ret
    exact ⟨rfl, (Below.refl _ w).alloc (Nat.le_refl _) _⟩
  have d1 : decide (1 ≤ a) = true := decide_eq_true h1
  by_cases h2 : a ≤ 99
  case neg =>
    have d2 : decide (a ≤ 99) = false := decide_eq_false h2
    have e0 : decide (1 ≤ a ∧ a ≤ 99) = false := decide_eq_false fun h => h2 h.2
    rw [e0]
    go_enter Tryz.func43, Tryz.ntmps43
    go_wp2_with fail
    go_ret
    exact ⟨rfl, (Below.refl _ w).alloc (Nat.le_refl _) _⟩
  have d2 : decide (a ≤ 99) = true := decide_eq_true h2
  have e0 : decide (1 ≤ a ∧ a ≤ 99) = true := decide_eq_true ⟨h1, h2⟩
  rw [e0]
  by_cases h3 : 1 ≤ s
  case neg =>
    have d3 : decide (1 ≤ s) = false := decide_eq_false h3
    have e1 : decide (1 ≤ s ∧ s ≤ 1000000) = false := decide_eq_false fun h => h3 h.1
    rw [e1]
    go_enter Tryz.func43, Tryz.ntmps43
    go_wp2_with fail
    go_ret
    exact ⟨rfl, (Below.refl _ w).alloc (Nat.le_refl _) _⟩
  have d3 : decide (1 ≤ s) = true := decide_eq_true h3
  have e1 : decide (1 ≤ s ∧ s ≤ 1000000) = decide (s ≤ 1000000) := by simp [h3]
  rw [e1]
  go_enter Tryz.func43, Tryz.ntmps43
  go_wp2_with fail
  go_ret
  exact ⟨rfl, (Below.refl _ w).alloc (Nat.le_refl _) _⟩
set_option maxHeartbeats 2000000 in
set_option maxRecDepth 20000 in
theorem refClock_any (l : List Rf) (D : Nat → Prop) (A : Option Addr) (c : Nat) (w : World) (hr : Reads D w 2 A l.length (refC l)) (hD : ∀ k, D k → k < w.heap.size) (hl : l.length ≤ 9223372036854775807) :
    Calls Tryz.prog 53 #[.slice A l.length c] w fun e w' => e = .returned (.int .i64 (refsE 0 l)) ∧ Below w.heap.size w w' := by
  have HR := Lib.hid hr
  have HD := Lib.hid hD
  clear hr hD
  obtain ⟨n, hn⟩ : ∃ n, l.length = n := ⟨_, rfl⟩
  have HN := Lib.hid hn
  rw [hn] at hl ⊢
  clear hn
  go_enter Tryz.func53, Tryz.ntmps53
  go_wp2_with fail
  go_loopw [3] (fun s7 wr => ∃ k : Nat, k ≤ n ∧ s7 = .int .i64 k ∧ Hid (Below w.heap.size w wr ∧ ∃ p : Int, refsE 0 l = refsE p (l.drop k) ∧ (k = 0 → p = 0) ∧ (∀ j r, k = j + 1 → l[j]? = some r → p = r.1)) ) (fun s7 _ => n - (intOf s7).toNat)
  case atStart => exact ⟨0, by omega, rfl, ⟨Below.refl _ _, 0, by simp, fun _ => rfl, fun j r h => by omega⟩⟩
  case round =>
    obtain ⟨k, hk, rfl, HI⟩ := hrel
    by_cases hlt : k < n
    · obtain ⟨b, off, rfl, hb, hcell⟩ := HR.out.at_ (by rw [HN.out]; omega) (by omega)
      obtain ⟨r, hr⟩ : ∃ r, l[k]? = some r := ⟨_, List.getElem?_eq_getElem (by rw [HN.out]; exact hlt)⟩
      have hbl := HD.out b hb
      have hblk : ∀ o, wr.cell? ⟨b, o, none⟩ = w.cell? ⟨b, o, none⟩ := fun o => World.cell?_of_block (w := w) (HI.out.1.block b hbl)
      obtain ⟨h1, h2⟩ := refC_at hr
      have x1 : wr.cell? ⟨b, off + k * 2, none⟩ = some (.int .i64 r.1) := by rw [hblk]; exact hcell _ _ h1
      have x2 : wr.cell? ⟨b, off + k * 2 + 1, none⟩ = some (.int .i64 r.2) := by rw [hblk]; exact hcell _ _ h2
      clear hblk hcell h1 h2
      have HX := Lib.hid hr
      clear hr
      go_wp2_with fail
      go_at_call 43
      refine (refRef_any r _).mono ?_
      rintro e w2 ⟨rfl, hb2⟩
      have HB2 : Hid (Below w.heap.size w w2) := HI.out.1.trans (hb2.mono HI.out.1.size)
      have y1 : w2.cell? ⟨b, off + k * 2, none⟩ = some (.int .i64 r.1) := by
        rw [World.cell?_of_block (w := wr) (hb2.block b (Nat.lt_of_lt_of_le hbl HI.out.1.size))]
        exact x1
      clear hb2 x1 x2
      obtain ⟨p, hp1, hp2, hp3⟩ := HI.out.2
      have hdr : l.drop k = r :: l.drop (k + 1) := by
        have hl : k < l.length := by rw [HN.out]; exact hlt
        have := HX.out
        rw [List.getElem?_eq_getElem hl] at this
        rw [List.drop_eq_getElem_cons hl, Option.some.inj this]
      have hre : refsE p (r :: l.drop (k + 1)) = if isRef r = false then 1 else if r.1 ≤ p then 5 else refsE r.1 (l.drop (k + 1)) := rfl
      rw [hdr, hre] at hp1
      clear hdr hre
      cases hir : isRef r with
      | false =>
        rw [hir, if_pos rfl] at hp1
        have HP := Lib.hid hp1
        clear hp1 hp2 hp3 hir
        go_wp2_with fail
        go_ret
        exact ⟨by rw [HP.out]; rfl, HB2.out⟩
      | true =>
        rw [hir, if_neg (by simp)] at hp1
        have hr1 : 1 ≤ r.1 := by
          simp only [isRef, Bool.and_eq_true, decide_eq_true_eq] at hir
          exact hir.1.1
        have HP := Lib.hid (And.intro hp1 (And.intro hp2 hp3))
        clear hp1 hp2 hp3 hir
        by_cases hk0 : k = 0
        · have hpz := HP.out.2.1 hk0
          have HE : Hid (refsE 0 l = refsE r.1 (l.drop (k + 1))) := by
            have := HP.out.1
            rw [hpz, if_neg (by omega)] at this
            exact this
          have d1 : decide (0 < (k : Int)) = false := decide_eq_false (by omega)
          have d1' : decide (0 < k) = false := decide_eq_false (by omega)
          clear hk0 hpz
          go_wp2_with fail
          go_quiet (fail)
          change Exit.then _ _ _ _ (w2.drewN nq)
          have HB3 : Hid (Below w.heap.size w (w2.drewN nq)) := below_drewN HB2.out nq
          generalize w2.drewN nq = w3 at HB3 ⊢
          clear y1
          go_wp2_with fail
          go_roundw
          case rel =>
            refine ⟨k + 1, hlt, by go_num, ⟨HB3.out, r.1, HE.out, fun e => by omega, fun j r' e h => ?_⟩⟩
            obtain rfl : j = k := by omega
            rw [HX.out] at h
            cases h
            rfl
          case measure => simp [intOf]; omega
        · have d1 : decide (0 < (k : Int)) = true := decide_eq_true (by omega)
          have d1' : decide (0 < k) = true := decide_eq_true (by omega)
          obtain ⟨r0, hr0⟩ : ∃ r, l[k - 1]? = some r := ⟨_, List.getElem?_eq_getElem (by rw [HN.out]; omega)⟩
          have hp0 := HP.out.2.2 (k - 1) r0 (by omega) hr0
          have hblk : ∀ o, w2.cell? ⟨b, o, none⟩ = w.cell? ⟨b, o, none⟩ := fun o => World.cell?_of_block (w := w) (HB2.out.block b hbl)
          obtain ⟨b2, off2, e2, -, hcell2⟩ := HR.out.at_ (by rw [HN.out]; omega) (by omega)
          simp only [Option.some.injEq, Addr.mk.injEq, and_true] at e2
          obtain ⟨rfl, rfl⟩ := e2
          have x3 : w2.cell? ⟨b, off + (k - 1) * 2, none⟩ = some (.int .i64 r0.1) := by rw [hblk]; exact hcell2 _ _ (refC_at hr0).1
          have HP1 := Lib.hid HP.out.1
          rw [hp0] at HP1
          have hw : IntKind.i64.wrap ((k : Int) - 1) = (k : Int) - 1 := IntWalk.i64_in _ (by omega)
          have hi0 : 0 ≤ (k : Int) - 1 := by omega
          have hi1 : (k : Int) - 1 < (n : Int) := by omega
          have hi2 : ((k : Int) - 1).toNat = k - 1 := by omega
          clear hblk hcell2 hr0 hp0 HP
          go_wp2_with fail
          by_cases hle : r.1 ≤ r0.1
          · have d2 : decide (r.1 ≤ r0.1) = true := decide_eq_true hle
            go_quiet (fail)
            change Exit.then _ _ _ _ (w2.drewN nq)
            have HB3 : Hid (Below w.heap.size w (w2.drewN nq)) := below_drewN HB2.out nq
            generalize w2.drewN nq = w3 at HB3 ⊢
            clear y1 x3 hw hi2
            go_wp2_with fail
            go_ret
            exact ⟨by rw [HP1.out, if_pos hle]; rfl, HB3.out⟩
          · have d2 : decide (r.1 ≤ r0.1) = false := decide_eq_false hle
            go_quiet (fail)
            change Exit.then _ _ _ _ (w2.drewN nq)
            have HB3 : Hid (Below w.heap.size w (w2.drewN nq)) := below_drewN HB2.out nq
            generalize w2.drewN nq = w3 at HB3 ⊢
            clear y1 x3 hw hi2
            go_wp2_with fail
            go_roundw
            case rel =>
              refine ⟨k + 1, hlt, by go_num, ⟨HB3.out, r.1, by rw [HP1.out, if_neg hle], fun e => by omega, fun j r' e h => ?_⟩⟩
              obtain rfl : j = k := by omega
              rw [HX.out] at h
              cases h
              rfl
            case measure => simp [intOf]; omega
    · have hkn : k = n := by omega
      obtain ⟨p, hp1, -, -⟩ := HI.out.2
      rw [List.drop_of_length_le (by rw [HN.out]; omega)] at hp1
      have HP : Hid (refsE 0 l = 0) := hp1
      have HBw := Lib.hid HI.out.1
      clear hp1
      go_wp2_with fail
      go_ret
      exact ⟨by rw [HP.out]; rfl, HBw.out⟩

end Go.Proofs.YtclgfcjcpbiadaaGreatDoor
