/- Contracts: an id's name, as the program and the document write it. -/
import Derived.Test.YtfaihilehdjfjaaGreatDoorShowN
import Derived.Lib.SmallJoins
namespace Go.Proofs.YtfaihilehdjfjaaGreatDoor
open Go.ChangeShapes Go.WideShapes Go.ChangeAt Go.RowKit

/-- an id's name -/
def nameS (a b : Int) : ByteArray := if rootB a b then ⟨#[114, 111, 111, 116]⟩ else itoaS a ++ ⟨#[64]⟩ ++ itoaS b
theorem pow_named : (Tryz.prog.globalNamed "internal/strconv.uint64pow10").isSome = true := by kernel_rfl
theorem PowT.keep {w w' : World} (h : PowT w) (hb : Below w.heap.size w w') : PowT w' :=
  (Option.isSome_iff_exists.1 pow_named).elim fun _ hg => Go.Joins.tab_stays hg h hb (Nat.le_refl _)
theorem nameS_size {a b : Int} (ha : I64 a) (hb : I64 b) : (nameS a b).size ≤ 64 := by
  have h1 := itoaS_size ha
  have h2 := itoaS_size hb
  unfold nameS
  split
  · show 4 ≤ 64; omega
  · rw [ByteArray.size_append', ByteArray.size_append']
    show (itoaS a).size + 1 + (itoaS b).size ≤ 64
    omega
theorem ret_str {a b : ByteArray} (h : a = b) : Ending.returned (.string a) = .returned (.string b) := by rw [h]
set_option maxHeartbeats 2000000 in
set_option maxRecDepth 20000 in
theorem refName_any (a b : Int) (ha : I64 a) (hb : I64 b) (w : World) :
    Calls Tryz.prog 6 #[.agg #[.int .i64 a, .int .i64 b]] w fun e w' => e = .returned (.string (nameS a b)) ∧ Below w.heap.size w w' := by
  have R1 := refRoot_any a b
  have DA := digits_any a ha
  have DB := digits_any b hb
  have hlt : w.heap.size < (w.alloc (.cells #[.int .i64 a, .int .i64 b] 23)).heap.size := by simp
  cases hz : rootB a b with
  | true =>
    rw [hz] at R1
    have HV : Hid (nameS a b = ⟨#[114, 111, 111, 116]⟩) := by show nameS a b = _; simp [nameS, hz]
    clear DA DB hz ha hb
    go_enter Tryz.func6, Tryz.ntmps6
    go_wp2_with fail
    go_at_call 13
    refine (R1 _).mono ?_
    rintro e w1 ⟨rfl, hb⟩
    go_wp2_with fail
    go_ret
    exact ⟨ret_str HV.out.symm, ((Below.refl _ w).alloc (Nat.le_refl _) _).trans (hb.mono (by simp))⟩
  | false =>
    rw [hz] at R1
    have HV : Hid (nameS a b = itoaS a ++ ⟨#[64]⟩ ++ itoaS b) := by show nameS a b = _; simp [nameS, hz]
    have hSz := itoaS_size ha
    have hTz := itoaS_size hb
    have q1 : (9223372036854775807 < (itoaS a).size + 1) = False := eq_false (by omega)
    have q2 : (9223372036854775807 < (itoaS a).size + 1 + (itoaS b).size) = False := eq_false (by omega)
    have q3 : (9223372036854775807 ≤ (itoaS a).size) = False := eq_false (by omega)
    clear hz ha hb hSz hTz
    generalize itoaS a = S at *
    generalize itoaS b = T at *
    go_enter Tryz.func6, Tryz.ntmps6
    go_wp2_with fail
    go_at_call 13
    refine (R1 _).mono ?_
    rintro e w1 ⟨rfl, hb⟩
    have bk1 := (Blk.new w 23 #[.int .i64 a, .int .i64 b]).keep (hb.block _ hlt)
    have hB : Below w.heap.size w w1 := ((Below.refl _ w).alloc (Nat.le_refl _) _).trans (hb.mono (by simp))
    have hg : w.heap.size < w1.heap.size := Nat.lt_of_lt_of_le hlt hb.size
    have c0 : w1.cell? ⟨w.heap.size, 0, none⟩ = some (.int .i64 a) := bk1.cell 0
    have c1 : w1.cell? ⟨w.heap.size, 1, none⟩ = some (.int .i64 b) := bk1.cell 1
    clear bk1 hb
    go_wp2_with fail
    go_region_held3 (fun w' => w'.cell? ⟨w.heap.size, 0, none⟩ = some (.int .i64 a) ∧ w'.cell? ⟨w.heap.size, 1, none⟩ = some (.int .i64 b) ∧ w.heap.size < w'.heap.size ∧ Below w.heap.size w w')
      (first | exact ⟨c0, c1, hg, hB.drew⟩ | exact ⟨c0, c1, hg, hB⟩ | go_keep)
      (first | (go_at_call 16; refine (DA _).mono ?_; rintro e w3 ⟨rfl, hb3⟩; have c0 : w3.cell? ⟨w.heap.size, 0, none⟩ = some (.int .i64 a) := (hb3.cell (by exact hg)).trans c0; have c1 : w3.cell? ⟨w.heap.size, 1, none⟩ = some (.int .i64 b) := (hb3.cell (by exact hg)).trans c1; have hB : Below w.heap.size w w3 := (by first | exact hB.trans (hb3.mono (Nat.le_of_lt hg)) | exact hB.drew.trans (hb3.mono (Nat.le_of_lt hg))); have hg : w.heap.size < w3.heap.size := Nat.lt_of_lt_of_le (by exact hg) hb3.size) | (go_at_call 16; refine (DB _).mono ?_; rintro e w4 ⟨rfl, hb4⟩; have c0 : w4.cell? ⟨w.heap.size, 0, none⟩ = some (.int .i64 a) := (hb4.cell (by exact hg)).trans c0; have c1 : w4.cell? ⟨w.heap.size, 1, none⟩ = some (.int .i64 b) := (hb4.cell (by exact hg)).trans c1; have hB : Below w.heap.size w w4 := (by first | exact hB.trans (hb4.mono (Nat.le_of_lt hg)) | exact hB.drew.trans (hb4.mono (Nat.le_of_lt hg))); have hg : w.heap.size < w4.heap.size := Nat.lt_of_lt_of_le (by exact hg) hb4.size))
    all_goals
      go_wp2_with fail
      go_ret
      exact ⟨ret_str HV.out.symm, hB⟩
set_option maxHeartbeats 2000000 in
set_option maxRecDepth 20000 in
theorem name_any (a b : Int) (ha : I64 a) (hb : I64 b) (w : World) (hT : PowT w) :
    Calls Tryz.prog 5 #[.agg #[.int .i64 a, .int .i64 b]] w fun e w' => e = .returned (.string (nameS a b)) ∧ Below w.heap.size w w' := by
  have DA := itoa_any a ha
  have DB := itoa_any b hb
  have hlt : w.heap.size < (w.alloc (.cells #[.int .i64 a, .int .i64 b] 23)).heap.size := by simp
  cases hz : rootB a b with
  | true =>
    have HV : Hid (nameS a b = ⟨#[114, 111, 111, 116]⟩) := by show nameS a b = _; simp [nameS, hz]
    obtain ⟨rfl, rfl⟩ : a = 0 ∧ b = 0 := by simpa [rootB] using hz
    clear DA DB hz ha hb
    go_enter Tryz.func5, Tryz.ntmps5
    go_wp2_with fail
    go_ret
    exact ⟨ret_str HV.out.symm, (Below.refl _ w).alloc (Nat.le_refl _) _⟩
  | false =>
    have HV : Hid (nameS a b = itoaS a ++ ⟨#[64]⟩ ++ itoaS b) := by show nameS a b = _; simp [nameS, hz]
    have hSz := itoaS_size ha
    have hTz := itoaS_size hb
    have q1 : (9223372036854775807 < (itoaS a).size + 1) = False := eq_false (by omega)
    have q2 : (9223372036854775807 < (itoaS a).size + 1 + (itoaS b).size) = False := eq_false (by omega)
    have q3 : (9223372036854775807 ≤ (itoaS a).size) = False := eq_false (by omega)
    have hz' : ¬ (a = 0 ∧ b = 0) := by
      rintro ⟨rfl, rfl⟩
      simp [rootB] at hz
    clear hz ha hb hSz hTz
    generalize itoaS a = S at *
    generalize itoaS b = T at *
    have hB : Below w.heap.size w (w.alloc (.cells #[.int .i64 a, .int .i64 b] 23)) := (Below.refl _ w).alloc (Nat.le_refl _) _
    have hP := hT.keep hB
    have bk1 := (Blk.new w 23 #[.int .i64 a, .int .i64 b])
    clear hT
    by_cases h1 : a = 0
    case' pos =>
      subst h1
      have h2 : ¬ b = 0 := fun h => hz' ⟨rfl, h⟩
      have c0 : (w.alloc (.cells #[.int .i64 0, .int .i64 b] 23)).cell? ⟨w.heap.size, 0, none⟩ = some (.int .i64 0) := bk1.cell 0
      have c1 : (w.alloc (.cells #[.int .i64 0, .int .i64 b] 23)).cell? ⟨w.heap.size, 1, none⟩ = some (.int .i64 b) := bk1.cell 1
      clear hz' bk1
    case' neg =>
      have c0 : (w.alloc (.cells #[.int .i64 a, .int .i64 b] 23)).cell? ⟨w.heap.size, 0, none⟩ = some (.int .i64 a) := bk1.cell 0
      have c1 : (w.alloc (.cells #[.int .i64 a, .int .i64 b] 23)).cell? ⟨w.heap.size, 1, none⟩ = some (.int .i64 b) := bk1.cell 1
      clear hz' bk1
    case pos =>
      go_enter Tryz.func5, Tryz.ntmps5
      go_wp2_with fail
      have hg := hlt
      go_region_held3 (fun w' => w'.cell? ⟨w.heap.size, 0, none⟩ = some (.int .i64 0) ∧ w'.cell? ⟨w.heap.size, 1, none⟩ = some (.int .i64 b) ∧ w.heap.size < w'.heap.size ∧ Below w.heap.size w w' ∧ PowT w')
        (first | exact ⟨c0, c1, hg, hB.drew, hP⟩ | exact ⟨c0, c1, hg, hB, hP⟩ | go_keep)
        (first | (go_at_call 15; refine (DA _ (by exact hP)).mono ?_; rintro e w3 ⟨rfl, hb3⟩; have c0 : w3.cell? ⟨w.heap.size, 0, none⟩ = some (.int .i64 0) := (hb3.cell (by exact hg)).trans c0; have c1 : w3.cell? ⟨w.heap.size, 1, none⟩ = some (.int .i64 b) := (hb3.cell (by exact hg)).trans c1; have hP : PowT w3 := PowT.keep (by exact hP) hb3; have hB : Below w.heap.size w w3 := (by first | exact hB.trans (hb3.mono (Nat.le_of_lt hg)) | exact hB.drew.trans (hb3.mono (Nat.le_of_lt hg))); have hg : w.heap.size < w3.heap.size := Nat.lt_of_lt_of_le (by exact hg) hb3.size) | (go_at_call 15; refine (DB _ (by exact hP)).mono ?_; rintro e w4 ⟨rfl, hb4⟩; have c0 : w4.cell? ⟨w.heap.size, 0, none⟩ = some (.int .i64 0) := (hb4.cell (by exact hg)).trans c0; have c1 : w4.cell? ⟨w.heap.size, 1, none⟩ = some (.int .i64 b) := (hb4.cell (by exact hg)).trans c1; have hP : PowT w4 := PowT.keep (by exact hP) hb4; have hB : Below w.heap.size w w4 := (by first | exact hB.trans (hb4.mono (Nat.le_of_lt hg)) | exact hB.drew.trans (hb4.mono (Nat.le_of_lt hg))); have hg : w.heap.size < w4.heap.size := Nat.lt_of_lt_of_le (by exact hg) hb4.size))
      all_goals
        go_wp2_with fail
        go_ret
        exact ⟨ret_str HV.out.symm, hB⟩
    case neg =>
      go_enter Tryz.func5, Tryz.ntmps5
      go_wp2_with fail
      have hg := hlt
      go_region_held3 (fun w' => w'.cell? ⟨w.heap.size, 0, none⟩ = some (.int .i64 a) ∧ w'.cell? ⟨w.heap.size, 1, none⟩ = some (.int .i64 b) ∧ w.heap.size < w'.heap.size ∧ Below w.heap.size w w' ∧ PowT w')
        (first | exact ⟨c0, c1, hg, hB.drew, hP⟩ | exact ⟨c0, c1, hg, hB, hP⟩ | go_keep)
        (first | (go_at_call 15; refine (DA _ (by exact hP)).mono ?_; rintro e w3 ⟨rfl, hb3⟩; have c0 : w3.cell? ⟨w.heap.size, 0, none⟩ = some (.int .i64 a) := (hb3.cell (by exact hg)).trans c0; have c1 : w3.cell? ⟨w.heap.size, 1, none⟩ = some (.int .i64 b) := (hb3.cell (by exact hg)).trans c1; have hP : PowT w3 := PowT.keep (by exact hP) hb3; have hB : Below w.heap.size w w3 := (by first | exact hB.trans (hb3.mono (Nat.le_of_lt hg)) | exact hB.drew.trans (hb3.mono (Nat.le_of_lt hg))); have hg : w.heap.size < w3.heap.size := Nat.lt_of_lt_of_le (by exact hg) hb3.size) | (go_at_call 15; refine (DB _ (by exact hP)).mono ?_; rintro e w4 ⟨rfl, hb4⟩; have c0 : w4.cell? ⟨w.heap.size, 0, none⟩ = some (.int .i64 a) := (hb4.cell (by exact hg)).trans c0; have c1 : w4.cell? ⟨w.heap.size, 1, none⟩ = some (.int .i64 b) := (hb4.cell (by exact hg)).trans c1; have hP : PowT w4 := PowT.keep (by exact hP) hb4; have hB : Below w.heap.size w w4 := (by first | exact hB.trans (hb4.mono (Nat.le_of_lt hg)) | exact hB.drew.trans (hb4.mono (Nat.le_of_lt hg))); have hg : w.heap.size < w4.heap.size := Nat.lt_of_lt_of_le (by exact hg) hb4.size))
      all_goals
        go_wp2_with fail
        go_ret
        exact ⟨ret_str HV.out.symm, hB⟩
end Go.Proofs.YtfaihilehdjfjaaGreatDoor
