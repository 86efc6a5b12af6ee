/- Contracts of the program's books: two changes compared. -/
import Derived.Test.YtclgfcjcpbiadaaGreatDoorDag4
set_option linter.unusedVariables false
set_option linter.unusedSimpArgs false
namespace Go.Proofs.YtclgfcjcpbiadaaGreatDoor
open Go.ChangeShapes Go.WideShapes Go.ChangeAt Go.RowKit

set_option maxRecDepth 100000 in
theorem eq_id9 (a b c d : Int) (w : World) : (Op.equalIn 9999 82 (.agg #[.int .i64 a, .int .i64 b]) (.agg #[.int .i64 c, .int .i64 d])).run Tryz.prog w = .ok (a == c && b == d) w := by
  have hS : Tryz.prog.underlying 82 = some (.struct (Tryz.prog.fieldsOf 82)) := by kernel_rfl
  have hp : Tryz.prog.stoodInHeld 82 = false := by kernel_rfl
  rw [show (9999 : Nat) = 9998 + 1 from rfl, run_equalIn_agg w 9998 82 _ _ hS hp]
  simp only [Program.fieldsOf, Tryz.underlying82]
  go_simp
  by_cases h1 : a = c <;> by_cases h2 : b = d <;> simp [h1, h2]
set_option maxRecDepth 100000 in
theorem eq_val (a b : Int) (t : ByteArray) (c d a' b' : Int) (t' : ByteArray) (c' d' : Int) (w : World) :
    (Op.equalIn 10000 84 (.agg #[.int .i64 a, .int .i64 b, .string t, .int .i64 c, .int .i64 d]) (.agg #[.int .i64 a', .int .i64 b', .string t', .int .i64 c', .int .i64 d'])).run Tryz.prog w = .ok (a == a' && (b == b' && (t.toList == t'.toList && (c == c' && d == d')))) w := by
  have hS : Tryz.prog.underlying 84 = some (.struct (Tryz.prog.fieldsOf 84)) := by kernel_rfl
  have hp : Tryz.prog.stoodInHeld 84 = false := by kernel_rfl
  have hI : ∀ (x y : Int) (w : World), (Op.equalIn 9999 3 (.int .i64 x) (.int .i64 y)).run Tryz.prog w = .ok (x == y) w := fun x y w => run_equalIn_int w 9998 3 .i64 .i64 x y Tryz.underlying3
  have hT : ∀ (x y : ByteArray) (w : World), (Op.equalIn 9999 9 (.string x) (.string y)).run Tryz.prog w = .ok (x.toList == y.toList) w := fun x y w => run_equalIn_string w 9998 9 x y Tryz.underlying9
  have hD := eq_id9
  rw [show (10000 : Nat) = 9999 + 1 from rfl, run_equalIn_agg w 9999 84 _ _ hS hp]
  simp only [Program.fieldsOf, Tryz.underlying84, Op.eqFields]
  generalize Op.equalIn 9999 = EQ at hI hT hD ⊢
  go_simp
  by_cases h1 : a = a' <;> by_cases h2 : b = b' <;> by_cases h3 : t.toList = t'.toList <;> by_cases h4 : c = c' <;> by_cases h5 : d = d' <;> simp [h1, h2, h3, h4, h5]
def idE (a b c d : Int) : Bool := a == c && b == d
def valE (x y : OpD) : Bool := x.vk == y.vk && (x.vn == y.vn && (x.vt.toList == y.vt.toList && (x.va == y.va && x.vb == y.vb)))
def sameO (x y : OpD) : Bool := (x.k == y.k) && (idE x.on x.oa y.on y.oa && ((x.key.toList == y.key.toList) && (idE x.en x.ea y.en y.ea && ((x.ins == y.ins) && (valE x y && decide (x.l = y.l))))))
def opV (x : OpD) : Value := .agg #[.int .i64 x.k, .int .i64 x.on, .int .i64 x.oa, .string x.key, .int .i64 x.en, .int .i64 x.ea, .bool x.ins, .int .i64 x.vk, .int .i64 x.vn, .string x.vt, .int .i64 x.va, .int .i64 x.vb, .slice x.A x.l.length x.c]
set_option maxHeartbeats 4000000 in
set_option maxRecDepth 20000 in
theorem same1_any (x y : OpD) (w : World) (hx : Reads (fun k => k < w.heap.size) w 2 x.A x.l.length (refC x.l)) (hy : Reads (fun k => k < w.heap.size) w 2 y.A y.l.length (refC y.l)) (hxl : x.l.length ≤ 9223372036854775807) (hyl : y.l.length ≤ 9223372036854775807) :
    Calls Tryz.prog 61 #[opV x, opV y] w fun e w' => e = .returned (.bool (sameO x y)) ∧ Below w.heap.size w w' := by
  have hW1 : Below w.heap.size w (w.alloc (.cells #[.int .i64 x.k, .int .i64 x.on, .int .i64 x.oa, .string x.key, .int .i64 x.en, .int .i64 x.ea, .bool x.ins, .int .i64 x.vk, .int .i64 x.vn, .string x.vt, .int .i64 x.va, .int .i64 x.vb, .slice x.A x.l.length x.c] 87)) := (Below.refl _ w).alloc (Nat.le_refl _) _
  have hQ1 := Blk.new w 87 #[.int .i64 x.k, .int .i64 x.on, .int .i64 x.oa, .string x.key, .int .i64 x.en, .int .i64 x.ea, .bool x.ins, .int .i64 x.vk, .int .i64 x.vn, .string x.vt, .int .i64 x.va, .int .i64 x.vb, .slice x.A x.l.length x.c]
  have hs1 : (w.alloc (.cells #[.int .i64 x.k, .int .i64 x.on, .int .i64 x.oa, .string x.key, .int .i64 x.en, .int .i64 x.ea, .bool x.ins, .int .i64 x.vk, .int .i64 x.vn, .string x.vt, .int .i64 x.va, .int .i64 x.vb, .slice x.A x.l.length x.c] 87)).heap.size = w.heap.size + 1 := by simp
  have E1 := fun w => eq_id x.on x.oa y.on y.oa w
  have E2 := fun w => eq_id x.en x.ea y.en y.ea w
  have E3 := fun w => eq_val x.vk x.vn x.vt x.va x.vb y.vk y.vn y.vt y.va y.vb w
  obtain ⟨b1, e1⟩ : ∃ b, (x.k == y.k) = b := ⟨_, rfl⟩
  obtain ⟨b2, e2⟩ : ∃ b, idE x.on x.oa y.on y.oa = b := ⟨_, rfl⟩
  obtain ⟨b3, e3⟩ : ∃ b, (x.key.toList == y.key.toList) = b := ⟨_, rfl⟩
  obtain ⟨b4, e4⟩ : ∃ b, idE x.en x.ea y.en y.ea = b := ⟨_, rfl⟩
  obtain ⟨b5, e5⟩ : ∃ b, (x.ins == y.ins) = b := ⟨_, rfl⟩
  obtain ⟨b6, e6⟩ : ∃ b, valE x y = b := ⟨_, rfl⟩
  obtain ⟨b7, e7⟩ : ∃ b, decide (x.l = y.l) = b := ⟨_, rfl⟩
  unfold sameO
  rw [e1, e2, e3, e4, e5, e6, e7]
  unfold idE at e2 e4
  unfold valE at e6
  rw [e2] at E1
  rw [e4] at E2
  rw [e6] at E3
  clear e2 e4 e6
  unfold opV
  go_enter Tryz.func61, Tryz.ntmps61
  go_upto_region 1 with fail
  generalize w.alloc (.cells #[.int .i64 x.k, .int .i64 x.on, .int .i64 x.oa, .string x.key, .int .i64 x.en, .int .i64 x.ea, .bool x.ins, .int .i64 x.vk, .int .i64 x.vn, .string x.vt, .int .i64 x.va, .int .i64 x.vb, .slice x.A x.l.length x.c] 87) = V1 at *
  have hQ2 := hQ1.keep (w' := V1.alloc (.cells #[.int .i64 y.k, .int .i64 y.on, .int .i64 y.oa, .string y.key, .int .i64 y.en, .int .i64 y.ea, .bool y.ins, .int .i64 y.vk, .int .i64 y.vn, .string y.vt, .int .i64 y.va, .int .i64 y.vb, .slice y.A y.l.length y.c] 87)) (((Below.refl _ V1).alloc (Nat.le_refl _) _).block _ hQ1.lt)
  have hQ3 : Blk (V1.alloc (.cells #[.int .i64 y.k, .int .i64 y.on, .int .i64 y.oa, .string y.key, .int .i64 y.en, .int .i64 y.ea, .bool y.ins, .int .i64 y.vk, .int .i64 y.vn, .string y.vt, .int .i64 y.va, .int .i64 y.vb, .slice y.A y.l.length y.c] 87)) (w.heap.size + 1) 87 #[.int .i64 y.k, .int .i64 y.on, .int .i64 y.oa, .string y.key, .int .i64 y.en, .int .i64 y.ea, .bool y.ins, .int .i64 y.vk, .int .i64 y.vn, .string y.vt, .int .i64 y.va, .int .i64 y.vb, .slice y.A y.l.length y.c] := by rw [← hs1]; exact Blk.new V1 _ _
  have HW : Hid (Below w.heap.size w (V1.alloc (.cells #[.int .i64 y.k, .int .i64 y.on, .int .i64 y.oa, .string y.key, .int .i64 y.en, .int .i64 y.ea, .bool y.ins, .int .i64 y.vk, .int .i64 y.vn, .string y.vt, .int .i64 y.va, .int .i64 y.vb, .slice y.A y.l.length y.c] 87))) := hW1.alloc hW1.size _
  generalize V1.alloc (.cells #[.int .i64 y.k, .int .i64 y.on, .int .i64 y.oa, .string y.key, .int .i64 y.en, .int .i64 y.ea, .bool y.ins, .int .i64 y.vk, .int .i64 y.vn, .string y.vt, .int .i64 y.va, .int .i64 y.vb, .slice y.A y.l.length y.c] 87) = V at hQ2 hQ3 HW ⊢
  have x0 : V.cell? ⟨w.heap.size, 0, none⟩ = some (.int .i64 x.k) := hQ2.cell 0
  have x1 : V.cell? ⟨w.heap.size, 1, none⟩ = some (.int .i64 x.on) := hQ2.cell 1
  have x2 : V.cell? ⟨w.heap.size, 2, none⟩ = some (.int .i64 x.oa) := hQ2.cell 2
  have x3 : V.cell? ⟨w.heap.size, 3, none⟩ = some (.string x.key) := hQ2.cell 3
  have x4 : V.cell? ⟨w.heap.size, 4, none⟩ = some (.int .i64 x.en) := hQ2.cell 4
  have x5 : V.cell? ⟨w.heap.size, 5, none⟩ = some (.int .i64 x.ea) := hQ2.cell 5
  have x6 : V.cell? ⟨w.heap.size, 6, none⟩ = some (.bool x.ins) := hQ2.cell 6
  have x7 : V.cell? ⟨w.heap.size, 7, none⟩ = some (.int .i64 x.vk) := hQ2.cell 7
  have x8 : V.cell? ⟨w.heap.size, 8, none⟩ = some (.int .i64 x.vn) := hQ2.cell 8
  have x9 : V.cell? ⟨w.heap.size, 9, none⟩ = some (.string x.vt) := hQ2.cell 9
  have x10 : V.cell? ⟨w.heap.size, 10, none⟩ = some (.int .i64 x.va) := hQ2.cell 10
  have x11 : V.cell? ⟨w.heap.size, 11, none⟩ = some (.int .i64 x.vb) := hQ2.cell 11
  have x12 : V.cell? ⟨w.heap.size, 12, none⟩ = some (.slice x.A x.l.length x.c) := hQ2.cell 12
  have y0 : V.cell? ⟨w.heap.size + 1, 0, none⟩ = some (.int .i64 y.k) := hQ3.cell 0
  have y1 : V.cell? ⟨w.heap.size + 1, 1, none⟩ = some (.int .i64 y.on) := hQ3.cell 1
  have y2 : V.cell? ⟨w.heap.size + 1, 2, none⟩ = some (.int .i64 y.oa) := hQ3.cell 2
  have y3 : V.cell? ⟨w.heap.size + 1, 3, none⟩ = some (.string y.key) := hQ3.cell 3
  have y4 : V.cell? ⟨w.heap.size + 1, 4, none⟩ = some (.int .i64 y.en) := hQ3.cell 4
  have y5 : V.cell? ⟨w.heap.size + 1, 5, none⟩ = some (.int .i64 y.ea) := hQ3.cell 5
  have y6 : V.cell? ⟨w.heap.size + 1, 6, none⟩ = some (.bool y.ins) := hQ3.cell 6
  have y7 : V.cell? ⟨w.heap.size + 1, 7, none⟩ = some (.int .i64 y.vk) := hQ3.cell 7
  have y8 : V.cell? ⟨w.heap.size + 1, 8, none⟩ = some (.int .i64 y.vn) := hQ3.cell 8
  have y9 : V.cell? ⟨w.heap.size + 1, 9, none⟩ = some (.string y.vt) := hQ3.cell 9
  have y10 : V.cell? ⟨w.heap.size + 1, 10, none⟩ = some (.int .i64 y.va) := hQ3.cell 10
  have y11 : V.cell? ⟨w.heap.size + 1, 11, none⟩ = some (.int .i64 y.vb) := hQ3.cell 11
  have y12 : V.cell? ⟨w.heap.size + 1, 12, none⟩ = some (.slice y.A y.l.length y.c) := hQ3.cell 12
  have C1 := equalI_any x.l y.l x.A y.A x.c y.c V (reads_below hx HW.out) (reads_below hy HW.out) hxl hyl
  rw [e7] at C1
  clear hW1 hQ1 hs1 hQ2 hQ3 hx hy e7
  cases b1 with
  | false => (go_wp2_with fail; go_ret; exact ⟨rfl, HW.out⟩)
  | true =>
    cases b2 with
    | false => (go_wp2_with fail; go_ret; exact ⟨rfl, HW.out⟩)
    | true =>
      cases b3 with
      | false => (go_wp2_with fail; go_ret; exact ⟨rfl, HW.out⟩)
      | true =>
        cases b4 with
        | false => (go_wp2_with fail; go_ret; exact ⟨rfl, HW.out⟩)
        | true =>
          cases b5 with
          | false => (go_wp2_with fail; go_ret; exact ⟨rfl, HW.out⟩)
          | true =>
            cases b6 with
            | false => (go_wp2_with fail; go_ret; exact ⟨rfl, HW.out⟩)
            | true =>
              go_wp2_with fail
              go_at_call 62
              refine C1.mono ?_
              rintro e w2 ⟨rfl, hb⟩
              replace HW : Hid (Below w.heap.size w w2) := HW.out.trans (hb.mono HW.out.size)
              go_wp2_with fail
              go_ret
              exact ⟨rfl, HW.out⟩
end Go.Proofs.YtclgfcjcpbiadaaGreatDoor
