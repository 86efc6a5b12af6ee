/- Contracts of the program's books: two rows of ops compared; two changes compared. -/
import Derived.Test.YtclgfcjcpbiadaaGreatDoorDag5
set_option linter.unusedVariables false
set_option linter.unusedSimpArgs false
namespace Go.Proofs.YtclgfcjcpbiadaaGreatDoor
open Go.ChangeShapes Go.WideShapes Go.ChangeAt Go.RowKit

def sameOs : List OpD → List OpD → Bool
  | [], [] => true
  | x :: l, y :: m => sameO x y && sameOs l m
  | _, _ => false
theorem sameOs_len : ∀ {l m : List OpD}, l.length ≠ m.length → sameOs l m = false
  | [], [], h => absurd rfl h
  | [], _ :: _, _ => rfl
  | _ :: _, [], _ => rfl
  | x :: l, y :: m, h => by
    have := sameOs_len (l := l) (m := m) (by simpa using h)
    simp [sameOs, this]
theorem sameOs_step {l m : List OpD} {i : Nat} {x y : OpD} (hx : l[i]? = some x) (hy : m[i]? = some y) : sameOs (l.drop i) (m.drop i) = (sameO x y && sameOs (l.drop (i + 1)) (m.drop (i + 1))) := by
  obtain ⟨h1, e1⟩ := List.getElem?_eq_some_iff.1 hx
  obtain ⟨h2, e2⟩ := List.getElem?_eq_some_iff.1 hy
  rw [List.drop_eq_getElem_cons h1, List.drop_eq_getElem_cons h2, e1, e2]
  rfl
set_option maxHeartbeats 4000000 in
set_option maxRecDepth 20000 in
theorem equalFn_any (l l2 : List OpD) (A A2 : Option Addr) (c c2 : Nat) (w : World) (hr : Reads (fun k => k < w.heap.size) w 13 A l.length (opsC l)) (hr2 : Reads (fun k => k < w.heap.size) w 13 A2 l2.length (opsC l2))
    (hl : l.length ≤ 9223372036854775807) (hl2 : l2.length ≤ 9223372036854775807) (hp : ∀ o ∈ l, Reads (fun k => k < w.heap.size) w 2 o.A o.l.length (refC o.l) ∧ o.l.length ≤ 9223372036854775807) (hp2 : ∀ o ∈ l2, Reads (fun k => k < w.heap.size) w 2 o.A o.l.length (refC o.l) ∧ o.l.length ≤ 9223372036854775807) :
    Calls Tryz.prog 60 #[.slice A l.length c, .slice A2 l2.length c2, .func (.func 61) #[] #[]] w fun e w' => e = .returned (.bool (sameOs l l2)) ∧ Below w.heap.size w w' := by
  have eg : ∀ args w, (callFunc 61 args).run Tryz.prog w = .ok (.enter 61 args) w := enters_of Tryz.func61 (by kernel_rfl) (Option.some_get (show Tryz.f61.body.isSome = true by kernel_rfl)).symm
  obtain ⟨n, hn⟩ : ∃ n, l.length = n := ⟨_, rfl⟩
  obtain ⟨n2, hn2⟩ : ∃ n2, l2.length = n2 := ⟨_, rfl⟩
  have HN := Lib.hid hn
  have HN2 := Lib.hid hn2
  have HR := Lib.hid hr
  have HR2 := Lib.hid hr2
  have HP := Lib.hid hp
  have HP2 := Lib.hid hp2
  rw [hn] at hl
  rw [hn2] at hl2
  rw [hn, hn2]
  clear hr hr2 hp hp2
  by_cases hnn : n = n2
  · subst hnn
    clear hn hn2
    go_enter Tryz.func60, Tryz.ntmps60
    go_wp2_with fail
    go_loopw [7, 8, 9, 17] (fun _ _ _ s17 wr => ∃ k : Nat, s17 = .int .i64 k ∧ k ≤ n ∧ Hid (sameOs l l2 = sameOs (l.drop k) (l2.drop k)) ∧ Hid (Below w.heap.size w wr)) (fun _ _ _ s17 _ => n - (intOf s17).toNat)
    case atStart => exact ⟨0, rfl, by omega, rfl, Below.refl _ _⟩
    case round =>
      obtain ⟨k, rfl, hk, HI, HW⟩ := hrel
      by_cases hlt : k < n
      · obtain ⟨b1, o1, rfl, -, hc1⟩ := (reads_below HR.out HW.out).at_ (by rw [HN.out]; omega) (by omega)
        obtain ⟨x, hx⟩ : ∃ x, l[k]? = some x := ⟨_, List.getElem?_eq_getElem (by rw [HN.out]; exact hlt)⟩
        obtain ⟨y, hy⟩ : ∃ y, l2[k]? = some y := ⟨_, List.getElem?_eq_getElem (by rw [HN2.out]; exact hlt)⟩
        have HPX := Lib.hid (HP.out x (List.mem_of_getElem? hx))
        have HPY := Lib.hid (HP2.out y (List.mem_of_getElem? hy))
        have HS := Lib.hid (sameOs_step hx hy)
        have HY := Lib.hid hy
        have x0 : wr.cell? ⟨b1, o1 + k * 13, none⟩ = some (.int .i64 x.k) := hc1 _ _ ((opsC_at hx 0 (by omega)).trans rfl)
        have x1 : wr.cell? ⟨b1, o1 + k * 13 + 1, none⟩ = some (.int .i64 x.on) := hc1 _ _ ((opsC_at hx 1 (by omega)).trans rfl)
        have x2 : wr.cell? ⟨b1, o1 + k * 13 + 2, none⟩ = some (.int .i64 x.oa) := hc1 _ _ ((opsC_at hx 2 (by omega)).trans rfl)
        have x3 : wr.cell? ⟨b1, o1 + k * 13 + 3, none⟩ = some (.string x.key) := hc1 _ _ ((opsC_at hx 3 (by omega)).trans rfl)
        have x4 : wr.cell? ⟨b1, o1 + k * 13 + 4, none⟩ = some (.int .i64 x.en) := hc1 _ _ ((opsC_at hx 4 (by omega)).trans rfl)
        have x5 : wr.cell? ⟨b1, o1 + k * 13 + 5, none⟩ = some (.int .i64 x.ea) := hc1 _ _ ((opsC_at hx 5 (by omega)).trans rfl)
        have x6 : wr.cell? ⟨b1, o1 + k * 13 + 6, none⟩ = some (.bool x.ins) := hc1 _ _ ((opsC_at hx 6 (by omega)).trans rfl)
        have x7 : wr.cell? ⟨b1, o1 + k * 13 + 7, none⟩ = some (.int .i64 x.vk) := hc1 _ _ ((opsC_at hx 7 (by omega)).trans rfl)
        have x8 : wr.cell? ⟨b1, o1 + k * 13 + 8, none⟩ = some (.int .i64 x.vn) := hc1 _ _ ((opsC_at hx 8 (by omega)).trans rfl)
        have x9 : wr.cell? ⟨b1, o1 + k * 13 + 9, none⟩ = some (.string x.vt) := hc1 _ _ ((opsC_at hx 9 (by omega)).trans rfl)
        have x10 : wr.cell? ⟨b1, o1 + k * 13 + 10, none⟩ = some (.int .i64 x.va) := hc1 _ _ ((opsC_at hx 10 (by omega)).trans rfl)
        have x11 : wr.cell? ⟨b1, o1 + k * 13 + 11, none⟩ = some (.int .i64 x.vb) := hc1 _ _ ((opsC_at hx 11 (by omega)).trans rfl)
        have x12 : wr.cell? ⟨b1, o1 + k * 13 + 12, none⟩ = some (.slice x.A x.l.length x.c) := hc1 _ _ ((opsC_at hx 12 (by omega)).trans rfl)
        clear hc1 hx hy
        have hd1 : decide ((k : Int) < (n : Int)) = true := decide_eq_true (by omega)
        have hd0 : decide (0 ≤ (k : Int)) = true := decide_eq_true (by omega)
        go_upto_region 6 with fail
        have HW1 : Hid (Below w.heap.size w (wr.alloc (.cells #[.int .i64 x.k, .int .i64 x.on, .int .i64 x.oa, .string x.key, .int .i64 x.en, .int .i64 x.ea, .bool x.ins, .int .i64 x.vk, .int .i64 x.vn, .string x.vt, .int .i64 x.va, .int .i64 x.vb, .slice x.A x.l.length x.c] 87))) := HW.out.alloc HW.out.size _
        have HQ1 : Hid (Blk (wr.alloc (.cells #[.int .i64 x.k, .int .i64 x.on, .int .i64 x.oa, .string x.key, .int .i64 x.en, .int .i64 x.ea, .bool x.ins, .int .i64 x.vk, .int .i64 x.vn, .string x.vt, .int .i64 x.va, .int .i64 x.vb, .slice x.A x.l.length x.c] 87)) wr.heap.size 87 #[.int .i64 x.k, .int .i64 x.on, .int .i64 x.oa, .string x.key, .int .i64 x.en, .int .i64 x.ea, .bool x.ins, .int .i64 x.vk, .int .i64 x.vn, .string x.vt, .int .i64 x.va, .int .i64 x.vb, .slice x.A x.l.length x.c]) := Blk.new wr _ _
        clear x0 x1 x2 x3 x4 x5 x6 x7 x8 x9 x10 x11 x12
        generalize wr.alloc (.cells #[.int .i64 x.k, .int .i64 x.on, .int .i64 x.oa, .string x.key, .int .i64 x.en, .int .i64 x.ea, .bool x.ins, .int .i64 x.vk, .int .i64 x.vn, .string x.vt, .int .i64 x.va, .int .i64 x.vb, .slice x.A x.l.length x.c] 87) = V1 at HW1 HQ1 ⊢
        generalize wr.heap.size = B1 at HQ1 ⊢
        obtain ⟨b2, o2, rfl, -, hc2⟩ := (reads_below HR2.out HW1.out).at_ (by rw [HN2.out]; omega) (by omega)
        have y0 : V1.cell? ⟨b2, o2 + k * 13, none⟩ = some (.int .i64 y.k) := hc2 _ _ ((opsC_at HY.out 0 (by omega)).trans rfl)
        have y1 : V1.cell? ⟨b2, o2 + k * 13 + 1, none⟩ = some (.int .i64 y.on) := hc2 _ _ ((opsC_at HY.out 1 (by omega)).trans rfl)
        have y2 : V1.cell? ⟨b2, o2 + k * 13 + 2, none⟩ = some (.int .i64 y.oa) := hc2 _ _ ((opsC_at HY.out 2 (by omega)).trans rfl)
        have y3 : V1.cell? ⟨b2, o2 + k * 13 + 3, none⟩ = some (.string y.key) := hc2 _ _ ((opsC_at HY.out 3 (by omega)).trans rfl)
        have y4 : V1.cell? ⟨b2, o2 + k * 13 + 4, none⟩ = some (.int .i64 y.en) := hc2 _ _ ((opsC_at HY.out 4 (by omega)).trans rfl)
        have y5 : V1.cell? ⟨b2, o2 + k * 13 + 5, none⟩ = some (.int .i64 y.ea) := hc2 _ _ ((opsC_at HY.out 5 (by omega)).trans rfl)
        have y6 : V1.cell? ⟨b2, o2 + k * 13 + 6, none⟩ = some (.bool y.ins) := hc2 _ _ ((opsC_at HY.out 6 (by omega)).trans rfl)
        have y7 : V1.cell? ⟨b2, o2 + k * 13 + 7, none⟩ = some (.int .i64 y.vk) := hc2 _ _ ((opsC_at HY.out 7 (by omega)).trans rfl)
        have y8 : V1.cell? ⟨b2, o2 + k * 13 + 8, none⟩ = some (.int .i64 y.vn) := hc2 _ _ ((opsC_at HY.out 8 (by omega)).trans rfl)
        have y9 : V1.cell? ⟨b2, o2 + k * 13 + 9, none⟩ = some (.string y.vt) := hc2 _ _ ((opsC_at HY.out 9 (by omega)).trans rfl)
        have y10 : V1.cell? ⟨b2, o2 + k * 13 + 10, none⟩ = some (.int .i64 y.va) := hc2 _ _ ((opsC_at HY.out 10 (by omega)).trans rfl)
        have y11 : V1.cell? ⟨b2, o2 + k * 13 + 11, none⟩ = some (.int .i64 y.vb) := hc2 _ _ ((opsC_at HY.out 11 (by omega)).trans rfl)
        have y12 : V1.cell? ⟨b2, o2 + k * 13 + 12, none⟩ = some (.slice y.A y.l.length y.c) := hc2 _ _ ((opsC_at HY.out 12 (by omega)).trans rfl)
        clear hc2
        go_upto_region 7 with fail
        have HW2 : Hid (Below w.heap.size w (V1.alloc (.cells #[.int .i64 y.k, .int .i64 y.on, .int .i64 y.oa, .string y.key, .int .i64 y.en, .int .i64 y.ea, .bool y.ins, .int .i64 y.vk, .int .i64 y.vn, .string y.vt, .int .i64 y.va, .int .i64 y.vb, .slice y.A y.l.length y.c] 87))) := HW1.out.alloc HW1.out.size _
        have HQ2 : Hid (Blk (V1.alloc (.cells #[.int .i64 y.k, .int .i64 y.on, .int .i64 y.oa, .string y.key, .int .i64 y.en, .int .i64 y.ea, .bool y.ins, .int .i64 y.vk, .int .i64 y.vn, .string y.vt, .int .i64 y.va, .int .i64 y.vb, .slice y.A y.l.length y.c] 87)) V1.heap.size 87 #[.int .i64 y.k, .int .i64 y.on, .int .i64 y.oa, .string y.key, .int .i64 y.en, .int .i64 y.ea, .bool y.ins, .int .i64 y.vk, .int .i64 y.vn, .string y.vt, .int .i64 y.va, .int .i64 y.vb, .slice y.A y.l.length y.c]) := Blk.new V1 _ _
        have HQ3 := Lib.hid (HQ1.out.keep (w' := V1.alloc (.cells #[.int .i64 y.k, .int .i64 y.on, .int .i64 y.oa, .string y.key, .int .i64 y.en, .int .i64 y.ea, .bool y.ins, .int .i64 y.vk, .int .i64 y.vn, .string y.vt, .int .i64 y.va, .int .i64 y.vb, .slice y.A y.l.length y.c] 87)) (((Below.refl _ V1).alloc (Nat.le_refl _) _).block _ HQ1.out.lt))
        clear y0 y1 y2 y3 y4 y5 y6 y7 y8 y9 y10 y11 y12 HQ1 HW1
        generalize V1.alloc (.cells #[.int .i64 y.k, .int .i64 y.on, .int .i64 y.oa, .string y.key, .int .i64 y.en, .int .i64 y.ea, .bool y.ins, .int .i64 y.vk, .int .i64 y.vn, .string y.vt, .int .i64 y.va, .int .i64 y.vb, .slice y.A y.l.length y.c] 87) = V2 at HW2 HQ2 HQ3 ⊢
        generalize V1.heap.size = B2 at HQ2 ⊢
        have x0 : V2.cell? ⟨B1, 0, none⟩ = some (.int .i64 x.k) := HQ3.out.cell 0
        have x1 : V2.cell? ⟨B1, 1, none⟩ = some (.int .i64 x.on) := HQ3.out.cell 1
        have x2 : V2.cell? ⟨B1, 2, none⟩ = some (.int .i64 x.oa) := HQ3.out.cell 2
        have x3 : V2.cell? ⟨B1, 3, none⟩ = some (.string x.key) := HQ3.out.cell 3
        have x4 : V2.cell? ⟨B1, 4, none⟩ = some (.int .i64 x.en) := HQ3.out.cell 4
        have x5 : V2.cell? ⟨B1, 5, none⟩ = some (.int .i64 x.ea) := HQ3.out.cell 5
        have x6 : V2.cell? ⟨B1, 6, none⟩ = some (.bool x.ins) := HQ3.out.cell 6
        have x7 : V2.cell? ⟨B1, 7, none⟩ = some (.int .i64 x.vk) := HQ3.out.cell 7
        have x8 : V2.cell? ⟨B1, 8, none⟩ = some (.int .i64 x.vn) := HQ3.out.cell 8
        have x9 : V2.cell? ⟨B1, 9, none⟩ = some (.string x.vt) := HQ3.out.cell 9
        have x10 : V2.cell? ⟨B1, 10, none⟩ = some (.int .i64 x.va) := HQ3.out.cell 10
        have x11 : V2.cell? ⟨B1, 11, none⟩ = some (.int .i64 x.vb) := HQ3.out.cell 11
        have x12 : V2.cell? ⟨B1, 12, none⟩ = some (.slice x.A x.l.length x.c) := HQ3.out.cell 12
        have y0 : V2.cell? ⟨B2, 0, none⟩ = some (.int .i64 y.k) := HQ2.out.cell 0
        have y1 : V2.cell? ⟨B2, 1, none⟩ = some (.int .i64 y.on) := HQ2.out.cell 1
        have y2 : V2.cell? ⟨B2, 2, none⟩ = some (.int .i64 y.oa) := HQ2.out.cell 2
        have y3 : V2.cell? ⟨B2, 3, none⟩ = some (.string y.key) := HQ2.out.cell 3
        have y4 : V2.cell? ⟨B2, 4, none⟩ = some (.int .i64 y.en) := HQ2.out.cell 4
        have y5 : V2.cell? ⟨B2, 5, none⟩ = some (.int .i64 y.ea) := HQ2.out.cell 5
        have y6 : V2.cell? ⟨B2, 6, none⟩ = some (.bool y.ins) := HQ2.out.cell 6
        have y7 : V2.cell? ⟨B2, 7, none⟩ = some (.int .i64 y.vk) := HQ2.out.cell 7
        have y8 : V2.cell? ⟨B2, 8, none⟩ = some (.int .i64 y.vn) := HQ2.out.cell 8
        have y9 : V2.cell? ⟨B2, 9, none⟩ = some (.string y.vt) := HQ2.out.cell 9
        have y10 : V2.cell? ⟨B2, 10, none⟩ = some (.int .i64 y.va) := HQ2.out.cell 10
        have y11 : V2.cell? ⟨B2, 11, none⟩ = some (.int .i64 y.vb) := HQ2.out.cell 11
        have y12 : V2.cell? ⟨B2, 12, none⟩ = some (.slice y.A y.l.length y.c) := HQ2.out.cell 12
        have C1 := same1_any x y V2 (reads_below HPX.out.1 HW2.out) (reads_below HPY.out.1 HW2.out) HPX.out.2 HPY.out.2
        unfold opV at C1
        generalize sameO x y = ok at C1 HS
        go_wp2_with fail
        go_at_call 61
        refine C1.mono ?_
        rintro e w3 ⟨rfl, hb⟩
        have HW3 : Hid (Below w.heap.size w w3) := HW2.out.trans (hb.mono HW2.out.size)
        clear x0 x1 x2 x3 x4 x5 x6 x7 x8 x9 x10 x11 x12 y0 y1 y2 y3 y4 y5 y6 y7 y8 y9 y10 y11 y12 C1 hb HW2 HQ2 HQ3
        cases ok with
        | false =>
          have HE : Hid (sameOs l l2 = false) := by show _ = _; rw [HI.out, HS.out]; rfl
          go_wp2_with fail
          go_ret
          exact ⟨by rw [HE.out]; rfl, HW3.out⟩
        | true =>
          have HI2 : Hid (sameOs l l2 = sameOs (l.drop (k + 1)) (l2.drop (k + 1))) := by show _ = _; rw [HI.out, HS.out]; rfl
          go_wp2_with fail
          go_roundw
          case rel => exact ⟨k + 1, by go_num, by omega, HI2, HW3⟩
          case measure => simp [intOf]; omega
      · have HE : Hid (sameOs l l2 = true) := by show _ = _; rw [HI.out, List.drop_of_length_le (by rw [HN.out]; omega), List.drop_of_length_le (by rw [HN2.out]; omega)]; rfl
        go_wp2_with fail
        go_ret
        exact ⟨by rw [HE.out]; rfl, HW.out⟩
  · have HE : Hid (sameOs l l2 = false) := sameOs_len (by rw [hn, hn2]; exact hnn)
    have hd : ((n : Int) != (n2 : Int)) = true := by simp; omega
    clear hn hn2
    go_enter Tryz.func60, Tryz.ntmps60
    go_wp2_with fail
    go_ret
    exact ⟨by rw [HE.out]; rfl, Below.refl _ _⟩
def sameC (c d : ChD) : Bool := (c.st == d.st) && (decide (c.deps = d.deps) && sameOs c.ops d.ops)
set_option maxHeartbeats 4000000 in
set_option maxRecDepth 20000 in
theorem same_any (c d : ChD) (w : World) (hc : ChIn (fun k => k < w.heap.size) w c) (hd : ChIn (fun k => k < w.heap.size) w d) :
    Calls Tryz.prog 34 #[c.v, d.v] w fun e w' => e = .returned (.bool (sameC c d)) ∧ Below w.heap.size w w' := by
  have hW1 : Below w.heap.size w (w.alloc (.cells #[.int .i64 c.a, .int .i64 c.s, .int .i64 c.st, .slice c.DA c.deps.length c.DC, .slice c.OA c.ops.length c.OC] 34)) := (Below.refl _ w).alloc (Nat.le_refl _) _
  have hQ1 := Blk.new w 34 #[.int .i64 c.a, .int .i64 c.s, .int .i64 c.st, .slice c.DA c.deps.length c.DC, .slice c.OA c.ops.length c.OC]
  have hs1 : (w.alloc (.cells #[.int .i64 c.a, .int .i64 c.s, .int .i64 c.st, .slice c.DA c.deps.length c.DC, .slice c.OA c.ops.length c.OC] 34)).heap.size = w.heap.size + 1 := by simp
  have HC := Lib.hid hc
  have HD := Lib.hid hd
  obtain ⟨b1, e1⟩ : ∃ b, (c.st == d.st) = b := ⟨_, rfl⟩
  obtain ⟨b2, e2⟩ : ∃ b, decide (c.deps = d.deps) = b := ⟨_, rfl⟩
  obtain ⟨b3, e3⟩ : ∃ b, sameOs c.ops d.ops = b := ⟨_, rfl⟩
  unfold sameC
  rw [e1, e2, e3]
  unfold ChD.v
  clear hc hd
  go_enter Tryz.func34, Tryz.ntmps34
  go_upto_region 1 with fail
  generalize w.alloc (.cells #[.int .i64 c.a, .int .i64 c.s, .int .i64 c.st, .slice c.DA c.deps.length c.DC, .slice c.OA c.ops.length c.OC] 34) = V1 at *
  have hQ2 := hQ1.keep (w' := V1.alloc (.cells #[.int .i64 d.a, .int .i64 d.s, .int .i64 d.st, .slice d.DA d.deps.length d.DC, .slice d.OA d.ops.length d.OC] 34)) (((Below.refl _ V1).alloc (Nat.le_refl _) _).block _ hQ1.lt)
  have hQ3 : Blk (V1.alloc (.cells #[.int .i64 d.a, .int .i64 d.s, .int .i64 d.st, .slice d.DA d.deps.length d.DC, .slice d.OA d.ops.length d.OC] 34)) (w.heap.size + 1) 34 #[.int .i64 d.a, .int .i64 d.s, .int .i64 d.st, .slice d.DA d.deps.length d.DC, .slice d.OA d.ops.length d.OC] := by rw [← hs1]; exact Blk.new V1 _ _
  have HW : Hid (Below w.heap.size w (V1.alloc (.cells #[.int .i64 d.a, .int .i64 d.s, .int .i64 d.st, .slice d.DA d.deps.length d.DC, .slice d.OA d.ops.length d.OC] 34))) := hW1.alloc hW1.size _
  generalize V1.alloc (.cells #[.int .i64 d.a, .int .i64 d.s, .int .i64 d.st, .slice d.DA d.deps.length d.DC, .slice d.OA d.ops.length d.OC] 34) = V at hQ2 hQ3 HW ⊢
  have HQ2 := Lib.hid hQ2
  have HQ3 := Lib.hid hQ3
  clear hW1 hQ1 hs1 hQ2 hQ3
  have c2 : V.cell? ⟨w.heap.size, 2, none⟩ = some (.int .i64 c.st) := HQ2.out.cell 2
  have c3 : V.cell? ⟨w.heap.size, 3, none⟩ = some (.slice c.DA c.deps.length c.DC) := HQ2.out.cell 3
  have c4 : V.cell? ⟨w.heap.size, 4, none⟩ = some (.slice c.OA c.ops.length c.OC) := HQ2.out.cell 4
  have d2 : V.cell? ⟨w.heap.size + 1, 2, none⟩ = some (.int .i64 d.st) := HQ3.out.cell 2
  have d3 : V.cell? ⟨w.heap.size + 1, 3, none⟩ = some (.slice d.DA d.deps.length d.DC) := HQ3.out.cell 3
  have d4 : V.cell? ⟨w.heap.size + 1, 4, none⟩ = some (.slice d.OA d.ops.length d.OC) := HQ3.out.cell 4
  have C1 := equalR_any c.deps d.deps c.DA d.DA c.DC d.DC V (reads_below HC.out.hd HW.out) (reads_below HD.out.hd HW.out) HC.out.hdl HD.out.hdl
  rw [e2] at C1
  cases b1 with
  | false => (go_wp2_with fail; go_ret; exact ⟨rfl, HW.out⟩)
  | true =>
    go_wp2_with fail
    go_at_call 59
    refine C1.mono ?_
    rintro e w2 ⟨rfl, hb⟩
    replace HW : Hid (Below w.heap.size w w2) := HW.out.trans (hb.mono HW.out.size)
    replace HQ2 := Lib.hid (HQ2.out.keep (hb.block _ HQ2.out.lt))
    replace HQ3 := Lib.hid (HQ3.out.keep (hb.block _ HQ3.out.lt))
    clear c2 c3 c4 d2 d3 d4 hb C1
    have c4 : w2.cell? ⟨w.heap.size, 4, none⟩ = some (.slice c.OA c.ops.length c.OC) := HQ2.out.cell 4
    have d4 : w2.cell? ⟨w.heap.size + 1, 4, none⟩ = some (.slice d.OA d.ops.length d.OC) := HQ3.out.cell 4
    have C2 := equalFn_any c.ops d.ops c.OA d.OA c.OC d.OC w2 (reads_below HC.out.ho HW.out) (reads_below HD.out.ho HW.out) HC.out.hol HD.out.hol
      (fun o ho => ⟨reads_below (HC.out.hp o ho).1 HW.out, (HC.out.hp o ho).2⟩) (fun o ho => ⟨reads_below (HD.out.hp o ho).1 HW.out, (HD.out.hp o ho).2⟩)
    rw [e3] at C2
    cases b2 with
    | false => (go_wp2_with fail; go_ret; exact ⟨rfl, HW.out⟩)
    | true =>
      go_wp2_with fail
      go_at_call 60
      refine C2.mono ?_
      rintro e w3 ⟨rfl, hb⟩
      replace HW : Hid (Below w.heap.size w w3) := HW.out.trans (hb.mono HW.out.size)
      go_wp2_with fail
      go_ret
      exact ⟨rfl, HW.out⟩
end Go.Proofs.YtclgfcjcpbiadaaGreatDoor
