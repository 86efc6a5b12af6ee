/- Contracts of the document's books: look, elem, place. -/
import Derived.Test.YtclgfcjcpbiadaaGreatDoorM21
import Derived.Test.YtclgfcjcpbiadaaGreatDoorM8
set_option linter.unusedVariables false
set_option linter.unusedSimpArgs false
namespace Go.Proofs.YtclgfcjcpbiadaaGreatDoor
open Go.ChangeShapes Go.WideShapes Go.ChangeAt Go.RowKit

def opIC (x : OpI) : List Value := opC x.1 ++ [.int .i64 x.2.1, .int .i64 x.2.2]
def opIV (x : OpI) : Value := .agg #[.int .i64 x.1.k, .int .i64 x.1.on, .int .i64 x.1.oa, .string x.1.key, .int .i64 x.1.en, .int .i64 x.1.ea, .bool x.1.ins, .int .i64 x.1.vk, .int .i64 x.1.vn, .string x.1.vt, .int .i64 x.1.va, .int .i64 x.1.vb, .slice x.1.A x.1.l.length x.1.c, .int .i64 x.2.1, .int .i64 x.2.2]
def opsIC (l : List OpI) : List Value := l.flatMap opIC
theorem opIC_length (x : OpI) : (opIC x).length = 15 := by simp [opIC, opC]
theorem opsIC_append (a b : List OpI) : opsIC (a ++ b) = opsIC a ++ opsIC b := by simp [opsIC]
theorem opsIC_at : ∀ {L : List OpI} {k : Nat} {c : OpI}, L[k]? = some c → ∀ i, i < 15 → (opsIC L)[k * 15 + i]? = (opIC c)[i]?
  | [], k, r, h => by simp at h
  | x :: l, 0, o, h => fun i hi => by
    simp at h; subst h
    simp only [opsIC, List.flatMap_cons, Nat.zero_mul, Nat.zero_add]
    exact List.getElem?_append_left (by rw [opIC_length]; omega)
  | x :: l, k + 1, o, h => fun i hi => by
    have ih := opsIC_at (L := l) (k := k) (by simpa using h) i hi
    have e : opsIC (x :: l) = opIC x ++ opsIC l := by simp [opsIC]
    rw [e, List.getElem?_append_right (by rw [opIC_length]; omega), opIC_length, show (k + 1) * 15 + i - 15 = k * 15 + i from by omega]
    exact ih
theorem opsIC_one (l : List OpI) : ∀ u ∈ opsIC l, u.oneCell' = true := by
  intro u hu
  obtain ⟨r, _, h⟩ := List.mem_flatMap.1 hu
  simp only [opIC, opC, List.mem_append, List.mem_cons, List.not_mem_nil, or_false] at h
  rcases h with (rfl | rfl | rfl | rfl | rfl | rfl | rfl | rfl | rfl | rfl | rfl | rfl | rfl) | (rfl | rfl) <;> rfl
theorem look_none {l : List OpI} {n : Rf} : lookP l n = none ↔ ∀ x ∈ l, x.2 ≠ n := by
  unfold lookP
  rw [List.find?_eq_none]
  simp
theorem look_none_step {L : List OpI} {k : Nat} {x : OpI} {r : Rf} (hx : L[k]? = some x) (h : lookP (L.take k) r = none) (hne : x.2 ≠ r) : lookP (L.take (k + 1)) r = none := by
  rw [look_none] at *
  rw [List.take_add_one, hx]
  intro y hy
  rcases List.mem_append.1 hy with hy | hy
  · exact h y hy
  · simp at hy; rw [hy]; exact hne
theorem look_hit {L : List OpI} {k : Nat} {x : OpI} {r : Rf} (hx : L[k]? = some x) (h : lookP (L.take k) r = none) (he : x.2 = r) : lookP L r = some x := by
  obtain ⟨hk, hx'⟩ := List.getElem?_eq_some_iff.1 hx
  have e : L = L.take k ++ x :: L.drop (k + 1) := by
    rw [← hx', List.getElem_cons_drop, List.take_append_drop]
  unfold lookP at *
  rw [e, List.find?_append, h]
  simp [he]
def LookI (L : List OpI) (r : Rf) (i : Int) : Prop := (i = -1 ∧ lookP L r = none) ∨ ∃ (k : Nat) (c : OpI), i = (k : Int) ∧ L[k]? = some c ∧ lookP L r = some c
set_option maxHeartbeats 2000000 in
set_option maxRecDepth 20000 in
theorem slook_any (L : List OpI) (r : Rf) (D : Nat → Prop) (A : Option Addr) (c : Nat) (w : World) (hr : Reads D w 15 A L.length (opsIC L)) (hD : ∀ k, D k → k < w.heap.size) (hl : L.length ≤ 9223372036854775807) :
    Calls Tryz.prog 81 #[.slice A L.length c, .agg #[.int .i64 r.1, .int .i64 r.2]] w fun e w' => ∃ i, e = .returned (.int .i64 i) ∧ LookI L r i ∧ Below w.heap.size w w' := by
  obtain ⟨n, hn⟩ : ∃ n, L.length = n := ⟨_, rfl⟩
  have HN := Lib.hid hn
  have HR0 := Lib.hid (hr.keep (w' := w.alloc (.cells #[.int .i64 r.1, .int .i64 r.2] 82)) fun k hk => Below.heap_alloc _ _ k (hD k hk))
  have HB0 : Hid (Below w.heap.size w (w.alloc (.cells #[.int .i64 r.1, .int .i64 r.2] 82))) := (Below.refl _ w).alloc (Nat.le_refl _) _
  have hQ := Blk.new w 82 #[.int .i64 r.1, .int .i64 r.2]
  have HC0 := Lib.hid (And.intro (hQ.cell 0) (hQ.cell 1))
  rw [hn] at hl ⊢
  clear hn hr hD hQ
  go_enter Tryz.func81, Tryz.ntmps81
  go_wp2_with fail
  generalize w.alloc (.cells #[.int .i64 r.1, .int .i64 r.2] 82) = V at *
  go_loopw [5] (fun s5 wr => ∃ k : Nat, s5 = .int .i64 k ∧ k ≤ n ∧ Hid (lookP (L.take k) r = none) ∧ ∃ m, wr = V.drewN m) (fun s5 _ => n - (intOf s5).toNat)
  case atStart => exact ⟨0, rfl, by omega, by show lookP _ _ = _; simp [lookP], 0, rfl⟩
  case round =>
    obtain ⟨k, rfl, hk, HI, m, rfl⟩ := hrel
    by_cases hlt : k < n
    · obtain ⟨b1, o1, rfl, -, hc1⟩ := HR0.out.at_ (by rw [HN.out]; omega) (by omega)
      obtain ⟨x, hx⟩ : ∃ x, L[k]? = some x := ⟨_, List.getElem?_eq_getElem (by rw [HN.out]; exact hlt)⟩
      have x1 : V.cell? ⟨b1, o1 + k * 15 + 13, none⟩ = some (.int .i64 x.2.1) := by have := hc1 _ _ (opsIC_at hx 13 (by omega)); rw [← Nat.add_assoc] at this; exact this
      have x2 : V.cell? ⟨b1, o1 + k * 15 + 13 + 1, none⟩ = some (.int .i64 x.2.2) := by have := hc1 _ _ (opsIC_at hx 14 (by omega)); rw [← Nat.add_assoc] at this; exact this
      have y1 : V.cell? ⟨w.heap.size, 0, none⟩ = some (.int .i64 r.1) := HC0.out.1
      have y2 : V.cell? ⟨w.heap.size, 1, none⟩ = some (.int .i64 r.2) := HC0.out.2
      have HX := Lib.hid hx
      have E := fun w => eq_id x.2.1 x.2.2 r.1 r.2 w
      by_cases hxr : x.2 = r
      · have HE := Lib.hid (look_hit hx HI.out hxr)
        have e1 : (x.2.1 == r.1 && x.2.2 == r.2) = true := by rw [← hxr]; simp
        rw [e1] at E
        clear hc1 hx hxr e1
        go_wp2_with fail
        go_quiet (fail)
        go_wp2_with fail
        go_ret
        exact ⟨_, rfl, .inr ⟨k, x, rfl, HX.out, HE.out⟩, by rw [World.drewN_drewN]; exact below_drewN HB0.out _⟩
      · have e1 : (x.2.1 == r.1 && x.2.2 == r.2) = false := by
          cases h : (x.2.1 == r.1 && x.2.2 == r.2) with
          | false => rfl
          | true => simp at h; exact absurd (Prod.ext h.1 h.2) hxr
        rw [e1] at E
        have HE := Lib.hid (look_none_step hx HI.out hxr)
        clear hc1 hx hxr e1
        go_wp2_with fail
        go_quiet (fail)
        change Exit.then _ _ _ _ ((V.drewN m).drewN nq)
        have HW : Hid ((V.drewN m).drewN nq = V.drewN (m + nq)) := by show _ = _; rw [World.drewN_drewN]
        generalize (V.drewN m).drewN nq = w3 at HW ⊢
        clear x1 x2 y1 y2
        go_wp2_with fail
        go_roundw
        case rel => exact ⟨k + 1, by go_num, by omega, HE, _, HW.out⟩
        case measure => simp [intOf]; omega
    · have HE : Hid (lookP L r = none) := by have := HI.out; rwa [List.take_of_length_le (by rw [HN.out]; omega)] at this
      go_wp2_with fail
      go_ret
      exact ⟨_, rfl, .inl ⟨rfl, HE.out⟩, below_drewN HB0.out _⟩
theorem dec_pair (a b c d : Int) : decide ((a, b) = (c, d)) = (a == c && b == d) := by
  by_cases h1 : a = c <;> by_cases h2 : b = d <;> simp [h1, h2]
theorem dec_key (a b : ByteArray) : decide (a = b) = decide (a.toList = b.toList) := by
  have : a = b ↔ a.toList = b.toList := ⟨fun h => by rw [h], fun h => bytes_inj (by rw [← ByteArray.toList_eq, ← ByteArray.toList_eq]; exact h)⟩
  by_cases h : a = b
  · rw [decide_eq_true h, decide_eq_true (this.1 h)]
  · rw [decide_eq_false h, decide_eq_false (fun e => h (this.2 e))]
theorem selem_any (x : OpI) (w : World) :
    Calls Tryz.prog 98 #[opIV x] w fun e w' => e = .returned (.agg #[.int .i64 (elemP x).1, .int .i64 (elemP x).2]) ∧ Below w.heap.size w w' := by
  have hres : Tryz.f98.results = #[.cell 2 82] := by kernel_rfl
  unfold opIV elemP elP
  have HB : ∀ u v : Value, Hid (Below w.heap.size w ((w.alloc (.cells #[.int .i64 x.1.k, .int .i64 x.1.on, .int .i64 x.1.oa, .string x.1.key, .int .i64 x.1.en, .int .i64 x.1.ea, .bool x.1.ins, .int .i64 x.1.vk, .int .i64 x.1.vn, .string x.1.vt, .int .i64 x.1.va, .int .i64 x.1.vb, .slice x.1.A x.1.l.length x.1.c, .int .i64 x.2.1, .int .i64 x.2.2] 91)).alloc (.cells #[u, v] 82))) := fun u v => ((Below.refl _ w).alloc (Nat.le_refl _) _).alloc (by simp) _
  obtain ⟨b, hb⟩ : ∃ b, x.1.ins = b := ⟨_, rfl⟩
  rw [hb] at HB ⊢
  clear hb
  cases b with
  | true =>
    go_enter Tryz.func98, Tryz.ntmps98
    go_wp2_with fail
    refine bodyPost_ret (v := .agg #[.int .i64 x.2.1, .int .i64 x.2.2]) ?_ rfl ⟨rfl, (HB _ _).out⟩
    simp only [results, hres]
    go_simp
  | false =>
    go_enter Tryz.func98, Tryz.ntmps98
    go_wp2_with fail
    refine bodyPost_ret (v := .agg #[.int .i64 x.1.en, .int .i64 x.1.ea]) ?_ rfl ⟨rfl, (HB _ _).out⟩
    simp only [results, hres]
    go_simp
set_option maxHeartbeats 4000000 in
set_option maxRecDepth 20000 in
theorem splace_any (x y : OpI) (w : World) :
    Calls Tryz.prog 82 #[opIV x, opIV y] w fun e w' => e = .returned (.bool (placeP x y)) ∧ Below w.heap.size w w' := by
  have H1 := fun W => selem_any x W
  have H2 := fun W => selem_any y W
  unfold opIV at *
  have HQ1 := Lib.hid (Blk.new w 91 #[.int .i64 x.1.k, .int .i64 x.1.on, .int .i64 x.1.oa, .string x.1.key, .int .i64 x.1.en, .int .i64 x.1.ea, .bool x.1.ins, .int .i64 x.1.vk, .int .i64 x.1.vn, .string x.1.vt, .int .i64 x.1.va, .int .i64 x.1.vb, .slice x.1.A x.1.l.length x.1.c, .int .i64 x.2.1, .int .i64 x.2.2])
  have HQ2 := Lib.hid (Blk.new (w.alloc (.cells #[.int .i64 x.1.k, .int .i64 x.1.on, .int .i64 x.1.oa, .string x.1.key, .int .i64 x.1.en, .int .i64 x.1.ea, .bool x.1.ins, .int .i64 x.1.vk, .int .i64 x.1.vn, .string x.1.vt, .int .i64 x.1.va, .int .i64 x.1.vb, .slice x.1.A x.1.l.length x.1.c, .int .i64 x.2.1, .int .i64 x.2.2] 91)) 91 #[.int .i64 y.1.k, .int .i64 y.1.on, .int .i64 y.1.oa, .string y.1.key, .int .i64 y.1.en, .int .i64 y.1.ea, .bool y.1.ins, .int .i64 y.1.vk, .int .i64 y.1.vn, .string y.1.vt, .int .i64 y.1.va, .int .i64 y.1.vb, .slice y.1.A y.1.l.length y.1.c, .int .i64 y.2.1, .int .i64 y.2.2])
  have HB2 : Hid (Below w.heap.size w ((w.alloc (.cells #[.int .i64 x.1.k, .int .i64 x.1.on, .int .i64 x.1.oa, .string x.1.key, .int .i64 x.1.en, .int .i64 x.1.ea, .bool x.1.ins, .int .i64 x.1.vk, .int .i64 x.1.vn, .string x.1.vt, .int .i64 x.1.va, .int .i64 x.1.vb, .slice x.1.A x.1.l.length x.1.c, .int .i64 x.2.1, .int .i64 x.2.2] 91)).alloc (.cells #[.int .i64 y.1.k, .int .i64 y.1.on, .int .i64 y.1.oa, .string y.1.key, .int .i64 y.1.en, .int .i64 y.1.ea, .bool y.1.ins, .int .i64 y.1.vk, .int .i64 y.1.vn, .string y.1.vt, .int .i64 y.1.va, .int .i64 y.1.vb, .slice y.1.A y.1.l.length y.1.c, .int .i64 y.2.1, .int .i64 y.2.2] 91))) := ((Below.refl _ w).alloc (Nat.le_refl _) _).alloc (by simp) _
  rw [World.size_alloc] at HQ2
  go_enter Tryz.func82, Tryz.ntmps82
  go_wp2_with fail
  go_at_call 98
  refine (H1 _).mono ?_
  rintro e w3 ⟨rfl, hb⟩
  replace HQ1 := Lib.hid ((HQ1.out.keep (Below.heap_alloc _ (.cells #[.int .i64 y.1.k, .int .i64 y.1.on, .int .i64 y.1.oa, .string y.1.key, .int .i64 y.1.en, .int .i64 y.1.ea, .bool y.1.ins, .int .i64 y.1.vk, .int .i64 y.1.vn, .string y.1.vt, .int .i64 y.1.va, .int .i64 y.1.vb, .slice y.1.A y.1.l.length y.1.c, .int .i64 y.2.1, .int .i64 y.2.2] 91) _ HQ1.out.lt)).keep (hb.block _ (by rw [World.size_alloc]; exact Nat.lt_succ_of_lt HQ1.out.lt)))
  replace HQ2 := Lib.hid (HQ2.out.keep (hb.block _ HQ2.out.lt))
  have HB3 : Hid (Below w.heap.size w w3) := HB2.out.trans (hb.mono HB2.out.size)
  have hs3 : w.heap.size + 1 + 1 ≤ w3.heap.size := by have := hb.size; rwa [World.size_alloc, World.size_alloc] at this
  clear hb H1 HB2
  have y0 : w3.cell? ⟨w.heap.size + 1, 0, none⟩ = some (.int .i64 y.1.k) := HQ2.out.cell 0
  have y1 : w3.cell? ⟨w.heap.size + 1, 1, none⟩ = some (.int .i64 y.1.on) := HQ2.out.cell 1
  have y2 : w3.cell? ⟨w.heap.size + 1, 2, none⟩ = some (.int .i64 y.1.oa) := HQ2.out.cell 2
  have y3 : w3.cell? ⟨w.heap.size + 1, 3, none⟩ = some (.string y.1.key) := HQ2.out.cell 3
  have y4 : w3.cell? ⟨w.heap.size + 1, 4, none⟩ = some (.int .i64 y.1.en) := HQ2.out.cell 4
  have y5 : w3.cell? ⟨w.heap.size + 1, 5, none⟩ = some (.int .i64 y.1.ea) := HQ2.out.cell 5
  have y6 : w3.cell? ⟨w.heap.size + 1, 6, none⟩ = some (.bool y.1.ins) := HQ2.out.cell 6
  have y7 : w3.cell? ⟨w.heap.size + 1, 7, none⟩ = some (.int .i64 y.1.vk) := HQ2.out.cell 7
  have y8 : w3.cell? ⟨w.heap.size + 1, 8, none⟩ = some (.int .i64 y.1.vn) := HQ2.out.cell 8
  have y9 : w3.cell? ⟨w.heap.size + 1, 9, none⟩ = some (.string y.1.vt) := HQ2.out.cell 9
  have y10 : w3.cell? ⟨w.heap.size + 1, 10, none⟩ = some (.int .i64 y.1.va) := HQ2.out.cell 10
  have y11 : w3.cell? ⟨w.heap.size + 1, 11, none⟩ = some (.int .i64 y.1.vb) := HQ2.out.cell 11
  have y12 : w3.cell? ⟨w.heap.size + 1, 12, none⟩ = some (.slice y.1.A y.1.l.length y.1.c) := HQ2.out.cell 12
  have y13 : w3.cell? ⟨w.heap.size + 1, 13, none⟩ = some (.int .i64 y.2.1) := HQ2.out.cell 13
  have y14 : w3.cell? ⟨w.heap.size + 1, 14, none⟩ = some (.int .i64 y.2.2) := HQ2.out.cell 14
  have hn1 : w.heap.size + 1 < w3.heap.size := by omega
  go_wp2_with fail
  clear y0 y1 y2 y3 y4 y5 y6 y7 y8 y9 y10 y11 y12 y13 y14
  go_at_call 98
  refine (H2 _).mono ?_
  rintro e w4 ⟨rfl, hb⟩
  generalize hex : elemP x = ex at *
  generalize hey : elemP y = ey at *
  have HEX := Lib.hid hex
  have HEY := Lib.hid hey
  clear hex hey
  have hbE := Below.heap_alloc w3 (.cells #[.int .i64 ex.1, .int .i64 ex.2] 82)
  have hlt : ∀ j, j < w3.heap.size → w4.heap[j]? = w3.heap[j]? := fun j hj => (hb.block j (by rw [World.size_alloc]; omega)).trans (hbE j hj)
  replace HQ1 := Lib.hid (HQ1.out.keep (hlt _ HQ1.out.lt))
  replace HQ2 := Lib.hid (HQ2.out.keep (hlt _ HQ2.out.lt))
  have HE1 := Lib.hid ((Blk.new w3 82 #[.int .i64 ex.1, .int .i64 ex.2]).keep (hb.block _ (by simp)))
  have HB4 : Hid (Below w.heap.size w w4) := (HB3.out.alloc HB3.out.size _).trans (hb.mono (by rw [World.size_alloc]; omega))
  have hs4 : w3.heap.size + 1 ≤ w4.heap.size := by have := hb.size; rwa [World.size_alloc] at this
  clear hb hbE hlt H2 HB3
  have HB5 : Hid (Below w.heap.size w (w4.alloc (.cells #[.int .i64 ey.1, .int .i64 ey.2] 82))) := HB4.out.alloc HB4.out.size _
  have x1 : w4.cell? ⟨w.heap.size, 1, none⟩ = some (.int .i64 x.1.on) := HQ1.out.cell 1
  have x2 : w4.cell? ⟨w.heap.size, 2, none⟩ = some (.int .i64 x.1.oa) := HQ1.out.cell 2
  have x3 : w4.cell? ⟨w.heap.size, 3, none⟩ = some (.string x.1.key) := HQ1.out.cell 3
  have y1 : w4.cell? ⟨w.heap.size + 1, 1, none⟩ = some (.int .i64 y.1.on) := HQ2.out.cell 1
  have y2 : w4.cell? ⟨w.heap.size + 1, 2, none⟩ = some (.int .i64 y.1.oa) := HQ2.out.cell 2
  have y3 : w4.cell? ⟨w.heap.size + 1, 3, none⟩ = some (.string y.1.key) := HQ2.out.cell 3
  have z0 : w4.cell? ⟨w3.heap.size, 0, none⟩ = some (.int .i64 ex.1) := HE1.out.cell 0
  have z1 : w4.cell? ⟨w3.heap.size, 1, none⟩ = some (.int .i64 ex.2) := HE1.out.cell 1
  have hn2 : w.heap.size < w4.heap.size := by omega
  have hn3 : w.heap.size + 1 < w4.heap.size := by omega
  have hn4 : w3.heap.size < w4.heap.size := by omega
  have E1 := fun w => eq_id x.1.on x.1.oa y.1.on y.1.oa w
  have E2 := fun w => eq_id ex.1 ex.2 ey.1 ey.2 w
  have HPL : Hid (placeP x y = (((x.1.on == y.1.on && x.1.oa == y.1.oa) && (decide (x.1.key.toList = y.1.key.toList))) && (ex.1 == ey.1 && ex.2 == ey.2))) := by
    show placeP x y = _
    unfold placeP objP
    rw [HEX.out, HEY.out, dec_pair, dec_key, show decide (ex = ey) = _ from dec_pair ex.1 ex.2 ey.1 ey.2]
  generalize (x.1.on == y.1.on && x.1.oa == y.1.oa) = b1 at *
  generalize (ex.1 == ey.1 && ex.2 == ey.2) = b3 at *
  cases b1
  · go_wp2_with fail
    go_ret
    exact ⟨by rw [HPL.out]; rfl, HB5.out⟩
  · by_cases hk : x.1.key.toList = y.1.key.toList
    · rw [decide_eq_true hk] at HPL
      go_wp2_with fail
      go_ret
      exact ⟨by rw [HPL.out]; rfl, HB5.out⟩
    · rw [decide_eq_false hk] at HPL
      go_wp2_with fail
      go_ret
      exact ⟨by rw [HPL.out]; rfl, HB5.out⟩
end Go.Proofs.YtclgfcjcpbiadaaGreatDoor
