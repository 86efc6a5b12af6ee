/- Contracts: a number of a list, a number put into a list, and out of it. -/
import Derived.Test.YtfaihilehdjfjaaDoorMem
import Derived.Test.YtfaihilehdjfjaaDoorBytes0
namespace Go.Proofs.YtfaihilehdjfjaaDoor
open Go.ChangeShapes Go.WideShapes Go.ChangeAt Go.RowKit

theorem infoInt : (Tryd.prog.info? 3).map (fun i => (i.zero, i.size, i.bytes)) = some (some (.int .i64 0), 1, 8) := by kernel_rfl
theorem ints_at {l : List Int} {k : Nat} {x : Int} (h : l[k]? = some x) : (intsC l)[k]? = some (.int .i64 x) := by simp [intsC, h]
theorem reads_new_int (wr : World) (t : TypeId) (x : Int) (H : Nat) (hH : wr.heap.size = H) : Reads (fun k => k = H) (wr.alloc (.cells #[.int .i64 x] t)) 1 (some ⟨H, 0, none⟩) 1 (intsC [x]) := by
  subst hH
  refine ⟨by simp [intsC], fun _ => ⟨_, rfl, rfl, fun j u hu => ?_⟩⟩
  match j, hu with
  | 0, hu => simp [intsC] at hu; subst hu; simp [Addr.add]
  | j + 1, hu => simp [intsC] at hu
theorem at_any (l : List Int) (i : Nat) (D : Nat → Prop) (A : Option Addr) (c : Nat) (w : World) (hr : Reads D w 1 A l.length (intsC l)) :
    Calls Tryd.prog 21 #[.slice A l.length c, .int .i64 i] w fun e w' => e = .returned (.int .i64 (l.getD i 0)) ∧ w' = w := by
  by_cases h : i < l.length
  · obtain ⟨b, off, rfl, hb, hcell⟩ := hr.at_ (by omega) (by omega)
    have hx := hcell i _ (ints_at (List.getElem?_eq_getElem h))
    have e1 : l.getD i 0 = l[i] := by rw [List.getD_eq_getElem?_getD, List.getElem?_eq_getElem h]; rfl
    rw [e1]
    clear hr hcell e1 hb
    generalize l[i] = x at hx ⊢
    generalize l.length = n at h ⊢
    have h' : decide ((i : Int) < (n : Int)) = true := decide_eq_true (by omega)
    go_enter Tryd.func21, Tryd.ntmps21
    go_wp2_with fail
    go_ret
    exact ⟨rfl, rfl⟩
  · have e1 : l.getD i 0 = 0 := by rw [List.getD_eq_getElem?_getD, List.getElem?_eq_none (by omega)]; rfl
    rw [e1]
    clear hr e1
    generalize l.length = n at h ⊢
    have h' : decide ((i : Int) < (n : Int)) = false := decide_eq_false (by omega)
    go_enter Tryd.func21, Tryd.ntmps21
    go_wp2_with fail
    go_ret
    exact ⟨rfl, rfl⟩

set_option maxHeartbeats 1000000 in
set_option maxRecDepth 20000 in
theorem put_any (l : List Int) (k : Nat) (x : Int) (D : Nat → Prop) (A : Option Addr) (c : Nat) (w : World) (hr : Reads D w 1 A l.length (intsC l)) (hD : ∀ k, D k → k < w.heap.size) (hl : l.length ≤ 100000) (hc : l.length ≤ c) (hm : c ≤ maxLen) (hk : k ≤ l.length) :
    Calls Tryd.prog 24 #[.slice A l.length c, .int .i64 k, .int .i64 x] w fun e w' => ∃ v, e = .returned v ∧ w'.ownsRow w.heap.size 3 1 v (l.length + 1) (intsC (l.take k ++ x :: l.drop k)) ∧ Below w.heap.size w w' := by
  obtain ⟨i0, hi, hz0, hz1, hz2⟩ := info_parts infoInt
  have hm' : c ≤ 9223372036854775807 := by simpa only [maxLen, Nat.reducePow, Nat.reduceSub] using hm
  have HR := Lib.hid hr
  have HD := Lib.hid hD
  have ht : Hid (Reads D w 1 A (l.take k).length (intsC (l.take k))) := by
    have := hr.take hk
    show Reads D w 1 A (l.take k).length (intsC (l.take k))
    simpa [intsC, List.map_take, Nat.min_eq_left hk] using this
  have hcut := Lib.hid (hr.cut hk hc)
  clear hr hD hm
  go_enter Tryd.func24, Tryd.ntmps24
  go_wp2_with (at_builtin; refine wpList_append_any _ rfl (.tmp 8) (.tmp 11) _ rfl (w.heap.size) 3 i0 _ 1 8 Tryd.underlying51 hi hz0 hz1 hz2 rfl (by omega) (.slice none 0 0) (0) ([]) rfl (own_nil _ _ _ _) _ (A) (k) (c) (intsC (l.take k)) rfl ((by have := ht.out; rwa [List.length_take, Nat.min_eq_left hk] at this)) (intsC_one _) ?c1 ?c2 ?c3 ?_)
  case c1 => simp only [maxLen]; omega
  case c2 => omega
  case c3 => omega
  intro v1 w1 ho1 hg1 hat1
  have hb1 : Below w.heap.size w w1 := (Below.refl _ w).grown hg1 (Nat.le_refl _) (fun g hg => by cases hg)
  have HO1 := Lib.hid ho1
  have HB1 := Lib.hid hb1
  clear ho1 hg1 hat1 hb1
  go_wp2_with (at_builtin; refine wpList_append_any _ rfl (.tmp 13) (.tmp 15) _ rfl (w.heap.size) 3 i0 _ 1 8 Tryd.underlying51 hi hz0 hz1 hz2 rfl (by omega) (v1) (k) (intsC (l.take k)) rfl (HO1.out.alloc _) _ (some ⟨w1.heap.size, 0, none⟩) (1) (1) (intsC [x]) rfl (reads_new_int _ _ _ _ rfl) (intsC_one _) ?c1 ?c2 ?c3 ?_)
  case c1 => simp only [maxLen]; omega
  case c2 => omega
  case c3 => have := HB1.out.size; simp; omega
  intro v2 w2 ho2 hg2 hat2
  have hb2 : Below w.heap.size w w2 := (HB1.out.alloc HB1.out.size _).grown hg2 (by have := HB1.out.size; simp; omega) (fun g hg => (own_lt HO1.out hg).1)
  have HO2 : Hid (w2.ownsRow w.heap.size 3 1 v2 (k + 1) (intsC (l.take k ++ [x]))) := by
    show w2.ownsRow w.heap.size 3 1 v2 (k + 1) (intsC (l.take k ++ [x]))
    rw [intsC_append]; exact ho2
  have HB2 := Lib.hid hb2
  clear ho2 hg2 hat2 hb2 HO1 HB1
  have hl' : k + 1 + (l.length - k) = l.length + 1 := by omega
  have hxs : intsC (l.take k ++ [x]) ++ intsC (l.drop k) = intsC (l.take k ++ x :: l.drop k) := by rw [← intsC_append]; simp
  by_cases hcn : c = k
  · have hlk : l.length = k := by omega
    have hdr : l.drop k = [] := List.drop_eq_nil_of_le (by omega)
    have HX := Lib.hid (And.intro hlk (And.intro hdr hxs))
    clear hcut ht HR hxs hl' hlk hdr
    subst hcn
    go_wp2_with (at_builtin; refine wpList_append_any _ rfl (.tmp 17) (.tmp 20) _ rfl (w.heap.size) 3 i0 _ 1 8 Tryd.underlying51 hi hz0 hz1 hz2 rfl (by omega) (v2) (c + 1) (intsC (l.take c ++ [x])) rfl (HO2.out) _ (A) (0) (0) ([]) rfl (Reads.none_ (D := D)) (intsC_one []) ?c1 ?c2 ?c3 ?_)
    case c1 => simp only [maxLen]; omega
    case c2 => omega
    case c3 => exact HB2.out.size
    intro v3 w3 ho3 hg3 hat3
    go_wp2
    go_ret
    refine ⟨v3, rfl, ?_, HB2.out.grown hg3 HB2.out.size (fun g hg => (own_lt HO2.out hg).1)⟩
    have e := HX.out.2.2
    rw [HX.out.2.1] at e ⊢
    simp only [intsC, List.map_nil, List.append_nil] at e
    rw [HX.out.1]
    simpa [intsC] using ho3
  · have HX := Lib.hid (And.intro hl' hxs)
    have HC : Hid (Reads D w2 1 (A.map (fun a => a.add k)) (l.length - k) (intsC (l.drop k))) := by
      have h1 := (hcut.out.keep (D := D) (w' := w2) (fun i hi => HB2.out.block i (HD.out i hi)))
      rw [if_neg hcn] at h1
      show Reads D w2 1 (A.map (fun a => a.add k)) (l.length - k) (intsC (l.drop k))
      simpa [intsC, List.map_drop] using h1
    clear hcut ht HR hxs hl'
    go_wp2_with (at_builtin; refine wpList_append_any _ rfl (.tmp 17) (.tmp 20) _ rfl (w.heap.size) 3 i0 _ 1 8 Tryd.underlying51 hi hz0 hz1 hz2 rfl (by omega) (v2) (k + 1) (intsC (l.take k ++ [x])) rfl (HO2.out) _ (A.map (fun a => a.add k)) (l.length - k) (c - k) (intsC (l.drop k)) rfl (HC.out) (intsC_one _) ?d1 ?d2 ?d3 ?_)
    case d1 => simp only [maxLen]; omega
    case d2 => omega
    case d3 => exact HB2.out.size
    intro v3 w3 ho3 hg3 hat3
    go_wp2
    go_ret
    refine ⟨v3, rfl, ?_, HB2.out.grown hg3 HB2.out.size (fun g hg => (own_lt HO2.out hg).1)⟩
    rw [HX.out.1, HX.out.2] at ho3
    exact ho3

set_option maxHeartbeats 1000000 in
set_option maxRecDepth 20000 in
theorem cut_any (l : List Int) (k : Nat) (D : Nat → Prop) (A : Option Addr) (c : Nat) (w : World) (hr : Reads D w 1 A l.length (intsC l)) (hD : ∀ k, D k → k < w.heap.size) (hl : l.length ≤ 100000) (hc : l.length ≤ c) (hm : c ≤ maxLen) (hk : k < l.length) :
    Calls Tryd.prog 26 #[.slice A l.length c, .int .i64 k] w fun e w' => ∃ v, e = .returned v ∧ w'.ownsRow w.heap.size 3 1 v (l.length - 1) (intsC (l.take k ++ l.drop (k + 1))) ∧ Below w.heap.size w w' := by
  obtain ⟨i0, hi, hz0, hz1, hz2⟩ := info_parts infoInt
  have hm' : c ≤ 9223372036854775807 := by simpa only [maxLen, Nat.reducePow, Nat.reduceSub] using hm
  have HR := Lib.hid hr
  have HD := Lib.hid hD
  have ht : Hid (Reads D w 1 A (l.take k).length (intsC (l.take k))) := by
    have := hr.take (Nat.le_of_lt hk)
    show Reads D w 1 A (l.take k).length (intsC (l.take k))
    simpa [intsC, List.map_take, Nat.min_eq_left (Nat.le_of_lt hk)] using this
  have hcut := Lib.hid (hr.cut (k := k + 1) hk hc)
  clear hr hD hm
  go_enter Tryd.func26, Tryd.ntmps26
  go_wp2_with (at_builtin; refine wpList_append_any _ rfl (.tmp 6) (.tmp 9) _ rfl (w.heap.size) 3 i0 _ 1 8 Tryd.underlying51 hi hz0 hz1 hz2 rfl (by omega) (.slice none 0 0) (0) ([]) rfl (own_nil _ _ _ _) _ (A) (k) (c) (intsC (l.take k)) rfl ((by have := ht.out; rwa [List.length_take, Nat.min_eq_left (Nat.le_of_lt hk)] at this)) (intsC_one _) ?c1 ?c2 ?c3 ?_)
  case c1 => simp only [maxLen]; omega
  case c2 => omega
  case c3 => omega
  intro v1 w2 ho1 hg1 hat1
  have hb1 : Below w.heap.size w w2 := (Below.refl _ w).grown hg1 (Nat.le_refl _) (fun g hg => by cases hg)
  have HO2 : Hid (w2.ownsRow w.heap.size 3 1 v1 k (intsC (l.take k))) := ho1
  have HB2 := Lib.hid hb1
  clear ho1 hg1 hat1 hb1
  have hl' : k + (l.length - (k + 1)) = l.length - 1 := by omega
  have hxs : intsC (l.take k) ++ intsC (l.drop (k + 1)) = intsC (l.take k ++ l.drop (k + 1)) := by rw [← intsC_append]
  by_cases hcn : c = k + 1
  · have hlk : l.length = k + 1 := by omega
    have hdr : l.drop (k + 1) = [] := List.drop_eq_nil_of_le (by omega)
    have HX := Lib.hid (And.intro hlk (And.intro hdr hxs))
    clear hcut ht HR hxs hl' hlk hdr
    subst hcn
    go_wp2_with (at_builtin; refine wpList_append_any _ rfl (.tmp 11) (.tmp 15) _ rfl (w.heap.size) 3 i0 _ 1 8 Tryd.underlying51 hi hz0 hz1 hz2 rfl (by omega) (v1) (k) (intsC (l.take k)) rfl (HO2.out) _ (A) (0) (0) ([]) rfl (Reads.none_ (D := D)) (intsC_one []) ?c1 ?c2 ?c3 ?_)
    case c1 => simp only [maxLen]; omega
    case c2 => omega
    case c3 => exact HB2.out.size
    intro v3 w3 ho3 hg3 hat3
    go_wp2
    go_ret
    refine ⟨v3, rfl, ?_, HB2.out.grown hg3 HB2.out.size (fun g hg => (own_lt HO2.out hg).1)⟩
    rw [HX.out.2.1, HX.out.1]
    simpa [intsC] using ho3
  · have HX := Lib.hid (And.intro hl' hxs)
    have HC : Hid (Reads D w2 1 (A.map (fun a => a.add (k + 1))) (l.length - (k + 1)) (intsC (l.drop (k + 1)))) := by
      have h1 := (hcut.out.keep (D := D) (w' := w2) (fun i hi => HB2.out.block i (HD.out i hi)))
      rw [if_neg hcn] at h1
      show Reads D w2 1 (A.map (fun a => a.add (k + 1))) (l.length - (k + 1)) (intsC (l.drop (k + 1)))
      simpa [intsC, List.map_drop] using h1
    clear hcut ht HR hxs hl'
    go_wp2_with (at_builtin; refine wpList_append_any _ rfl (.tmp 11) (.tmp 15) _ rfl (w.heap.size) 3 i0 _ 1 8 Tryd.underlying51 hi hz0 hz1 hz2 rfl (by omega) (v1) (k) (intsC (l.take k)) rfl (HO2.out) _ (A.map (fun a => a.add (k + 1))) (l.length - (k + 1)) (c - (k + 1)) (intsC (l.drop (k + 1))) rfl (HC.out) (intsC_one _) ?d1 ?d2 ?d3 ?_)
    case d1 => simp only [maxLen]; omega
    case d2 => omega
    case d3 => exact HB2.out.size
    intro v3 w3 ho3 hg3 hat3
    go_wp2
    go_ret
    refine ⟨v3, rfl, ?_, HB2.out.grown hg3 HB2.out.size (fun g hg => (own_lt HO2.out hg).1)⟩
    rw [HX.out.1, HX.out.2] at ho3
    exact ho3
end Go.Proofs.YtfaihilehdjfjaaDoor
