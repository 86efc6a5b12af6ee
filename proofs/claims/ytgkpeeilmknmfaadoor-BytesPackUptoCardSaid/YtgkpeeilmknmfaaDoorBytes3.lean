/- Contracts: package bytes, lists of numbers. -/
import Derived.Test.YtgkpeeilmknmfaaDoorBytes2
namespace Go.Proofs.YtgkpeeilmknmfaaDoor
open Go.ChangeShapes Go.WideShapes Go.ChangeAt Go.RowKit

theorem infoInt : (Tryd.prog.info? 3).map (fun i => (i.zero, i.size, i.bytes)) = some (some (.int .i64 0), 1, 8) := by kernel_rfl

def sumsF : Int → List Int → List Int
  | _, [] => []
  | s, x :: l => wrap64 (s + x) :: sumsF (wrap64 (s + x)) l
def deltasF : Int → List Int → List Int
  | _, [] => []
  | a, x :: l => wrap64 (x - a) :: deltasF x l
theorem sumsF_length : ∀ (l : List Int) (s : Int), (sumsF s l).length = l.length
  | [], _ => rfl
  | x :: l, s => by simp [sumsF, sumsF_length l]
theorem deltasF_length : ∀ (l : List Int) (s : Int), (deltasF s l).length = l.length
  | [], _ => rfl
  | x :: l, s => by simp [deltasF, deltasF_length l]

def SumsAt (l : List Int) (k : Nat) (s : Int) (pre : List Int) : Prop := sumsF 0 l = pre ++ sumsF s (l.drop k) ∧ pre.length = k
theorem SumsAt.step {l : List Int} {k : Nat} {s : Int} {pre : List Int} (h : SumsAt l k s pre) (hlt : k < l.length) {x t : Int} (hx : Hid (l[k]? = some x)) (ht : Hid (t = wrap64 (s + x))) : SumsAt l (k + 1) t (pre ++ [t]) := by
  have hx' : l[k] = x := by have := hx.out; rw [List.getElem?_eq_getElem hlt] at this; exact Option.some.inj this
  have ht' := ht.out
  refine ⟨?_, by simp [h.2]⟩
  rw [h.1, List.drop_eq_getElem_cons hlt, sumsF, hx', ← ht', List.append_assoc]
  rfl
theorem SumsAt.fin {l : List Int} {k : Nat} {s : Int} {pre : List Int} (h : SumsAt l k s pre) (hlt : ¬ k < l.length) : sumsF 0 l = pre := by
  rw [h.1, List.drop_eq_nil_of_le (by omega)]; simp [sumsF]
def DeltasAt (l : List Int) (k : Nat) (s : Int) (pre : List Int) : Prop := deltasF 0 l = pre ++ deltasF s (l.drop k) ∧ pre.length = k
theorem DeltasAt.step {l : List Int} {k : Nat} {s : Int} {pre : List Int} (h : DeltasAt l k s pre) (hlt : k < l.length) {x t : Int} (hx : Hid (l[k]? = some x)) (ht : Hid (t = wrap64 (x - s))) : DeltasAt l (k + 1) x (pre ++ [t]) := by
  have hx' : l[k] = x := by have := hx.out; rw [List.getElem?_eq_getElem hlt] at this; exact Option.some.inj this
  have ht' := ht.out
  refine ⟨?_, by simp [h.2]⟩
  rw [h.1, List.drop_eq_getElem_cons hlt, deltasF, hx', ← ht', List.append_assoc]
  rfl
theorem DeltasAt.fin {l : List Int} {k : Nat} {s : Int} {pre : List Int} (h : DeltasAt l k s pre) (hlt : ¬ k < l.length) : deltasF 0 l = pre := by
  rw [h.1, List.drop_eq_nil_of_le (by omega)]; simp [deltasF]

theorem ints_at {l : List Int} {k : Nat} {x : Int} (h : l[k]? = some x) : (intsC l)[k]? = some (.int .i64 x) := by simp [intsC, h]
theorem reads_new_int (wr : World) (t : TypeId) (x : Int) (H : Nat) (hH : wr.heap.size = H) : Reads (fun k => k = H) (wr.alloc (.cells #[.int .i64 x] t)) 1 (some ⟨H, 0, none⟩) 1 (intsC [x]) := by
  subst hH
  refine ⟨by simp [intsC], fun _ => ⟨_, rfl, rfl, fun j u hu => ?_⟩⟩
  match j, hu with
  | 0, hu => simp [intsC] at hu; subst hu; simp [Addr.add]
  | j + 1, hu => simp [intsC] at hu

theorem infoPiece : (Tryd.prog.info? 48).map (fun i => (i.zero, i.size, i.bytes)) = some (some (.agg #[.int .i64 0, .int .i64 0]), 2, 16) := by kernel_rfl
theorem infoBool : (Tryd.prog.info? 4).map (fun i => (i.zero, i.size, i.bytes)) = some (some (.bool false), 1, 1) := by kernel_rfl

set_option maxHeartbeats 1000000 in
theorem sums_any (l : List Int) (D : Nat → Prop) (A : Option Addr) (c : Nat) (w : World) (hr : Reads D w 1 A l.length (intsC l)) (hD : ∀ k, D k → k < w.heap.size) (hl : l.length ≤ 2000000) :
    Calls Tryd.prog 23 #[.slice A l.length c] w fun e w' => ∃ v, e = .returned v ∧ w'.ownsRow w.heap.size 3 1 v (sumsF 0 l).length (intsC (sumsF 0 l)) ∧ Below w.heap.size w w' := by
  have HR := Lib.hid hr
  have HD := Lib.hid hD
  clear hr hD
  go_enter Tryd.func23, Tryd.ntmps23
  go_wp2
  go_loopw [2, 3, 5, 8] (fun v s3 _ i wr => ∃ (k : Nat) (s : Int) (pre : List Int), k ≤ l.length ∧ i = .int .i64 k ∧ s3 = .int .i64 s ∧ SumsAt l k s pre ∧
      wr.ownsRow w.heap.size 3 1 v pre.length (intsC pre) ∧ Below w.heap.size w wr) (fun _ _ _ i _ => l.length - (intOf i).toNat)
  case atStart => exact ⟨0, 0, [], by omega, rfl, rfl, ⟨rfl, rfl⟩, own_nil _ _ _ _, Below.refl _ _⟩
  case round =>
    obtain ⟨k, s, pre, hk, rfl, rfl, hat, hown, hb⟩ := hrel
    have HR1 := Lib.hid (HR.out.keep ((Below.keeps hb).mono HD.out))
    have hpl : pre.length ≤ 2000000 := by have := hat.2; omega
    by_cases hlt : k < l.length
    · obtain ⟨b, off, hA, _, hcell⟩ := HR1.out.at_ (by omega) (by omega)
      obtain ⟨x, hx⟩ := get_lt hlt
      have hc := hcell k _ (ints_at hx)
      have HX := Lib.hid hx
      clear hcell hx
      obtain ⟨t, ht⟩ : ∃ t, t = wrap64 (s + x) := ⟨_, rfl⟩
      have et : wrap64 (s + x) = t := ht.symm
      have HT := Lib.hid ht
      clear ht
      subst hA
      go_wp2_with (at_builtin; refine wpList_append_one 39 3 (.int .i64 0) 1 8 Tryd.underlying39 infoInt rfl (by omega) rfl (.tmp 15) (.tmp 17) rfl (w.heap.size) (u2) (pre.length) (intsC pre) rfl (hown.alloc _) (wr.heap.size) 1 ([.int .i64 t]) rfl ?c1 ?c2 ?c3 ?c4 ?c5 ?c6 ?_)
      try case c1 => rfl
      try case c2 => intro j u hj; exact new_cells _ _ _ hj
      try case c3 => first | exact intsC_one [t] | exact ⟨rfl, rfl⟩ | rfl
      try case c4 => omega
      try case c5 => omega
      try case c6 => have := hb.size; simp; omega
      intro v1 w1 hown1 hg1 hat1
      have hb1 : Below (w.heap.size) w w1 := (hb.alloc hb.size _).grown hg1 (by have := hb.size; simp; omega) (fun g hg => (own_lt (hown) hg).1)
      clear hat1 hg1
      go_wp2
      exact ⟨⟨k + 1, t, pre ++ [t], by omega, by go_num, rfl, hat.step hlt HX HT, by rw [List.length_append, intsC_append]; exact hown1, hb1⟩, by simp [intOf]; omega⟩
    · have HF := Lib.hid (hat.fin hlt)
      go_wp2
      go_ret
      exact ⟨_, rfl, by rw [HF.out]; exact hown, hb⟩

set_option maxHeartbeats 1000000 in
theorem deltas_any (l : List Int) (D : Nat → Prop) (A : Option Addr) (c : Nat) (w : World) (hr : Reads D w 1 A l.length (intsC l)) (hD : ∀ k, D k → k < w.heap.size) (hl : l.length ≤ 2000000) :
    Calls Tryd.prog 22 #[.slice A l.length c] w fun e w' => ∃ v, e = .returned v ∧ w'.ownsRow w.heap.size 3 1 v (deltasF 0 l).length (intsC (deltasF 0 l)) ∧ Below w.heap.size w w' := by
  have HR := Lib.hid hr
  have HD := Lib.hid hD
  clear hr hD
  go_enter Tryd.func22, Tryd.ntmps22
  go_wp2
  go_loopw [2, 3, 5, 8] (fun v s3 _ i wr => ∃ (k : Nat) (s : Int) (pre : List Int), k ≤ l.length ∧ i = .int .i64 k ∧ s3 = .int .i64 s ∧ DeltasAt l k s pre ∧
      wr.ownsRow w.heap.size 3 1 v pre.length (intsC pre) ∧ Below w.heap.size w wr) (fun _ _ _ i _ => l.length - (intOf i).toNat)
  case atStart => exact ⟨0, 0, [], by omega, rfl, rfl, ⟨rfl, rfl⟩, own_nil _ _ _ _, Below.refl _ _⟩
  case round =>
    obtain ⟨k, s, pre, hk, rfl, rfl, hat, hown, hb⟩ := hrel
    have HR1 := Lib.hid (HR.out.keep ((Below.keeps hb).mono HD.out))
    have hpl : pre.length ≤ 2000000 := by have := hat.2; omega
    by_cases hlt : k < l.length
    · obtain ⟨b, off, hA, _, hcell⟩ := HR1.out.at_ (by omega) (by omega)
      obtain ⟨x, hx⟩ := get_lt hlt
      have hc := hcell k _ (ints_at hx)
      have HX := Lib.hid hx
      clear hcell hx
      obtain ⟨t, ht⟩ : ∃ t, t = wrap64 (x - s) := ⟨_, rfl⟩
      have et : wrap64 (x - s) = t := ht.symm
      have HT := Lib.hid ht
      clear ht
      subst hA
      go_wp2_with (at_builtin; refine wpList_append_one 39 3 (.int .i64 0) 1 8 Tryd.underlying39 infoInt rfl (by omega) rfl (.tmp 12) (.tmp 16) rfl (w.heap.size) (u2) (pre.length) (intsC pre) rfl (hown.alloc _) (wr.heap.size) 1 ([.int .i64 t]) rfl ?c1 ?c2 ?c3 ?c4 ?c5 ?c6 ?_)
      try case c1 => rfl
      try case c2 => intro j u hj; exact new_cells _ _ _ hj
      try case c3 => first | exact intsC_one [t] | exact ⟨rfl, rfl⟩ | rfl
      try case c4 => omega
      try case c5 => omega
      try case c6 => have := hb.size; simp; omega
      intro v1 w1 hown1 hg1 hat1
      have hb1 : Below (w.heap.size) w w1 := (hb.alloc hb.size _).grown hg1 (by have := hb.size; simp; omega) (fun g hg => (own_lt (hown) hg).1)
      clear hat1 hg1
      go_wp2
      exact ⟨⟨k + 1, x, pre ++ [t], by omega, by go_num, rfl, hat.step hlt HX HT, by rw [List.length_append, intsC_append]; exact hown1, hb1⟩, by simp [intOf]; omega⟩
    · have HF := Lib.hid (hat.fin hlt)
      go_wp2
      go_ret
      exact ⟨_, rfl, by rw [HF.out]; exact hown, hb⟩

/-- two lists of numbers -/
theorem ints_yes (l : List Int) (D D' : Nat → Prop) (A B : Option Addr) (c d : Nat) (w : World) (hr : Reads D w 1 A l.length (intsC l)) (hs : Reads D' w 1 B l.length (intsC l))
    (hD : ∀ k, D k → k < w.heap.size) (hD' : ∀ k, D' k → k < w.heap.size) (hl : l.length ≤ 2000000) :
    Calls Tryd.prog 18 #[.slice A l.length c, .slice B l.length d] w fun e w' => e = .returned (.bool true) ∧ Below w.heap.size w w' := by
  have HR := Lib.hid hr
  have HS := Lib.hid hs
  have HD := Lib.hid hD
  have HD' := Lib.hid hD'
  clear hr hs hD hD'
  go_enter Tryd.func18, Tryd.ntmps18
  go_wp2
  go_loopw [5] (fun i wr => ∃ k : Nat, k ≤ l.length ∧ i = .int .i64 k ∧ Below w.heap.size w wr) (fun i _ => l.length - (intOf i).toNat)
  case atStart => exact ⟨0, by omega, rfl, Below.refl _ _⟩
  case round =>
    obtain ⟨k, hk, rfl, hb⟩ := hrel
    have HR1 := Lib.hid (HR.out.keep ((Below.keeps hb).mono HD.out))
    have HS1 := Lib.hid (HS.out.keep ((Below.keeps hb).mono HD'.out))
    by_cases hlt : k < l.length
    · obtain ⟨b, off, hA, _, hcell⟩ := HR1.out.at_ (by omega) (by omega)
      obtain ⟨b', of2, hB, _, hcell'⟩ := HS1.out.at_ (by omega) (by omega)
      obtain ⟨x, hx⟩ := get_lt hlt
      have hc := hcell k _ (ints_at hx)
      have hc' := hcell' k _ (ints_at hx)
      have h0 : (0 : Int) ≤ (k : Int) := by omega
      have h1 : (k : Int) < (l.length : Int) := by omega
      clear hcell hcell' hx
      subst hA
      subst hB
      go_wp2
      go_quiet (fail)
      go_wp2
      exact ⟨⟨k + 1, by omega, by go_num, below_drewN hb nq⟩, by simp [intOf]; omega⟩
    · go_wp2
      go_ret
      exact ⟨rfl, hb⟩
end Go.Proofs.YtgkpeeilmknmfaaDoor
