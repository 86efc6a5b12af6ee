/- Contracts: package bytes, flags. -/
import Derived.Test.YtgkpeeilmknmfaaDoorBytes5
namespace Go.Proofs.YtgkpeeilmknmfaaDoor
open Go.ChangeShapes Go.WideShapes Go.ChangeAt Go.RowKit

def boolsC (l : List Bool) : List Value := l.map fun b => .bool b
theorem boolsC_append (l r : List Bool) : boolsC (l ++ r) = boolsC l ++ boolsC r := by simp [boolsC]
theorem boolsC_length (l : List Bool) : (boolsC l).length = l.length := by simp [boolsC]
theorem boolsC_one (l : List Bool) : ∀ u ∈ boolsC l, u.oneCell' = true := by
  intro u hu; simp only [boolsC, List.mem_map] at hu; obtain ⟨c, _, rfl⟩ := hu; rfl
theorem bools_at {l : List Bool} {k : Nat} {x : Bool} (h : l[k]? = some x) : (boolsC l)[k]? = some (.bool x) := by simp [boolsC, h]

def flagsG : Bool → Int → List Bool → List Int
  | _, c, [] => [c]
  | now, c, f :: l => if f = now then flagsG now (c + 1) l else c :: flagsG f 1 l
def flagsL : List Bool → List Int
  | [] => []
  | l => flagsG false 0 l
theorem flagsL_eq {l : List Bool} (h : 0 < l.length) : flagsL l = flagsG false 0 l := by cases l <;> simp [flagsL] at h ⊢

def FlagsAt (l : List Bool) (k : Nat) (done : List Int) (now : Bool) (c : Int) : Prop := flagsL l = done ++ flagsG now c (l.drop k) ∧ 0 ≤ c ∧ c ≤ k ∧ done.length ≤ k
section
variable {l : List Bool} {k : Nat} {done : List Int} {now f : Bool} {c : Int}
theorem FlagsAt.start (h : 0 < l.length) : FlagsAt l 0 [] false 0 := ⟨flagsL_eq h, by omega, by omega, by simp⟩
theorem FlagsAt.same (h : FlagsAt l k done now c) (hx : Hid (l[k]? = some now)) : FlagsAt l (k + 1) done now (c + 1) := by
  obtain ⟨hlt, hx'⟩ := List.getElem?_eq_some_iff.1 hx.out
  obtain ⟨h1, h2, h3, h4⟩ := h
  exact ⟨by rw [h1, List.drop_eq_getElem_cons hlt, flagsG, hx', if_pos rfl], by omega, by omega, by omega⟩
theorem FlagsAt.other (h : FlagsAt l k done now c) (hx : Hid (l[k]? = some f)) (hf : ¬ f = now) : FlagsAt l (k + 1) (done ++ [c]) f 1 := by
  obtain ⟨hlt, hx'⟩ := List.getElem?_eq_some_iff.1 hx.out
  obtain ⟨h1, h2, h3, h4⟩ := h
  exact ⟨by rw [h1, List.drop_eq_getElem_cons hlt, flagsG, hx', if_neg hf, List.append_assoc]; rfl, by omega, by omega, by simp; omega⟩
theorem FlagsAt.fin (h : FlagsAt l k done now c) (hlt : ¬ k < l.length) : flagsL l = done ++ [c] := by
  rw [h.1, List.drop_eq_nil_of_le (by omega)]; rfl
theorem FlagsAt.bd (h : FlagsAt l k done now c) : 0 ≤ c ∧ c ≤ k ∧ done.length ≤ k := h.2
end
theorem intsC_set (done : List Int) (c c' : Int) : (intsC (done ++ [c])).set done.length (.int .i64 c') = intsC (done ++ [c']) := by
  rw [intsC_append, intsC_append, List.set_append_right _ _ (by rw [intsC_length]; omega), intsC_length, Nat.sub_self]
  rfl
theorem intsC_last (done : List Int) (c : Int) : (intsC (done ++ [c]))[done.length]? = some (.int .i64 c) := ints_at (by simp)

def FlagsRel (l : List Bool) (v : Value) (now : Bool) (k : Nat) (B : Nat) (wr : World) : Prop :=
  (k = 0 ∧ v = .slice none 0 0 ∧ now = false) ∨ ∃ done c, 1 ≤ k ∧ FlagsAt l k done now c ∧ wr.ownsRow B 3 1 v (done.length + 1) (intsC (done ++ [c]))

set_option maxHeartbeats 4000000 in
theorem flags_any (l : List Bool) (D : Nat → Prop) (A : Option Addr) (c : Nat) (w : World) (hr : Reads D w 1 A l.length (boolsC l)) (hD : ∀ k, D k → k < w.heap.size) (hl : l.length ≤ 2000000) :
    Calls Tryd.prog 17 #[.slice A l.length c] w fun e w' => ∃ v, e = .returned v ∧ w'.ownsRow w.heap.size 3 1 v (flagsL l).length (intsC (flagsL l)) ∧ Below w.heap.size w w' := by
  have HR := Lib.hid hr
  have HD := Lib.hid hD
  clear hr hD
  go_enter Tryd.func17, Tryd.ntmps17
  go_wp2
  go_loopw [2, 3, 5, 8] (fun v s3 _ i wr => ∃ (k : Nat) (now : Bool), k ≤ l.length ∧ i = .int .i64 k ∧ s3 = .bool now ∧ FlagsRel l v now k w.heap.size wr ∧ Below w.heap.size w wr) (fun _ _ _ i _ => l.length - (intOf i).toNat)
  case atStart => exact ⟨0, false, by omega, rfl, rfl, .inl ⟨rfl, rfl, rfl⟩, Below.refl _ _⟩
  case round =>
    obtain ⟨k, now, hk, rfl, rfl, hrel, hb⟩ := hrel
    have HR1 := Lib.hid (HR.out.keep ((Below.keeps hb).mono HD.out))
    by_cases hlt : k < l.length
    · obtain ⟨b, off, hA, _, hcell⟩ := HR1.out.at_ (by omega) (by omega)
      obtain ⟨x, hx⟩ := get_lt hlt
      have hc := hcell k _ (bools_at hx)
      have HX := Lib.hid hx
      clear hcell hx
      subst hA
      rcases hrel with ⟨hk0, rfl, rfl⟩ | ⟨done, cc, hk1, hat, hown⟩
      · have HS : Hid (FlagsAt l k [] false 0) := by subst hk0; exact FlagsAt.start (by omega)
        have HK := Lib.hid hk0
        clear hk0
        go_wp2_with (at_builtin; refine wpList_append_one 39 3 (.int .i64 0) 1 8 Tryd.underlying39 infoInt rfl (by omega) rfl (.tmp 15) (.tmp 16) rfl (w.heap.size) (.slice none 0 0) (0) ([]) rfl (own_nil _ _ _ _) (wr.heap.size) 1 ([.int .i64 0]) rfl ?c1 ?c2 ?c3 ?c4 ?c5 ?c6 ?_)
        try case c1 => rfl
        try case c2 => intro j u hj; exact new_cells _ _ _ hj
        try case c3 => first | exact intsC_one [0] | exact ⟨rfl, rfl⟩ | rfl
        try case c4 => omega
        try case c5 => omega
        try case c6 => have := hb.size; simp; omega
        intro v1 w1 hown1 hg1 hat1
        have hb1 : Below (w.heap.size) w w1 := (hb.alloc hb.size _).grown hg1 (by have := hb.size; simp; omega) (fun g hg => (own_lt (own_nil wr w.heap.size 3 1) hg).1)
        clear hat1 hg1
        cases x
        · have HE := Lib.hid (HS.out.same HX)
          obtain ⟨g, cap, hv, hgb, hgl⟩ := hown1.form (by omega)
          subst hv
          have hc0 : w1.cell? ⟨g, 0, none⟩ = some (.int .i64 0) := hown1.cellAt 0 (by omega)
          have hfz := hown1.frozenAt 0
          go_wp2
          have hst := hown1.stored 0 (.int .i64 1)
          exact ⟨⟨k + 1, false, by omega, by go_num, rfl, .inr ⟨[], 1, by omega, HE.out, hst.1⟩, hb1.setCell (by exact hgb) _⟩, by simp [intOf]; omega⟩
        · have HE := Lib.hid (HS.out.other HX (by decide))
          go_wp2_with (at_builtin; refine wpList_append_one 39 3 (.int .i64 0) 1 8 Tryd.underlying39 infoInt rfl (by omega) rfl (.tmp 22) (.tmp 23) rfl (w.heap.size) (v1) (1) ([.int .i64 0]) rfl (hown1.alloc _) (w1.heap.size) 1 ([.int .i64 0]) rfl ?c1 ?c2 ?c3 ?c4 ?c5 ?c6 ?_)
          try case c1 => rfl
          try case c2 => intro j u hj; exact new_cells _ _ _ hj
          try case c3 => first | exact intsC_one [0] | exact ⟨rfl, rfl⟩ | rfl
          try case c4 => omega
          try case c5 => omega
          try case c6 => have := hb1.size; simp; omega
          intro v2 w2 hown2 hg2 hat2
          have hb2 : Below w.heap.size w w2 := (hb1.alloc hb1.size _).grown hg2 (by have := hb1.size; simp; omega) (fun g hg => (own_lt hown1 hg).1)
          clear hat2 hg2
          obtain ⟨g, cap, hv, hgb, hgl⟩ := hown2.form (by omega)
          subst hv
          have hc0 : w2.cell? ⟨g, 1, none⟩ = some (.int .i64 0) := hown2.cellAt 1 (by omega)
          have hfz := hown2.frozenAt 1
          go_wp2
          have hst := hown2.stored 1 (.int .i64 1)
          exact ⟨⟨k + 1, true, by omega, by go_num, rfl, .inr ⟨[0], 1, by omega, HE.out, hst.1⟩, hb2.setCell (by exact hgb) _⟩, by simp [intOf]; omega⟩
      · have hbd := hat.bd
        obtain ⟨g, cap, hv, hgb, hgl⟩ := hown.form (by omega)
        by_cases hxn : x = now
        · subst hxn
          have HE := Lib.hid (hat.same HX)
          subst hv
          have hc0 := hown.cellAt done.length (by omega)
          rw [intsC_last] at hc0
          have hfz := hown.frozenAt done.length
          go_wp2
          have hst := hown.stored done.length (.int .i64 (cc + 1))
          rw [intsC_set] at hst
          exact ⟨⟨k + 1, x, by omega, by go_num, rfl, .inr ⟨done, cc + 1, by omega, HE.out, hst.1⟩, hb.setCell (by exact hgb) _⟩, by simp [intOf]; omega⟩
        · have HE := Lib.hid (hat.other HX hxn)
          have hne : (x == now) = false := by simpa using hxn
          clear hxn
          subst hv
          go_wp2_with (at_builtin; refine wpList_append_one 39 3 (.int .i64 0) 1 8 Tryd.underlying39 infoInt rfl (by omega) rfl (.tmp 22) (.tmp 23) rfl (w.heap.size) (.slice (some ⟨g, 0, none⟩) (done.length + 1) cap) (done.length + 1) (intsC (done ++ [cc])) rfl (hown.alloc _) (wr.heap.size) 1 ([.int .i64 0]) rfl ?c1 ?c2 ?c3 ?c4 ?c5 ?c6 ?_)
          try case c1 => rfl
          try case c2 => intro j u hj; exact new_cells _ _ _ hj
          try case c3 => first | exact intsC_one [0] | exact ⟨rfl, rfl⟩ | rfl
          try case c4 => omega
          try case c5 => omega
          try case c6 => have := hb.size; simp; omega
          intro v1 w1 hown1 hg1 hat1
          have hb1 : Below (w.heap.size) w w1 := (hb.alloc hb.size _).grown hg1 (by have := hb.size; simp; omega) (fun g hg => (own_lt (hown) hg).1)
          clear hat1 hg1
          obtain ⟨g', cap', hv', hgb', hgl'⟩ := hown1.form (by omega)
          subst hv'
          obtain ⟨q, hq⟩ : ∃ q, q = done ++ [cc] := ⟨_, rfl⟩
          have hql : q.length = done.length + 1 := by rw [hq]; simp
          have ho2 : w1.ownsRow w.heap.size 3 1 (.slice (some ⟨g', 0, none⟩) (done.length + 1 + 1) cap') (done.length + 1 + 1) (intsC (q ++ [0])) := by rw [hq, intsC_append]; exact hown1
          have hc0 := ho2.cellAt (done.length + 1) (by omega)
          rw [← hql, intsC_last, hql] at hc0
          have hfz := ho2.frozenAt (done.length + 1)
          have hst := ho2.stored (done.length + 1) (.int .i64 1)
          rw [← hql, intsC_set, hql] at hst
          have HST := Lib.hid hst
          have HQ := Lib.hid hq
          have HQL := Lib.hid hql
          clear hst hq hql
          go_wp2
          exact ⟨⟨k + 1, x, by omega, by go_num, rfl, .inr ⟨q, 1, by omega, by rw [HQ.out]; exact HE.out, by rw [HQL.out]; exact HST.out.1⟩, hb1.setCell (by exact hgb') _⟩, by simp [intOf]; omega⟩
    · rcases hrel with ⟨hk0, rfl, rfl⟩ | ⟨done, cc, hk1, hat, hown⟩
      · have HF : Hid (flagsL l = []) := by
          have : l.length = 0 := by omega
          rw [List.length_eq_zero_iff] at this
          subst this
          rfl
        clear hk0
        go_wp2
        go_ret
        exact ⟨_, rfl, by rw [HF.out]; exact own_nil _ _ _ _, hb⟩
      · have HF := Lib.hid (hat.fin hlt)
        go_wp2
        go_ret
        exact ⟨_, rfl, by rw [HF.out, List.length_append]; exact hown, hb⟩
end Go.Proofs.YtgkpeeilmknmfaaDoor
