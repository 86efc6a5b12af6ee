/- Contracts: package bytes, runs of numbers. -/
import Derived.Test.YtgkpeeilmknmfaaDoorBytes3
namespace Go.Proofs.YtgkpeeilmknmfaaDoor
open Go.ChangeShapes Go.WideShapes Go.ChangeAt Go.RowKit

/-- pairs of numbers, as cells -/
def pairsC (l : List (Int × Int)) : List Value := l.flatMap fun p => [.int .i64 p.1, .int .i64 p.2]
theorem pairsC_cons (p : Int × Int) (l : List (Int × Int)) : pairsC (p :: l) = .int .i64 p.1 :: .int .i64 p.2 :: pairsC l := rfl
theorem pairsC_append (l r : List (Int × Int)) : pairsC (l ++ r) = pairsC l ++ pairsC r := by simp [pairsC]
theorem pairsC_length : ∀ (l : List (Int × Int)), (pairsC l).length = l.length * 2
  | [] => rfl
  | p :: l => by rw [pairsC_cons]; simp [pairsC_length l]; omega
theorem pairsC_one (l : List (Int × Int)) : ∀ u ∈ pairsC l, u.oneCell' = true := by
  intro u hu
  simp only [pairsC, List.mem_flatMap] at hu
  obtain ⟨p, _, hp⟩ := hu
  simp at hp
  rcases hp with rfl | rfl <;> rfl
theorem pairsC_fst : ∀ (l : List (Int × Int)) (i : Nat) (p : Int × Int), l[i]? = some p → (pairsC l)[i * 2]? = some (.int .i64 p.1)
  | [], _, _, h => by simp at h
  | q :: l, 0, p, h => by simp at h; subst h; rfl
  | q :: l, i + 1, p, h => by
    rw [pairsC_cons, show (i + 1) * 2 = i * 2 + 1 + 1 by omega, List.getElem?_cons_succ, List.getElem?_cons_succ]
    exact pairsC_fst l i p (by simpa using h)
theorem pairsC_snd : ∀ (l : List (Int × Int)) (i : Nat) (p : Int × Int), l[i]? = some p → (pairsC l)[i * 2 + 1]? = some (.int .i64 p.2)
  | [], _, _, h => by simp at h
  | q :: l, 0, p, h => by simp at h; subst h; rfl
  | q :: l, i + 1, p, h => by
    rw [pairsC_cons, show (i + 1) * 2 + 1 = i * 2 + 1 + 1 + 1 by omega, List.getElem?_cons_succ, List.getElem?_cons_succ]
    exact pairsC_snd l i p (by simpa using h)
theorem pairsC_set (done : List (Int × Int)) (m y m' : Int) : (pairsC (done ++ [(m, y)])).set (done.length * 2) (.int .i64 m') = pairsC (done ++ [(m', y)]) := by
  rw [pairsC_append, pairsC_append, List.set_append_right _ _ (by rw [pairsC_length]; omega), pairsC_length, Nat.sub_self]
  rfl

def runsG : Int → Int → List Int → List (Int × Int)
  | m, x, [] => [(m, x)]
  | m, x, y :: l => if y = x then runsG (m + 1) x l else (m, x) :: runsG 1 y l
def runsL : List Int → List (Int × Int)
  | [] => []
  | x :: l => runsG 1 x l
theorem runsG_length : ∀ (l : List Int) (m x : Int), 1 ≤ (runsG m x l).length ∧ (runsG m x l).length ≤ l.length + 1
  | [], m, x => by simp [runsG]
  | y :: l, m, x => by
    simp only [runsG]
    split
    · have := runsG_length l (m + 1) x; simp; omega
    · have := runsG_length l 1 y; simp; omega
theorem runsL_length (l : List Int) : (runsL l).length ≤ l.length := by
  cases l with
  | nil => simp [runsL]
  | cons x l => have := runsG_length l 1 x; simp [runsL]; omega

def RunsAt (l : List Int) (k : Nat) (done : List (Int × Int)) (m y : Int) : Prop := runsL l = done ++ runsG m y (l.drop k) ∧ 1 ≤ m ∧ m ≤ k ∧ done.length < k
section
variable {l : List Int} {k : Nat} {done : List (Int × Int)} {m y x : Int}
theorem RunsAt.same (h : RunsAt l k done m y) (hx : Hid (l[k]? = some x)) (hxy : y = x) : RunsAt l (k + 1) done (m + 1) y := by
  obtain ⟨hlt, hx'⟩ := List.getElem?_eq_some_iff.1 hx.out
  obtain ⟨h1, h2, h3, h4⟩ := h
  refine ⟨?_, by omega, by omega, by omega⟩
  rw [h1, List.drop_eq_getElem_cons hlt, runsG, hx', if_pos hxy.symm]
theorem RunsAt.other (h : RunsAt l k done m y) (hx : Hid (l[k]? = some x)) (hxy : ¬ y = x) : RunsAt l (k + 1) (done ++ [(m, y)]) 1 x := by
  obtain ⟨hlt, hx'⟩ := List.getElem?_eq_some_iff.1 hx.out
  obtain ⟨h1, h2, h3, h4⟩ := h
  refine ⟨?_, by omega, by omega, by simp; omega⟩
  rw [h1, List.drop_eq_getElem_cons hlt, runsG, hx', if_neg (fun e => hxy e.symm), List.append_assoc]
  rfl
theorem RunsAt.first (hx : Hid (l[0]? = some x)) : RunsAt l 1 [] 1 x := by
  obtain ⟨hlt, hx'⟩ := List.getElem?_eq_some_iff.1 hx.out
  cases l with
  | nil => simp at hlt
  | cons a l => simp at hx'; subst hx'; exact ⟨rfl, by omega, by omega, by simp⟩
theorem RunsAt.fin (h : RunsAt l k done m y) (hlt : ¬ k < l.length) : runsL l = done ++ [(m, y)] := by
  rw [h.1, List.drop_eq_nil_of_le (by omega)]; rfl
theorem RunsAt.bd (h : RunsAt l k done m y) : 1 ≤ m ∧ m ≤ k ∧ done.length < k := h.2
end

/-- the loop of Runs -/
def RunsRel (l : List Int) (v : Value) (k : Nat) (B : Nat) (wr : World) : Prop :=
  (k = 0 ∧ v = .slice none 0 0) ∨ ∃ done m y, RunsAt l k done m y ∧ wr.ownsRow B 48 2 v (done.length + 1) (pairsC (done ++ [(m, y)]))

set_option maxHeartbeats 2000000 in
theorem runs_any (l : List Int) (D : Nat → Prop) (A : Option Addr) (c : Nat) (w : World) (hr : Reads D w 1 A l.length (intsC l)) (hD : ∀ k, D k → k < w.heap.size) (hl : l.length ≤ 2000000) :
    Calls Tryd.prog 20 #[.slice A l.length c] w fun e w' => ∃ v, e = .returned v ∧ w'.ownsRow w.heap.size 48 2 v (runsL l).length (pairsC (runsL l)) ∧ Below w.heap.size w w' := by
  have HR := Lib.hid hr
  have HD := Lib.hid hD
  clear hr hD
  go_enter Tryd.func20, Tryd.ntmps20
  go_wp2
  go_loopw [2, 4, 5, 8] (fun v _ _ i wr => ∃ (k : Nat), k ≤ l.length ∧ i = .int .i64 k ∧ RunsRel l v k w.heap.size wr ∧ Below w.heap.size w wr) (fun _ _ _ i _ => l.length - (intOf i).toNat)
  case atStart => exact ⟨0, by omega, rfl, .inl ⟨rfl, rfl⟩, Below.refl _ _⟩
  case round =>
    obtain ⟨k, hk, rfl, hrel, hb⟩ := hrel
    have HR1 := Lib.hid (HR.out.keep ((Below.keeps hb).mono HD.out))
    by_cases hlt : k < l.length
    · obtain ⟨b, off, hA, _, hcell⟩ := HR1.out.at_ (by omega) (by omega)
      obtain ⟨x, hx⟩ := get_lt hlt
      have hc := hcell k _ (ints_at hx)
      have HX := Lib.hid hx
      clear hcell hx
      subst hA
      rcases hrel with ⟨hk0, rfl⟩ | ⟨done, m, y, hat, hown⟩
      · have HK := Lib.hid hk0
        clear hk0
        go_wp2_with (at_builtin; refine wpList_append_one 45 48 (.agg #[.int .i64 0, .int .i64 0]) 2 16 Tryd.underlying45 infoPiece rfl (by omega) rfl (.tmp 34) (.tmp 37) rfl (w.heap.size) (.slice none 0 0) (0) ([]) rfl (own_nil _ _ _ _) (wr.heap.size) 1 ([.int .i64 1, .int .i64 x]) rfl ?c1 ?c2 ?c3 ?c4 ?c5 ?c6 ?_)
        try case c1 => rfl
        try case c2 => intro j u hj; exact new_cells _ _ _ hj
        try case c3 => first | exact pairsC_one [(1, x)] | exact ⟨rfl, rfl⟩ | rfl
        try case c4 => omega
        try case c5 => omega
        try case c6 => have := hb.size; simp; omega
        intro v1 w1 hown1 hg1 hat1
        have hb1 : Below (w.heap.size) w w1 := (hb.alloc hb.size _).grown hg1 (by have := hb.size; simp; omega) (fun g hg => (own_lt (own_nil wr w.heap.size 48 2) hg).1)
        clear hat1 hg1
        go_wp2
        exact ⟨⟨1, by omega, by have := HK.out; subst this; rfl, .inr ⟨[], 1, x, RunsAt.first (by have := HK.out; subst this; exact HX), hown1⟩, hb1⟩, by simp [intOf]; omega⟩
      · have hbd := hat.bd
        obtain ⟨g, cap, hv, hgb, hgl⟩ := hown.form (by omega)
        subst hv
        have hc0 := hown.cellAt (done.length * 2) (by omega)
        have hc1 := hown.cellAt (done.length * 2 + 1) (by omega)
        have hfz := hown.frozenAt (done.length * 2)
        rw [pairsC_fst _ done.length (m, y) (by simp)] at hc0
        rw [pairsC_snd _ done.length (m, y) (by simp)] at hc1
        by_cases hxy : y = x
        · have HE := Lib.hid (hat.same HX hxy)
          subst hxy
          go_wp2
          have hst := hown.stored (done.length * 2) (.int .i64 (m + 1))
          rw [pairsC_set] at hst
          exact ⟨⟨k + 1, by omega, by go_num, .inr ⟨done, m + 1, y, HE.out, hst.1⟩, hb.setCell (by exact hgb) _⟩, by simp [intOf]; omega⟩
        · have HE := Lib.hid (hat.other HX hxy)
          have hne : (y == x) = false := by simpa using hxy
          clear hxy
          go_wp2_with (at_builtin; refine wpList_append_one 45 48 (.agg #[.int .i64 0, .int .i64 0]) 2 16 Tryd.underlying45 infoPiece rfl (by omega) rfl (.tmp 34) (.tmp 37) rfl (w.heap.size) (.slice (some ⟨g, 0, none⟩) (done.length + 1) cap) (done.length + 1) (pairsC (done ++ [(m, y)])) rfl (hown.alloc _) (wr.heap.size) 1 ([.int .i64 1, .int .i64 x]) rfl ?c1 ?c2 ?c3 ?c4 ?c5 ?c6 ?_)
          try case c1 => rfl
          try case c2 => intro j u hj; exact new_cells _ _ _ hj
          try case c3 => first | exact pairsC_one [(1, x)] | exact ⟨rfl, rfl⟩ | rfl
          try case c4 => omega
          try case c5 => omega
          try case c6 => have := hb.size; simp; omega
          intro v1 w1 hown1 hg1 hat1
          have hb1 : Below (w.heap.size) w w1 := (hb.alloc hb.size _).grown hg1 (by have := hb.size; simp; omega) (fun g hg => (own_lt (hown) hg).1)
          clear hat1 hg1
          go_wp2
          exact ⟨⟨k + 1, by omega, by go_num, .inr ⟨done ++ [(m, y)], 1, x, HE.out, by rw [List.length_append, pairsC_append]; exact hown1⟩, hb1⟩, by simp [intOf]; omega⟩
    · rcases hrel with ⟨hk0, rfl⟩ | ⟨done, m, y, hat, hown⟩
      · have HF : Hid (runsL l = []) := by
          have : l.length = 0 := by omega
          rw [List.length_eq_zero_iff] at this
          subst this
          rfl
        clear hk0
        go_wp2
        go_ret
        exact ⟨_, rfl, by rw [HF.out]; exact own_nil _ _ _ _, hb⟩
      · have HF := Lib.hid (hat.fin hlt)
        go_wp2
        go_ret
        exact ⟨_, rfl, by rw [HF.out, List.length_append]; exact hown, hb⟩
end Go.Proofs.YtgkpeeilmknmfaaDoor
