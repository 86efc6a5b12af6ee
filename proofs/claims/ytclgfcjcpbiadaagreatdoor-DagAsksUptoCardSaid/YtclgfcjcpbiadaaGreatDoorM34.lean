/- Contracts: refs held against each other. -/
import Derived.Test.YtclgfcjcpbiadaaGreatDoorDag6
import Derived.Lib.Small
import Derived.Sort.Grow
import Derived.Test.YtclgfcjcpbiadaaGreatDoorM1
import Derived.Test.YtclgfcjcpbiadaaGreatDoorShelf
import Derived.Shelf.SlSortCmp.WholeK
import Derived.Shelf.SlSortCmp.NoneTotal
import Derived.Test.YtclgfcjcpbiadaaGreatDoorM18
import Derived.Test.YtclgfcjcpbiadaaGreatDoorSRef9
import Derived.Test.YtclgfcjcpbiadaaGreatDoorM26
set_option linter.unusedVariables false
set_option linter.unusedSimpArgs false
namespace Go.Proofs.YtclgfcjcpbiadaaGreatDoor
open Go.ChangeShapes Go.WideShapes Go.ChangeAt Go.RowKit

/-- a world that drew, and laid blocks, alone -/
def Gr (w w' : World) : Prop := ∃ (q : Nat) (os' : Array Obj), w' = Sort.grow (w.drewN q) os'
theorem Gr.refl (w : World) : Gr w w := ⟨0, #[], by rw [Sort.grow_empty]; rfl⟩
theorem Gr.alloc {w w' : World} (h : Gr w w') (o : Obj) : Gr w (w'.alloc o) := by
  obtain ⟨q, os, rfl⟩ := h
  exact ⟨q, os ++ #[o], by rw [Sort.alloc_eq_grow, Sort.grow_grow]⟩
theorem Gr.drew {w w' : World} (h : Gr w w') : Gr w w'.drew := by
  obtain ⟨q, os, rfl⟩ := h
  exact ⟨q + 1, os, rfl⟩
theorem Gr.trans {a b c : World} (h : Gr a b) (k : Gr b c) : Gr a c := by
  obtain ⟨q, os, rfl⟩ := h
  obtain ⟨q2, os2, rfl⟩ := k
  refine ⟨q + q2, os ++ os2, ?_⟩
  rw [← World.drewN_drewN, ← Sort.grow_grow]
  rfl
theorem Gr.below {w w' : World} (h : Gr w w') : Below w.heap.size w w' := by
  obtain ⟨q, os, rfl⟩ := h
  refine ⟨rfl, rfl, rfl, ?_, fun k hk => ?_⟩
  · simp only [Sort.grow, World.drewN, Array.size_append]; omega
  · simp only [Sort.grow, World.drewN]
    rw [Array.getElem?_append_left hk]
theorem compare_any (x y : Int) (w : World) : Calls Tryz.prog 92 #[.int .i64 x, .int .i64 y] w fun e w' => e = .returned (.int .i64 (Lib.compareInt x y)) ∧ w' = w := by
  by_cases h1 : x < y
  · have e : Lib.compareInt x y = -1 := by simp [Lib.compareInt, h1]
    rw [e]
    have d1 : decide (x < y) = true := decide_eq_true h1
    go_enter Tryz.func92, Tryz.ntmps92
    go_wp2
    go_ret
    exact ⟨rfl, rfl⟩
  · by_cases h2 : y < x
    · have e : Lib.compareInt x y = 1 := by simp [Lib.compareInt, h1, h2]
      rw [e]
      have d1 : decide (x < y) = false := decide_eq_false h1
      have d2 : decide (y < x) = true := decide_eq_true h2
      go_enter Tryz.func92, Tryz.ntmps92
      go_wp2
      go_ret
      exact ⟨rfl, rfl⟩
    · have e : Lib.compareInt x y = 0 := by simp [Lib.compareInt, h1, h2]
      rw [e]
      have d1 : decide (x < y) = false := decide_eq_false h1
      have d2 : decide (y < x) = false := decide_eq_false h2
      go_enter Tryz.func92, Tryz.ntmps92
      go_wp2
      go_ret
      exact ⟨rfl, rfl⟩
theorem orI_any (x y : Int) (g : Nat) (w : World) (c0 : w.cell? ⟨g, 0, none⟩ = some (.int .i64 x)) (c1 : w.cell? ⟨g, 1, none⟩ = some (.int .i64 y)) :
    Calls Tryz.prog 91 #[.slice (some ⟨g, 0, none⟩) 2 2] w fun e w' => e = .returned (.int .i64 (if x = 0 then y else x)) ∧ w' = w := by
  by_cases hx : x = 0
  · have HX := Lib.hid hx
    rw [if_pos hx]
    rw [hx] at c0
    clear hx
    go_enter Tryz.func91, Tryz.ntmps91
    go_wp2_with fail
    go_loop [8] (fun s8 => ∃ k : Nat, s8 = .int .i64 k ∧ k ≤ 2 ∧ (k = 2 → y = 0)) (fun s8 => 2 - (intOf s8).toNat)
    case atStart => exact ⟨0, rfl, by omega, by omega⟩
    case round =>
      obtain ⟨k, rfl, hk, h2⟩ := hrel
      have h3 : k = 0 ∨ k = 1 ∨ k = 2 := by omega
      have H2 := Lib.hid h2
      clear h2
      rcases h3 with rfl | rfl | rfl
      · go_wp2_with fail
        go_round
        case rel => exact ⟨1, by go_num, by omega, by omega⟩
        case measure => simp [intOf]
      · by_cases hy : y = 0
        · have HY := Lib.hid hy
          rw [hy] at c1
          clear hy
          go_wp2_with fail
          go_round
          case rel => exact ⟨2, by go_num, by omega, fun _ => HY.out⟩
          case measure => simp [intOf]
        · go_wp2_with fail
          go_ret
          exact ⟨rfl, rfl⟩
      · have hy := H2.out rfl
        have HY := Lib.hid hy
        clear hy
        go_wp2_with fail
        go_ret
        exact ⟨by rw [HY.out]; rfl, rfl⟩
  · rw [if_neg hx]
    go_enter Tryz.func91, Tryz.ntmps91
    go_wp2_with fail
    go_loop [8] (fun s8 => s8 = .int .i64 0) (fun _ => 0)
    case atStart => rfl
    case round =>
      subst hrel
      go_wp2_with fail
      go_ret
      exact ⟨rfl, rfl⟩
/-- refs held against each other -/
def cmpR (r q : Rf) : Int := if Lib.compareInt r.1 q.1 = 0 then Lib.compareInt r.2 q.2 else Lib.compareInt r.1 q.1
set_option maxHeartbeats 2000000 in
set_option maxRecDepth 20000 in
theorem compareRefs_any (r q : Rf) (w : World) : Calls Tryz.prog 69 #[refV r, refV q] w fun e w' => e = .returned (.int .i64 (cmpR r q)) ∧ Gr w w' := by
  obtain ⟨ra, rs⟩ := r
  obtain ⟨qa, qs⟩ := q
  simp only [refV, cmpR]
  have hc1 := compare_any ra qa
  have hc2 := compare_any rs qs
  generalize Lib.compareInt ra qa = x at *
  generalize Lib.compareInt rs qs = y at *
  have OR := orI_any x y
  generalize (if x = 0 then y else x) = z at OR ⊢
  go_enter Tryz.func69, Tryz.ntmps69
  go_wp2_with fail
  have hB : Gr w ((w.alloc (.cells #[.int .i64 ra, .int .i64 rs] 25)).alloc (.cells #[.int .i64 qa, .int .i64 qs] 25)) := ((Gr.refl w).alloc _).alloc _
  have y0 : Blk ((w.alloc (.cells #[.int .i64 ra, .int .i64 rs] 25)).alloc (.cells #[.int .i64 qa, .int .i64 qs] 25)) w.heap.size _ _ := (Blk.new w 25 #[.int .i64 ra, .int .i64 rs]).alloc _
  have y1 : Blk ((w.alloc (.cells #[.int .i64 ra, .int .i64 rs] 25)).alloc (.cells #[.int .i64 qa, .int .i64 qs] 25)) (w.heap.size + 1) 25 #[.int .i64 qa, .int .i64 qs] := by
    have := Blk.new (w.alloc (.cells #[.int .i64 ra, .int .i64 rs] 25)) 25 #[.int .i64 qa, .int .i64 qs]
    simpa using this
  generalize (w.alloc (.cells #[.int .i64 ra, .int .i64 rs] 25)).alloc (.cells #[.int .i64 qa, .int .i64 qs] 25) = w1 at hB y0 y1 ⊢
  have HB := Lib.hid hB
  have x1 : w1.cell? ⟨w.heap.size, 0, none⟩ = some (.int .i64 ra) := y0.cell 0
  have x2 : w1.cell? ⟨w.heap.size, 1, none⟩ = some (.int .i64 rs) := y0.cell 1
  have x3 : w1.cell? ⟨w.heap.size + 1, 0, none⟩ = some (.int .i64 qa) := y1.cell 0
  have x4 : w1.cell? ⟨w.heap.size + 1, 1, none⟩ = some (.int .i64 qs) := y1.cell 1
  clear hB y0 y1
  refine wp_region_still_tail 10 (by kernel_rfl) (by kernel_rfl) ?_
  simp only [List.take_succ_cons, List.take_zero, List.drop_succ_cons, List.drop_zero]
  repeat (refine wpStill_want rfl (fun K hK => ?_); go_simp; refine hK _ ?_; clear hK K)
  (refine wpStill_want rfl (fun K hK => ?_); go_simp; refine ⟨_, hc1 _, hK _ ?_⟩; clear hK K)
  repeat (refine wpStill_want rfl (fun K hK => ?_); go_simp; refine hK _ ?_; clear hK K)
  (refine wpStill_want rfl (fun K hK => ?_); go_simp; refine ⟨_, hc2 _, hK _ ?_⟩; clear hK K)
  repeat (refine wpStill_want rfl (fun K hK => ?_); go_simp; refine hK _ ?_; clear hK K)
  refine wpStill_nil ?_
  change wpList _ _ _ _ _ w1.drew
  have HB2 : Hid (Gr w w1.drew) := HB.out.drew
  generalize w1.drew = w2 at HB2 ⊢
  clear x1 x2 x3 x4
  go_wp2_with fail
  go_at_call 91
  refine (OR w2.heap.size _ (by rw [(Blk.new w2 _ _).cell 0]; rfl) (by rw [(Blk.new w2 _ _).cell 1]; rfl)).mono ?_
  rintro e w3 ⟨rfl, rfl⟩
  go_wp2_with fail
  go_ret
  exact ⟨rfl, HB2.out.alloc _⟩
end Go.Proofs.YtclgfcjcpbiadaaGreatDoor

namespace Go.Proofs.YtclgfcjcpbiadaaGreatDoor
open Go.ChangeShapes Go.WideShapes Go.ChangeAt Go.RowKit

def encR (r : Rf) : List Value := [.int .i64 r.1, .int .i64 r.2]
/-- a row whose cells hold refs, none of them frozen -/
def RefRow (w : World) (g : Nat) (l : List Rf) : Prop := ∀ j u, (refC l)[j]? = some u → w.cell? ⟨g, j, none⟩ = some u ∧ w.frozen? ⟨g, j, none⟩ = false
theorem refC_get (l : List Rf) (t : Nat) (h : t < l.length * 2) : (refC l)[t]? = some ((encR (l.toArray[t / 2]!))[t % 2]!) := by
  obtain ⟨q, m, ht, hm⟩ : ∃ q m, t = q * 2 + m ∧ m < 2 := ⟨t / 2, t % 2, by omega, by omega⟩
  subst ht
  rw [show (q * 2 + m) / 2 = q from by omega, show (q * 2 + m) % 2 = m from by omega]
  have hk : q < l.length := by omega
  obtain ⟨h1, h2⟩ := refC_at (List.getElem?_eq_getElem hk)
  rw [getElem!_pos l.toArray q (by simpa using hk)]
  match m, hm with
  | 0, _ => simpa [encR] using h1
  | 1, _ => simpa [encR] using h2
theorem RefRow.holds {w : World} {g : Nat} {l : List Rf} (h : RefRow w g l) : Sort.HoldsK encR 2 w g 0 l.toArray := by
  intro j hj
  have hj' : j < l.length * 2 := by simpa using hj
  have := h j _ (refC_get l j hj')
  rw [Sort.get_flatK encR 2 l.toArray j (by simpa using hj')]
  simpa using this
theorem RefRow.of_holds {w : World} {g : Nat} {l : List Rf} (h : Sort.HoldsK encR 2 w g 0 l.toArray) : RefRow w g l := by
  intro j u hu
  have hj' : j < l.length * 2 := by
    rcases Nat.lt_or_ge j (l.length * 2) with h | h
    · exact h
    · rw [List.getElem?_eq_none (by rw [refC_length]; exact h)] at hu; cases hu
  have h1 := h j (by simpa using hj')
  rw [Sort.get_flatK encR 2 l.toArray j (by simpa using hj')] at h1
  rw [refC_get l j hj'] at hu
  obtain rfl := Option.some.inj hu
  simpa using h1
theorem RefRow.keep {w w' : World} {g : Nat} {l : List Rf} (h : RefRow w g l) (hk : w'.heap[g]? = w.heap[g]?) : RefRow w' g l := fun j u hu => by
  obtain ⟨h1, h2⟩ := h j u hu
  exact ⟨(World.cell?_of_block (w := w) (a := ⟨g, j, none⟩) hk).trans h1, (World.frozen?_of_block (w := w) (a := ⟨g, j, none⟩) hk).trans h2⟩
theorem RefRow.reads {w : World} {g : Nat} {l : List Rf} (h : RefRow w g l) : Reads (fun k => k = g) w 2 (some ⟨g, 0, none⟩) l.length (refC l) :=
  ⟨refC_length l, fun _ => ⟨_, rfl, rfl, fun j u hu => by
    have := (h j u hu).1
    unfold Addr.add
    split
    · rename_i e; rw [e] at this; exact this
    · simpa using this⟩⟩
theorem sortWorld_chg {w : World} {g n : Nat} {d : Array Rf} {os : Array Obj} : Chg (fun k => k = g) w (sortWorldK encR 2 w g 0 n d os) := by
  refine ⟨rfl, rfl, rfl, size_sortWorldK_c encR 2 w g 0 n d os, fun k hk hne => ?_⟩
  have e : (sortWorldK encR 2 w g 0 n d os).heap = (w.heap.modify g (Sort.onCells (Sort.putCells id 0 (Sort.flatK encR 2 d)))) ++ os := rfl
  rw [e, Array.getElem?_append_left (by simpa using hk), Array.getElem?_modify, if_neg (fun h => hne h.symm)]
theorem encR_one (x : Rf) : ∀ v ∈ encR x, v.oneCell' = true := by
  intro v hv
  simp only [encR, List.mem_cons, List.not_mem_nil, or_false] at hv
  rcases hv with rfl | rfl <;> rfl
/-- which ref is ahead, as rising sorts -/
theorem lt_cmp (x y : Rf) : ltOf cmpR x y = decide (x.1 < y.1 ∨ x.1 = y.1 ∧ x.2 < y.2) := by
  unfold ltOf cmpR Lib.compareInt
  by_cases h1 : x.1 < y.1
  · simp [h1]
  · by_cases h2 : y.1 < x.1
    · have h3 : x.1 ≠ y.1 := by omega
      simp [h1, h2, h3]
    · have h3 : x.1 = y.1 := by omega
      by_cases h4 : x.2 < y.2
      · simp [h3, h4]
      · by_cases h5 : y.2 < x.2 <;> simp [h3, h4, h5]
theorem swo_cmp : Sort.SWO (ltOf cmpR) where
  irrefl x := by rw [lt_cmp]; simp
  trans x y z h1 h2 := by rw [lt_cmp] at *; simp only [decide_eq_true_eq] at *; omega
  ntrans x y z h1 h2 := by rw [lt_cmp] at *; simp only [decide_eq_false_iff_not] at *; omega
/-- sorted: no later one is less -/
def AscW (l : List Rf) : Prop := ∀ (i j : Nat) (x y : Rf), i < j → l[i]? = some x → l[j]? = some y → ¬ (y.1 < x.1 ∨ y.1 = x.1 ∧ y.2 < x.2)
theorem sortA_any (g cap : Nat) (l : List Rf) (w : World) (h : RefRow w g l) (hg : g < w.heap.size) (hl : l.length ≤ 1000000) :
    Calls Tryz.prog 68 #[.slice (some ⟨g, 0, none⟩) l.length cap, .func (.func 69) #[] #[]] w fun e w' =>
      e = .returned (.tuple #[]) ∧ ∃ l', l'.Perm l ∧ AscW l' ∧ RefRow w' g l' ∧ Chg (fun k => k = g) w w' := by
  have eg : ∀ args w, (callFunc 69 args).run Tryz.prog w = .ok (.enter 69 args) w := enters_of Tryz.func69 (by kernel_rfl) (Option.some_get (show Tryz.f69.body.isSome = true by kernel_rfl)).symm
  have hc : CmpLays Tryz.prog 69 #[] encR 2 cmpR g 0 l.toArray.size w := fun _ _ _ _ x y => compareRefs_any x y _
  have := AnyQ.slices_SortFunc Tryz.sortRef 2 Tryz.isAgg25 Tryz.sizeOf25 encR (fun _ => rfl) encR_one cmpR swo_cmp 69 #[] g 0 cap l.toArray w eg hc h.holds hg (by simp; omega)
  rw [show l.toArray.size = l.length from by simp] at this
  refine this.mono ?_
  rintro e w' ⟨rfl, d', n, os, hp, hs, rfl⟩
  have hsz : d'.size = l.length := by simpa using hp.1
  refine ⟨rfl, d'.toList, ?_, ?_, RefRow.of_holds (by simpa using holdsK_sortWorldK_c encR 2 w g 0 l.toArray d' n os h.holds hg (by simpa using hsz)), sortWorld_chg⟩
  · have h1 : d'.extract 0 l.length = d' := by rw [← hsz]; exact Array.extract_size
    have h2 : l.toArray.extract 0 l.length = l.toArray := by
      have : l.length = l.toArray.size := by simp
      rw [this]; exact Array.extract_size
    have h3 := hp.2.2
    rw [h1, h2] at h3
    exact h3
  · intro i j x y hij hx hy
    have hj : j < l.length := by
      rw [← hsz]
      rcases Nat.lt_or_ge j d'.size with h | h
      · exact h
      · rw [List.getElem?_eq_none (by simpa using h)] at hy; cases hy
    have h1 := hs i j (Nat.zero_le _) hij hj
    have ex : d'[i]! = x := by
      rw [Array.getElem?_toList] at hx
      rw [Array.getElem!_eq_getD, Array.getD_eq_getD_getElem?, hx]; rfl
    have ey : d'[j]! = y := by
      rw [Array.getElem?_toList] at hy
      rw [Array.getElem!_eq_getD, Array.getD_eq_getD_getElem?, hy]; rfl
    rw [lt_cmp, ex, ey] at h1
    simpa using h1
end Go.Proofs.YtclgfcjcpbiadaaGreatDoor

namespace Go.Proofs.YtclgfcjcpbiadaaGreatDoor
open Go.ChangeShapes Go.WideShapes Go.ChangeAt Go.RowKit

def kv (p : Rf × Value) : Value × Value := (refV p.1, p.2)
theorem sortNone (p : Option Addr) (cap : Nat) (fv : Value) (w : World) : Calls Tryz.prog 68 #[.slice p 0 cap, fv] w fun e w' => e = .returned (.tuple #[]) ∧ w' = w := by
  have := AnyF.slices_SortFunc_none Tryz.sortRef p cap fv w
  exact this
theorem wpK_next (w : World) {ops : Array Oper} {rest : List Oper} {o : Oper} {a : Act} {Q : Exit → Act → World → Prop} (hg : o.guard = none) (it : Operand) (hop : o.op = Op.next it false) (b r : Nat) (K todo : List (Rf × Value)) (hit : a.eval it = .pointer (some ⟨r, 0, none⟩)) (h : IterL w 25 b r (K.map kv) (todo.map kv))
    (hDone : todo = [] → wpList Tryz.prog ops Q rest (a.put o.dst (.tuple #[.bool false])) w)
    (hMore : ∀ (x : Rf × Value) (todo' : List (Rf × Value)) (w' : World), todo.Perm (x :: todo') → IterL w' 25 b r (K.map kv) (todo'.map kv) → w.grownBy w' (some r) → w'.heap.size = w.heap.size →
      (Instr.entry (.pointer (some ⟨r, 0, none⟩))).run Tryz.prog w' = .ok (.tuple #[.agg #[.int .i64 x.1.1, .int .i64 x.1.2], x.2]) w' → wpList Tryz.prog ops Q rest (a.put o.dst (.tuple #[.bool true, .agg #[.int .i64 x.1.1, .int .i64 x.1.2], x.2])) w') :
    wpList Tryz.prog ops Q (o :: rest) a w := by
  refine wpL_next w hg it hop _ b r _ _ hit h (fun e => hDone (List.map_eq_nil_iff.1 e)) fun key v todo' w' hp hI hg hs hen => ?_
  obtain ⟨x, t', hx, hp1, hp2⟩ := perm_unmap _ hp
  have e1 : refV x.1 = key := congrArg Prod.fst hx
  have e2 : x.2 = v := congrArg Prod.snd hx
  subst e1 e2
  exact hMore x t' w' hp1 (hI.perm hp2) hg hs hen
set_option maxHeartbeats 2000000 in
set_option maxRecDepth 20000 in
theorem rising_any (K : List (Rf × Value)) (b : Nat) (w : World) (h : MapL w 25 b (K.map kv)) (hl : K.length ≤ 1000000) :
    Calls Tryz.prog 39 #[.map (some b)] w fun e w' => ∃ A c S, e = .returned (.slice A S.length c) ∧ S.Perm (K.map Prod.fst) ∧ AscW S ∧ (S = [] ∨ ∃ g, w.heap.size ≤ g ∧ g < w'.heap.size ∧ A = some ⟨g, 0, none⟩ ∧ RefRow w' g S ∧ S.length ≤ c ∧ c ≤ 9223372036854775807) ∧ Below w.heap.size w w' := by
  have HM := Lib.hid h
  go_enter Tryz.func39, Tryz.ntmps39
  go_wp2_with (refine wpL_range w rfl (.tmp 5) 57 rfl 25 34 Tryz.underlying57 b (K.map kv) rfl HM.out ?_; intro w1 hI1 hb1 hs1)
  have HI1 := Lib.hid hI1
  have HB1 := Lib.hid hb1
  clear hI1 hb1 h
  simp only [Act.put, List.setIfInBounds_toArray, List.set_cons_zero, List.set_cons_succ]
  go_loopw [3, 4] (fun s3 _ wr => ∃ done todo : List (Rf × Value), Hid ((done ++ todo).Perm K) ∧ Hid (IterL wr 25 b w.heap.size (K.map kv) (todo.map kv)) ∧ Hid (wr.ownsRow (w.heap.size + 1) 25 2 s3 done.length (refC (done.map Prod.fst))) ∧ Hid (Below w.heap.size w wr)) (fun s3 _ _ => K.length - slen s3)
  case atStart => exact ⟨[], K, List.Perm.refl _, HI1, own_nil _ _ _ _, HB1⟩
  case round =>
    clear HI1 HB1
    obtain ⟨done, todo, HP, HI, HO, HW⟩ := hrel
    have hlen : done.length + todo.length = K.length := by rw [← List.length_append]; exact HP.out.length_eq
    go_wp2_with (refine wpK_next _ rfl (.tmp 6) rfl b w.heap.size K todo rfl HI.out ?_ ?_)
    · intro ht
      subst ht
      have HPD : Hid (done.Perm K) := by have := HP.out; rwa [List.append_nil] at this
      obtain ⟨Ao, co, hv, hco, hcm, -⟩ := Reads.of_own HO.out
      have HCO : Hid (done.length ≤ co ∧ co ≤ 9223372036854775807) := ⟨hco, by simpa [maxLen] using hcm⟩
      subst hv
      clear hcm
      have HDN : Hid (done.length = K.length) := HPD.out.length_eq
      clear hlen
      go_wp2_with fail
      by_cases h0 : done.length = 0
      · have hd0 : done = [] := List.length_eq_zero_iff.1 h0
        rw [h0]
        go_at_call 68
        refine (sortNone Ao co _ wr).mono ?_
        rintro e w2 ⟨rfl, rfl⟩
        go_wp2_with fail
        go_ret
        exact ⟨Ao, co, [], rfl, by have := HPD.out; rw [hd0] at this; rw [List.nil_perm.1 this]; exact List.Perm.refl _, fun i j x y _ hx => by simp at hx, .inl rfl, HW.out⟩
      · obtain ⟨g, cap, hA, hg1, hg2⟩ := HO.out.form (by omega)
        simp only [Value.slice.injEq, true_and] at hA
        obtain ⟨rfl, rfl⟩ := hA
        have hrow : RefRow wr g (done.map Prod.fst) := fun j u hu => by
          have hj : j < done.length * 2 := by
            rcases Nat.lt_or_ge j (done.length * 2) with h | h
            · exact h
            · rw [List.getElem?_eq_none (by rw [refC_length, List.length_map]; exact h)] at hu; cases hu
          exact ⟨(World.ownsRow.cellAt HO.out j hj).trans hu, World.ownsRow.frozenAt HO.out j⟩
        have C1 := sortA_any g co (done.map Prod.fst) wr hrow hg2 (by rw [List.length_map, HDN.out]; exact hl)
        rw [List.length_map] at C1
        go_at_call 68
        refine C1.mono ?_
        rintro e w2 ⟨rfl, S, hp, hasc, hrow2, hch⟩
        have HLS : Hid (S.length = done.length) := by show _ = _; rw [hp.length_eq, List.length_map]
        have HW2 : Hid (Below w.heap.size w w2) := HW.out.trans (hch.below HW.out.size fun k hk => by rw [hk]; omega)
        have HS : Hid (S.Perm (K.map Prod.fst)) := hp.trans (HPD.out.map _)
        have HAS := Lib.hid hasc
        have HRW := Lib.hid hrow2
        have hsz2 := hch.size
        clear hp hasc hrow2 hch C1 hrow
        go_wp2_with fail
        go_ret
        exact ⟨_, co, S, by rw [HLS.out]; rfl, HS.out, HAS.out, .inr ⟨g, by omega, by omega, rfl, HRW.out, by rw [HLS.out]; exact HCO.out.1, HCO.out.2⟩, HW2.out⟩
    · intro a1 a2 v todo' w2 hp hI2 hg2 hs2 hen
      have HI2 := Lib.hid hI2
      have HW2 : Hid (Below w.heap.size w w2) := HW.out.grown hg2 HW.out.size (fun k hk => by cases hk; exact Nat.le_refl _)
      have hwl : w.heap.size < w2.heap.size := by have := HI2.out.lt; omega
      have HO2 : Hid (w2.ownsRow (w.heap.size + 1) 25 2 _ done.length (refC (done.map Prod.fst))) := HO.out.kept hg2 (by
        cases ho : Value.ownBlock _ with
        | none => exact .inl rfl
        | some k => exact .inr (fun e => by cases e; have := (own_lt HO.out ho).1; omega))
      clear hI2 hg2 HI HO HW
      have hbl : b < w.heap.size := HM.out.lt
      obtain ⟨Ao, co, hv, hco, -, -⟩ := Reads.of_own HO2.out
      subst hv
      clear hs2
      go_upto_region 5 with fail
      have HW3 : Hid (Below w.heap.size w (w2.alloc (.cells #[.int .i64 a1, .int .i64 a2] 25))) := HW2.out.alloc HW2.out.size _
      have HQ3 : Hid (Blk (w2.alloc (.cells #[.int .i64 a1, .int .i64 a2] 25)) w2.heap.size 25 #[.int .i64 a1, .int .i64 a2]) := Blk.new w2 _ _
      have HI3 : Hid (IterL (w2.alloc (.cells #[.int .i64 a1, .int .i64 a2] 25)) 25 b w.heap.size (K.map kv) (todo'.map kv)) := HI2.out.keep (Below.heap_alloc _ _ _ (by omega)) (Below.heap_alloc _ _ _ hwl)
      have HO3 := Lib.hid (HO2.out.alloc (.cells #[.int .i64 a1, .int .i64 a2] 25))
      clear HW2 HI2 HO2 hen
      have hw3 : (w2.alloc (.cells #[.int .i64 a1, .int .i64 a2] 25)).heap.size = w2.heap.size + 1 := by simp
      generalize w2.alloc (.cells #[.int .i64 a1, .int .i64 a2] 25) = w3 at HW3 HQ3 HI3 HO3 hw3 ⊢
      generalize hB2 : w2.heap.size = B2 at HQ3 hwl hw3 ⊢
      clear hB2
      have hw4 : w.heap.size < w3.heap.size := by omega
      clear hw3
      have r1 : w3.cell? ⟨B2, 0, none⟩ = some (.int .i64 a1) := HQ3.out.cell 0
      have r2 : w3.cell? ⟨B2, 1, none⟩ = some (.int .i64 a2) := HQ3.out.cell 1
      obtain ⟨i0, hi, hz0, hz1, hz2⟩ := info_parts infoRef
      go_wp2_with (at_builtin; refine wpList_append_any _ rfl (.tmp 11) (.tmp 13) _ rfl (w.heap.size + 1) 25 i0 _ 2 16 Tryz.underlying23 hi hz0 hz1 hz2 rfl (by omega) (.slice Ao done.length co) (done.length) (refC (done.map Prod.fst)) rfl (HO3.out.alloc _) _ (some ⟨w3.heap.size, 0, none⟩) (1) (1) ([.int .i64 a1, .int .i64 a2]) rfl ((blk_reads (by exact Blk.new w3 _ #[.int .i64 a1, .int .i64 a2]) (n := 2) rfl)) ((by intro u hu; exact refC_one [(a1, a2)] u (by simpa [refC] using hu))) ?c1 ?c2 ?c3 ?_)
      try case c1 => simp only [maxLen]; have := hlen; omega
      try case c2 => have := hlen; omega
      try case c3 => simp; omega
      intro v4 w4 ho4 hg4 hat4
      have hbk : Below (w.heap.size + 1) w3 w4 := ((Below.refl _ w3).alloc (by omega) _).grown hg4 (by simp; omega) (fun k hk => (own_lt HO3.out hk).1)
      have HW4 : Hid (Below w.heap.size w w4) := HW3.out.trans (hbk.mono (Nat.le_succ _))
      have HI4 : Hid (IterL w4 25 b w.heap.size (K.map kv) (todo'.map kv)) := HI3.out.keep (hbk.block _ (by omega)) (hbk.block _ (by omega))
      have HO4 : Hid (w4.ownsRow (w.heap.size + 1) 25 2 v4 (done ++ [((a1, a2), v)]).length (refC ((done ++ [((a1, a2), v)]).map Prod.fst))) := by
        show World.ownsRow _ _ _ _ _ _ _
        rw [List.length_append, List.map_append, refC_append]
        simpa [refC] using ho4
      have HP2 : Hid (((done ++ [((a1, a2), v)]) ++ todo').Perm K) := by
        show List.Perm _ _
        rw [List.append_assoc]
        exact (hp.symm.append_left done).trans HP.out
      have hsl : slen v4 = done.length + 1 := by
        obtain ⟨_, _, hv, _⟩ := Reads.of_own ho4
        rw [hv]; rfl
      have hdl : done.length < K.length := by have := hp.length_eq; simp only [List.length_cons] at this; omega
      clear ho4 hg4 hat4 hbk r1 r2 HQ3 HI3 HO3 HW3
      go_wp2_with fail
      go_roundw
      case rel => exact ⟨done ++ [((a1, a2), v)], todo', HP2, HI4, HO4, HW4⟩
      case measure =>
        show K.length - slen v4 < K.length - slen (.slice Ao done.length co)
        rw [hsl]
        show K.length - (done.length + 1) < K.length - done.length
        omega
end Go.Proofs.YtclgfcjcpbiadaaGreatDoor

namespace Go.Proofs.YtclgfcjcpbiadaaGreatDoor
open Go.ChangeShapes Go.WideShapes Go.ChangeAt Go.RowKit

set_option maxRecDepth 20000 in
theorem new_any (w : World) :
    Calls Tryz.prog 5 #[] w fun e w' => ∃ g bh bw bb, e = .returned (.pointer (some ⟨g, 0, none⟩)) ∧ Blk w' g 60 #[.map (some bh), .map (some bw), .map (some bb)] ∧ HasL w' bh [] ∧ HasL w' bw [] ∧ MapL w' 25 bb [] ∧ (bh ≠ bw ∧ bh ≠ bb ∧ bw ≠ bb) ∧ (w.heap.size ≤ bh ∧ w.heap.size ≤ bw ∧ w.heap.size ≤ bb ∧ w.heap.size ≤ g) ∧ Below w.heap.size w w' := by
  have hmm : ∀ (t : TypeId) (w : World), (Instr.makeMap t none).run Tryz.prog w = .ok (.map (some w.heap.size)) (w.alloc (.map #[] 0)) := fun _ _ => rfl
  have h1 : HasL (w.alloc (.map #[] 0)) w.heap.size [] := MapL.made w _
  have hb1 : Below w.heap.size w (w.alloc (.map #[] 0)) := (Below.refl _ w).alloc (Nat.le_refl _) _
  have hz1 : (w.alloc (.map #[] 0)).heap.size = w.heap.size + 1 := by simp
  generalize hw1 : w.alloc (.map #[] 0) = w1 at h1 hb1 hz1
  have h2 : HasL (w1.alloc (.map #[] 0)) w1.heap.size [] := MapL.made w1 _
  have hb2 := (Below.refl w1.heap.size w1).alloc (Nat.le_refl _) (.map #[] 0)
  have hz2 : (w1.alloc (.map #[] 0)).heap.size = w1.heap.size + 1 := by simp
  generalize hw2 : w1.alloc (.map #[] 0) = w2 at h2 hb2 hz2
  have h3 : MapL (w2.alloc (.map #[] 0)) 25 w2.heap.size [] := MapL.made w2 _
  have hb3 := (Below.refl w2.heap.size w2).alloc (Nat.le_refl _) (.map #[] 0)
  have hz3 : (w2.alloc (.map #[] 0)).heap.size = w2.heap.size + 1 := by simp
  generalize hw3 : w2.alloc (.map #[] 0) = w3 at h3 hb3 hz3
  have hq := Blk.new w3 60 #[.map (some w.heap.size), .map (some w1.heap.size), .map (some w2.heap.size)]
  have hb4 := (Below.refl w3.heap.size w3).alloc (Nat.le_refl _) (.cells #[.map (some w.heap.size), .map (some w1.heap.size), .map (some w2.heap.size)] 60)
  have HZ := Lib.hid (And.intro hz1 (And.intro hz2 hz3))
  clear hz1 hz2 hz3
  go_enter Tryz.func5, Tryz.ntmps5
  go_wp2_with fail
  go_ret
  obtain ⟨hz1, hz2, hz3⟩ := HZ.out
  have l1 := MapL.lt h1
  have l2 := MapL.lt h2
  have l3 := MapL.lt h3
  have k1 : HasL w3 w.heap.size [] := MapL.keep (MapL.keep h1 (hb2.block _ (by omega))) (hb3.block _ (by omega))
  have k2 : HasL w3 w1.heap.size [] := MapL.keep h2 (hb3.block _ (by omega))
  refine ⟨w3.heap.size, w.heap.size, w1.heap.size, w2.heap.size, rfl, hq, MapL.keep k1 (hb4.block _ (MapL.lt k1)), MapL.keep k2 (hb4.block _ (MapL.lt k2)), MapL.keep h3 (hb4.block _ l3), ⟨by omega, by omega, by omega⟩, ⟨by omega, by omega, by omega, by omega⟩, ?_⟩
  exact ((hb1.trans (hb2.mono (by omega))).trans (hb3.mono (by omega))).trans (hb4.mono (by omega))
/-- all blocks but the book's three maps -/
def NF (w : World) (bh bw bb k : Nat) : Prop := k < w.heap.size ∧ k ≠ bh ∧ k ≠ bw ∧ k ≠ bb
/-- the program's book: X: the changes it has, each with the block of the set of what it hangs on, and that set's members; W: those that wait -/
structure PB (w : World) (g bh bw bb : Nat) (X : List (ChD × Nat × List Rf)) (W : List ChD) : Prop where
  blk : Blk w g 60 #[.map (some bh), .map (some bw), .map (some bb)]
  mh : HasL w bh (X.map Prod.fst)
  mw : HasL w bw W
  mb : MapL w 25 bb (X.map fun x => (refV x.1.rf, .map (some x.2.1)))
  ne : bh ≠ bw ∧ bh ≠ bb ∧ bw ≠ bb
  sets : ∀ x ∈ X, SetM w x.2.1 x.2.2 ∧ NF w bh bw bb x.2.1 ∧ ∀ r, r ∈ x.2.2 ↔ r ∈ behindP (X.map Prod.fst) [x.1.rf]
  inL : ∀ x ∈ X, ChIn (NF w bh bw bb) w x.1
  inW : ∀ c ∈ W, ChIn (NF w bh bw bb) w c
theorem NF.more {w w' : World} {bh bw bb k : Nat} (h : NF w bh bw bb k) (hs : w.heap.size ≤ w'.heap.size) : NF w' bh bw bb k := ⟨Nat.lt_of_lt_of_le h.1 hs, h.2⟩
theorem PB.below {w w' : World} {g bh bw bb : Nat} {X : List (ChD × Nat × List Rf)} {W : List ChD} (h : PB w g bh bw bb X W) (hb : Below w.heap.size w w') : PB w' g bh bw bb X W :=
  ⟨h.blk.keep (hb.block _ h.blk.lt), MapL.keep h.mh (hb.block _ (MapL.lt h.mh)), MapL.keep h.mw (hb.block _ (MapL.lt h.mw)), MapL.keep h.mb (hb.block _ (MapL.lt h.mb)), h.ne,
    fun x hx => ⟨(h.sets x hx).1.keep (hb.block _ (h.sets x hx).2.1.1), (h.sets x hx).2.1.more hb.size, (h.sets x hx).2.2⟩,
    fun x hx => ((h.inL x hx).keep fun k hk => hb.block k hk.1).more fun k hk => hk.more hb.size,
    fun c hc => ((h.inW c hc).keep fun k hk => hb.block k hk.1).more fun k hk => hk.more hb.size⟩
theorem PB.hb {w : World} {g bh bw bb : Nat} {X : List (ChD × Nat × List Rf)} {W : List ChD} (h : PB w g bh bw bb X W) : HB w g bh (.map (some bw)) (.map (some bb)) (X.map Prod.fst) := ⟨h.blk, h.mh⟩
theorem PB.nil {w : World} {g bh bw bb : Nat} (hb : Blk w g 60 #[.map (some bh), .map (some bw), .map (some bb)]) (h1 : HasL w bh []) (h2 : HasL w bw []) (h3 : MapL w 25 bb []) (hn : bh ≠ bw ∧ bh ≠ bb ∧ bw ≠ bb) : PB w g bh bw bb [] [] :=
  ⟨hb, h1, h2, h3, hn, (fun _ h => by cases h), (fun _ h => by cases h), (fun _ h => by cases h)⟩
end Go.Proofs.YtclgfcjcpbiadaaGreatDoor

namespace Go.Proofs.YtclgfcjcpbiadaaGreatDoor
open Go.RowKit

theorem toList_inj {a b : ByteArray} (h : (a.toList == b.toList) = true) : a = b := by
  have h' := eq_of_beq h
  rw [ByteArray.toList_eq, ByteArray.toList_eq] at h'
  obtain ⟨⟨x⟩⟩ := a
  obtain ⟨⟨y⟩⟩ := b
  have h2 : x = y := h'
  rw [h2]
theorem sameO_iff (x y : OpD) : sameO x y = true ↔ base x = base y := by
  obtain ⟨k, on, oa, key, en, ea, ins, vk, vn, vt, va, vb, A, c, l⟩ := x
  obtain ⟨k', on', oa', key', en', ea', ins', vk', vn', vt', va', vb', A', c', l'⟩ := y
  simp only [sameO, idE, valE, base, Bool.and_eq_true, beq_iff_eq, decide_eq_true_eq, OpD.mk.injEq, true_and]
  constructor
  · rintro ⟨h1, ⟨h2, h3⟩, h4, ⟨h5, h6⟩, h7, ⟨h8, h9, h10, h11, h12⟩, h13⟩
    exact ⟨h1, h2, h3, toList_inj (by simpa using h4), h5, h6, h7, h8, h9, toList_inj (by simpa using h10), h11, h12, h13⟩
  · rintro ⟨h1, h2, h3, rfl, h5, h6, h7, h8, h9, rfl, h11, h12, h13⟩
    exact ⟨h1, ⟨h2, h3⟩, rfl, ⟨h5, h6⟩, h7, ⟨h8, h9, rfl, h11, h12⟩, h13⟩
theorem sameOs_iff : ∀ (l m : List OpD), sameOs l m = true ↔ l.map base = m.map base
  | [], [] => by simp [sameOs]
  | [], _ :: _ => by simp [sameOs]
  | _ :: _, [] => by simp [sameOs]
  | x :: l, y :: m => by
    simp only [sameOs, Bool.and_eq_true, List.map_cons, List.cons.injEq]
    rw [sameO_iff, sameOs_iff l m]
/-- the encoding is one to one on changes without a fault, where they lie aside -/
theorem enc_inj {c d : ChD} (hc : c.err = 0) (hd : d.err = 0) (hcv : ∀ o ∈ c.ops, (Lit.int .i64 o.vn).wf = true) (hdv : ∀ o ∈ d.ops, (Lit.int .i64 o.vn).wf = true) (h : c.enc = d.enc) :
    c.st = d.st ∧ c.deps = d.deps ∧ c.ops.map base = d.ops.map base := by
  have h1 := read_back (show chgE c.a c.s c.st c.deps c.ops = 0 from hc) hcv []
  have h2 := read_back (show chgE d.a d.s d.st d.deps d.ops = 0 from hd) hdv []
  rw [show encL c.a c.s c.st c.deps c.ops = encL d.a d.s d.st d.deps d.ops from h, h2] at h1
  simp only [Rd.mk.injEq] at h1
  obtain ⟨_, _, h3, h4, h5, _⟩ := h1
  have b1 := (err_ok hc).1
  have b2 := (err_ok hd).1
  exact ⟨by omega, h4.symm, h5.symm⟩
theorem sameC_enc {c d : ChD} (hc : c.err = 0) (hd : d.err = 0) (hcv : ∀ o ∈ c.ops, (Lit.int .i64 o.vn).wf = true) (hdv : ∀ o ∈ d.ops, (Lit.int .i64 o.vn).wf = true) (hr : c.rf = d.rf) : sameC c d = decide (c.enc = d.enc) := by
  have hr1 : c.a = d.a := congrArg Prod.fst hr
  have hr2 : c.s = d.s := congrArg Prod.snd hr
  by_cases he : c.enc = d.enc
  · obtain ⟨h1, h2, h3⟩ := enc_inj hc hd hcv hdv he
    rw [decide_eq_true he]
    unfold sameC
    rw [(sameOs_iff _ _).2 h3, h1, h2]
    simp
  · rw [decide_eq_false he]
    cases h : sameC c d with
    | false => rfl
    | true =>
      unfold sameC at h
      simp only [Bool.and_eq_true, beq_iff_eq, decide_eq_true_eq] at h
      obtain ⟨h1, h2, h3⟩ := h
      refine absurd ?_ he
      unfold ChD.enc
      rw [hr1, hr2, h1, h2]
      exact encL_base ((sameOs_iff _ _).1 h3)
end Go.Proofs.YtclgfcjcpbiadaaGreatDoor

namespace Go.Proofs.YtclgfcjcpbiadaaGreatDoor
open Go.RowKit

theorem base_rf (c : ChD) : c.base.rf = c.rf := rfl
theorem base_err (c : ChD) : c.base.err = c.err := chgE_base (base_base c.ops)
theorem base_enc (c : ChD) : c.base.enc = c.enc := encL_base (base_base c.ops)
/-- an op with its id, without where it lies -/
def bI (x : OpI) : OpI := (base x.1, x.2)
theorem idsFrom_base : ∀ (a st : Int) (l : List OpD), idsFrom a st (l.map base) = (idsFrom a st l).map bI
  | _, _, [] => rfl
  | a, st, o :: l => by simp only [List.map_cons, idsFrom, idsFrom_base a (st + 1) l]; rfl
theorem base_opsI (c : ChD) : c.base.opsI = c.opsI.map bI := idsFrom_base c.a c.st c.ops
theorem refs_base (L : List ChD) : refsOf (L.map ChD.base) = refsOf L := by
  unfold refsOf
  rw [List.map_map]
  rfl
theorem back_base : ∀ (L : List ChD) (w : List Rf), back (L.map ChD.base) w = back L w
  | [], _ => rfl
  | c :: L, w => by
    simp only [List.map_cons, back, base_rf, back_base L]
    rfl
theorem behind_base (L : List ChD) (hs : List Rf) : behindP (L.map ChD.base) hs = behindP L hs := by
  unfold behindP
  rw [← List.map_reverse]
  exact back_base _ _
theorem known_base (L : List ChD) (R : List Rf) : knownP (L.map ChD.base) R = (knownP L R).map bI := by
  unfold knownP
  induction L with
  | nil => rfl
  | cons c L ih =>
    by_cases h : c.rf ∈ R
    · simp only [List.map_cons, List.filter_cons, base_rf, h, decide_true, if_true, List.flatMap_cons, List.map_append, base_opsI]
      rw [ih]
    · simp only [List.map_cons, List.filter_cons, base_rf, h, decide_false, Bool.false_eq_true, if_false]
      exact ih
theorem look_base (l : List OpI) (n : Rf) : lookP (l.map bI) n = (lookP l n).map bI := by
  unfold lookP
  induction l with
  | nil => rfl
  | cons x l ih =>
    by_cases h : x.2 = n
    · simp [bI, h]
    · simp only [List.map_cons, List.find?_cons, show (bI x).2 = x.2 from rfl, decide_eq_false h]
      exact ih
theorem kind_base (x : OpI) (K : List OpI) : kindP (bI x) (K.map bI) = kindP x K := by
  unfold kindP
  rw [show objP (bI x) = objP x from rfl, look_base]
  cases lookP K (objP x) <;> rfl
theorem elem_base (x : OpI) (K : List OpI) : elemOkP (bI x) (K.map bI) = elemOkP x K := by
  unfold elemOkP
  rw [show elP (bI x) = elP x from rfl, look_base]
  cases lookP K (elP x) <;> rfl
theorem pred_base (x : OpI) (K : List OpI) (p : Rf) : predOkP (bI x) (K.map bI) p = predOkP x K p := by
  unfold predOkP
  rw [look_base]
  cases lookP K p <;> rfl
theorem may_base (x : OpI) (K : List OpI) : mayP (bI x) (K.map bI) = mayP x K := by
  unfold mayP
  rw [kind_base, elem_base]
  cases kindP x K with
  | none => rfl
  | some kd =>
    show (keyOkP x kd && elemOkP x K && x.1.l.all (predOkP (bI x) (K.map bI))) = _
    rw [show predOkP (bI x) (K.map bI) = predOkP x K from funext (pred_base x K)]
theorem fitOps_base : ∀ (l K : List OpI), fitOps (l.map bI) (K.map bI) = fitOps l K
  | [], _ => rfl
  | x :: l, K => by
    simp only [List.map_cons, fitOps, may_base]
    have := fitOps_base l (K ++ [x])
    rw [List.map_append] at this
    rw [← this]
    rfl
theorem fits_base (L : List ChD) (c : ChD) : fitsP (L.map ChD.base) c.base = fitsP L c := by
  unfold fitsP fitsIn
  rw [show c.base.deps = c.deps from rfl, behind_base, known_base, base_opsI, fitOps_base]
  rw [List.all_map]
  rfl
theorem ready_base (L : List ChD) (c : ChD) : readyP (L.map ChD.base) c.base = readyP L c := by
  unfold readyP
  rw [refs_base]
  rfl
theorem leastGo_base (p q : ChD → Bool) (h : ∀ c, p c.base = q c) : ∀ (W : List ChD) (i : Nat) (b : Option (Nat × Rf)), leastGo p (W.map ChD.base) i b = leastGo q W i b
  | [], _, _ => rfl
  | c :: W, i, b => by
    simp only [List.map_cons, leastGo, h, base_rf]
    exact leastGo_base p q h W _ _
theorem least_base (L W : List ChD) : leastAt (readyP (L.map ChD.base)) (W.map ChD.base) = leastAt (readyP L) W := leastGo_base _ _ (ready_base L) W 0 none
theorem eraseIdx_base {α β : Type} (f : α → β) : ∀ (l : List α) (i : Nat), (l.map f).eraseIdx i = (l.eraseIdx i).map f
  | [], _ => rfl
  | _ :: _, 0 => rfl
  | a :: l, i + 1 => by simp only [List.map_cons, List.eraseIdx_cons_succ, eraseIdx_base f l i]
theorem settle_base : ∀ (n : Nat) (L W : List ChD), settle n (L.map ChD.base) (W.map ChD.base) = ((settle n L W).1.map ChD.base, (settle n L W).2.map ChD.base)
  | 0, _, _ => rfl
  | n + 1, L, W => by
    unfold settle
    rw [least_base]
    cases leastAt (readyP L) W with
    | none => rfl
    | some b =>
      obtain ⟨i, r⟩ := b
      simp only [List.getElem?_map]
      cases W[i]? with
      | none => rfl
      | some x =>
        simp only [Option.map_some, fits_base]
        have h1 := settle_base n (L ++ [x]) (W.eraseIdx i)
        have h2 := settle_base n L (W.eraseIdx i)
        rw [List.map_append] at h1
        rw [eraseIdx_base]
        cases fitsP L x with
        | true => simp only [if_true]; exact h1
        | false => simp only [Bool.false_eq_true, if_false]; exact h2
theorem find_base (L : List ChD) (r : Rf) : findC (L.map ChD.base) r = (findC L r).map ChD.base := by
  unfold findC
  induction L with
  | nil => rfl
  | cons c L ih =>
    by_cases h : c.rf = r
    · simp [base_rf, h]
    · rw [List.map_cons, List.find?_cons, List.find?_cons, base_rf, decide_eq_false h]
      exact ih
theorem sameE_base (c d : ChD) : sameE c.base d.base = sameE c d := by
  unfold sameE
  rw [base_enc, base_enc]
theorem take_base (L W : List ChD) (c : ChD) : takeP (L.map ChD.base) (W.map ChD.base) c.base = (((takeP L W c).1.1.map ChD.base, (takeP L W c).1.2.map ChD.base), (takeP L W c).2) := by
  unfold takeP
  rw [base_err, base_rf]
  by_cases he : c.err ≠ 0
  · rw [if_pos he, if_pos he]
  rw [if_neg he, if_neg he, find_base, find_base]
  cases h1 : findC L c.rf with
  | some d => simp only [Option.map_some, sameE_base]
  | none =>
    cases h2 : findC W c.rf with
    | some d => simp only [Option.map_some, Option.map_none, sameE_base]
    | none =>
      simp only [Option.map_none, List.length_map]
      by_cases h3 : 120 ≤ L.length + W.length
      · rw [if_pos h3, if_pos h3]
      rw [if_neg h3, if_neg h3, ready_base, fits_base]
      cases readyP L c with
      | false => simp
      | true =>
        cases fitsP L c with
        | false => simp
        | true =>
          simp only [Bool.true_eq_false, if_false]
          have := settle_base W.length (L ++ [c]) W
          rw [List.map_append] at this
          rw [show L.map ChD.base ++ [c.base] = L.map ChD.base ++ [c].map ChD.base from rfl, this]
end Go.Proofs.YtclgfcjcpbiadaaGreatDoor

namespace Go.Proofs.YtclgfcjcpbiadaaGreatDoor
open Go.ChangeShapes Go.WideShapes Go.ChangeAt Go.RowKit

def placeV (x : OpI) : Value := .agg #[.int .i64 x.1.on, .int .i64 x.1.oa, .string x.1.key, .int .i64 (elemP x).1, .int .i64 (elemP x).2]
set_option maxHeartbeats 2000000 in
set_option maxRecDepth 20000 in
theorem place_any (x : OpI) (w : World) : Calls Tryz.prog 88 #[opIV x] w fun e w' => e = .returned (placeV x) ∧ Below w.heap.size w w' := by
  have hres : Tryz.f88.results = #[.cell 2 123] := by kernel_rfl
  unfold opIV placeV elemP
  cases hi : x.1.ins with
  | true =>
    simp only [if_true]
    go_enter Tryz.func88, Tryz.ntmps88
    go_wp2_with fail
    refine bodyPost_ret (v := .agg #[.int .i64 x.1.on, .int .i64 x.1.oa, .string x.1.key, .int .i64 x.2.1, .int .i64 x.2.2]) ?_ rfl ⟨rfl, ?_⟩
    · simp only [results, hres]
      go_simp
    · repeat first
        | exact Below.refl _ _
        | refine Below.setCell ?_ (by simp; try omega) _
        | refine Below.alloc ?_ (by simp; try omega) _
  | false =>
    simp only [Bool.false_eq_true, if_false]
    go_enter Tryz.func88, Tryz.ntmps88
    go_wp2_with fail
    refine bodyPost_ret (v := .agg #[.int .i64 x.1.on, .int .i64 x.1.oa, .string x.1.key, .int .i64 x.1.en, .int .i64 x.1.ea]) ?_ rfl ⟨rfl, ?_⟩
    · simp only [results, hres]
      go_simp
    · repeat first
        | exact Below.refl _ _
        | refine Below.setCell ?_ (by simp; try omega) _
        | refine Below.alloc ?_ (by simp; try omega) _
/-- the ops that are known, by their ids -/
def OpsM (w : World) (b : Nat) (K : List OpI) : Prop := MapL w 82 b (K.map fun x => (refV x.2, opIV x))
theorem zero_op (w : World) : (zeroValue 103).run Tryz.prog w = .ok zeroO w := by kernel_rfl
def lookOV (K : List OpI) (r : Rf) : Value := match lookP K r with | some y => opIV y | none => zeroO
theorem lookP_in {K : List OpI} {r : Rf} {y : OpI} (h : lookP K r = some y) : y ∈ K ∧ y.2 = r := by
  unfold lookP at h
  exact ⟨List.mem_of_find?_eq_some h, by simpa using List.find?_some h⟩
theorem lookP_out {K : List OpI} {r : Rf} (h : lookP K r = none) : ∀ y ∈ K, y.2 ≠ r := by
  unfold lookP at h
  intro y hy
  simpa using List.find?_eq_none.1 h y hy
theorem OpsM.look {w : World} {b : Nat} {K : List OpI} (h : OpsM w b K) {r : Rf} (hr : I64R r) :
    (Instr.lookup 101 (.map (some b)) (.agg #[.int .i64 r.1, .int .i64 r.2]) true).run Tryz.prog w = .ok (.tuple #[lookOV K r, .bool (lookP K r).isSome]) w := by
  unfold lookOV
  cases hf : lookP K r with
  | some y =>
    obtain ⟨h1, h2⟩ := lookP_in hf
    subst h2
    exact MapL.hit h keyed_id Tryz.underlying101 (zero_op w) (List.mem_map.2 ⟨y, h1, rfl⟩) true
  | none =>
    obtain ⟨kl, hk⟩ := keyOf_id hr
    refine MapL.miss h keyed_id Tryz.underlying101 (zero_op w) hk (fun p hp e => ?_) true
    obtain ⟨q, hq, rfl⟩ := List.mem_map.1 hp
    exact lookP_out hf q hq (refV_inj e)
set_option maxRecDepth 100000 in
theorem eq_place (a b : Int) (t : ByteArray) (c d a' b' : Int) (t' : ByteArray) (c' d' : Int) (w : World) :
    (Op.equalIn 10000 123 (.agg #[.int .i64 a, .int .i64 b, .string t, .int .i64 c, .int .i64 d]) (.agg #[.int .i64 a', .int .i64 b', .string t', .int .i64 c', .int .i64 d'])).run Tryz.prog w = .ok ((a == a' && b == b') && (t.toList == t'.toList && (c == c' && d == d'))) w := by
  have hS : Tryz.prog.underlying 123 = some (.struct (Tryz.prog.fieldsOf 123)) := by kernel_rfl
  have hp : Tryz.prog.stoodInHeld 123 = false := by kernel_rfl
  have hT : ∀ (x y : ByteArray) (w : World), (Op.equalIn 9999 9 (.string x) (.string y)).run Tryz.prog w = .ok (x.toList == y.toList) w := fun x y w => run_equalIn_string w 9998 9 x y Tryz.underlying9
  have hD := eq_id9
  rw [show (10000 : Nat) = 9999 + 1 from rfl, run_equalIn_agg w 9999 123 _ _ hS hp]
  simp only [Program.fieldsOf, Tryz.underlying123, Op.eqFields]
  generalize Op.equalIn 9999 = EQ at hT hD ⊢
  go_simp
  by_cases h1 : a = a' <;> by_cases h2 : b = b' <;> by_cases h3 : t.toList = t'.toList <;> by_cases h4 : c = c' <;> by_cases h5 : d = d' <;> simp [h1, h2, h3, h4, h5]
theorem eq_places (y x : OpI) (w : World) : (Op.equalIn 10000 123 (placeV y) (placeV x)).run Tryz.prog w = .ok (placeP y x) w := by
  unfold placeV placeP
  rw [eq_place]
  congr 1
  have e : decide (y.1.key = x.1.key) = (y.1.key.toList == x.1.key.toList) := by
    rw [dec_key]
    by_cases h : y.1.key.toList = x.1.key.toList <;> simp [h]
  rw [e]
  by_cases h1 : y.1.on = x.1.on <;> by_cases h2 : y.1.oa = x.1.oa <;> by_cases h4 : (elemP y).1 = (elemP x).1 <;> by_cases h5 : (elemP y).2 = (elemP x).2 <;> simp [objP, h1, h2, h4, h5, Prod.ext_iff]
end Go.Proofs.YtclgfcjcpbiadaaGreatDoor

namespace Go.Proofs.YtclgfcjcpbiadaaGreatDoor
open Go.RowKit

/-- the loop over what waits, ascending (S), under way: from L0 W0 it has come to L W; the first i of S were looked at -/
structure Ag (L0 W0 : List ChD) (S : List Rf) (i : Nat) (L W : List ChD) : Prop where
  inv : Inv L W
  eq : settle W0.length L0 W0 = settle W.length L W
  old : ∀ c ∈ W, c.rf ∈ S.take i → readyP L c = false
  all : ∀ c ∈ W, c.rf ∈ S
  new : ∀ r ∈ S.drop i, r ∈ refsOf W
  asc : AscW S
  nd : S.Nodup
section
variable {L0 W0 L W : List ChD} {S : List Rf} {i j : Nat} {r : Rf} {x : ChD}
theorem Ag.start (h : Inv L W) (he : settle W0.length L0 W0 = settle W.length L W) (hp : S.Perm (refsOf W)) (ha : AscW S) : Ag L0 W0 S 0 L W :=
  ⟨h, he, (fun _ _ h => by simp at h), (fun c hc => hp.mem_iff.2 (mem_refs hc)), (fun r hr => hp.mem_iff.1 (by simpa using hr)), ha, hp.nodup_iff.2 h.nd⟩
theorem refs_at (h : r ∈ refsOf W) : ∃ (j : Nat) (x : ChD), W[j]? = some x ∧ x.rf = r := by
  obtain ⟨x, hx, e⟩ := List.mem_map.1 h
  obtain ⟨j, hj, hx⟩ := List.getElem_of_mem hx
  exact ⟨j, x, List.getElem?_eq_some_iff.2 ⟨hj, hx⟩, e⟩
theorem Ag.at (h : Ag L0 W0 S i L W) (hs : S[i]? = some r) : ∃ (j : Nat) (x : ChD), W[j]? = some x ∧ x.rf = r := by
  refine refs_at (h.new r ?_)
  obtain ⟨hi, e⟩ := List.getElem?_eq_some_iff.1 hs
  rw [List.drop_eq_getElem_cons hi, e]
  exact List.mem_cons_self ..
theorem take_mem_succ (hs : S[i]? = some r) {q : Rf} (h : q ∈ S.take (i + 1)) : q ∈ S.take i ∨ q = r := by
  rw [List.take_add_one, hs, Option.toList_some] at h
  rcases List.mem_append.1 h with h | h
  · exact .inl h
  · exact .inr (List.mem_singleton.1 h)
theorem drop_mem_succ {q : Rf} (h : q ∈ S.drop (i + 1)) : q ∈ S.drop i := by
  rw [← List.drop_drop] at h
  exact List.mem_of_mem_drop h
theorem inv_one (h : Inv L W) {c d : ChD} (hc : c ∈ W) (hd : d ∈ W) (e : c.rf = d.rf) : c = d := by
  have h1 := findC_is h.nd hc
  have h2 := findC_is h.nd hd
  rw [e, h2] at h1
  exact (Option.some.inj h1).symm
theorem Ag.skip (h : Ag L0 W0 S i L W) (hs : S[i]? = some r) (hx : W[j]? = some x) (hr : x.rf = r) (hn : readyP L x = false) : Ag L0 W0 S (i + 1) L W :=
  ⟨h.inv, h.eq, (fun c hc hm => by
    rcases take_mem_succ hs hm with hm | hm
    · exact h.old c hc hm
    · rw [inv_one h.inv hc (List.mem_of_getElem? hx) (by rw [hm, hr])]; exact hn), h.all, (fun q hq => h.new q (drop_mem_succ hq)), h.asc, h.nd⟩
theorem Ag.least (h : Ag L0 W0 S i L W) (hs : S[i]? = some r) (hx : W[j]? = some x) (hr : x.rf = r) (hn : readyP L x = true) : leastAt (readyP L) W = some (j, x.rf) := by
  refine leastAt_is h.inv.nd hx hn fun d hd hdr => ?_
  obtain ⟨k, hk, e⟩ := List.getElem_of_mem (h.all d hd)
  have hk' : S[k]? = some d.rf := List.getElem?_eq_some_iff.2 ⟨hk, e⟩
  rw [hr]
  rcases Nat.lt_trichotomy k i with hlt | rfl | hgt
  · have := h.old d hd (by
      rw [List.mem_take_iff_getElem]
      exact ⟨k, by omega, e⟩)
    rw [this] at hdr; cases hdr
  · rw [hk'] at hs
    cases hs
    unfold aheadR
    rw [decide_eq_false_iff_not]; omega
  · have := h.asc i k r d.rf hgt hs hk'
    unfold aheadR
    rw [decide_eq_false_iff_not]; exact this
theorem drop_next (hn : S.Nodup) (hs : S[i]? = some r) : r ∉ S.drop (i + 1) := by
  obtain ⟨hi, e⟩ := List.getElem?_eq_some_iff.1 hs
  have h1 : (S.drop i).Nodup := hn.sublist (List.drop_sublist _ _)
  rw [List.drop_eq_getElem_cons hi, e] at h1
  exact (List.nodup_cons.1 h1).1
theorem refs_erase (hn : (refsOf W).Nodup) (hx : W[j]? = some x) {q : Rf} (hq : q ∈ refsOf W) (hne : q ≠ x.rf) : q ∈ refsOf (W.eraseIdx j) := by
  obtain ⟨c, hc, rfl⟩ := List.mem_map.1 hq
  refine mem_refs ?_
  have hp := pick_perm W j x hx
  rcases List.mem_cons.1 (hp.mem_iff.1 hc) with h | h
  · exact absurd (congrArg ChD.rf h) hne
  · exact h
theorem refs_gone (hn : (refsOf W).Nodup) (hx : W[j]? = some x) {c : ChD} (hc : c ∈ W.eraseIdx j) : c.rf ≠ x.rf := by
  have hp := pick_perm W j x hx
  have h1 : (refsOf (x :: W.eraseIdx j)).Nodup := (hp.map ChD.rf).nodup_iff.1 hn
  intro he
  exact (List.nodup_cons.1 h1).1 (by show x.rf ∈ refsOf (W.eraseIdx j); rw [← he]; exact mem_refs hc)
theorem Ag.lose (h : Ag L0 W0 S i L W) (hs : S[i]? = some r) (hx : W[j]? = some x) (hr : x.rf = r) (hn : readyP L x = true) (hf : fitsP L x = false) : Ag L0 W0 S (i + 1) L (W.eraseIdx j) := by
  refine ⟨h.inv.drop j, ?_, fun c hc hm => ?_, fun c hc => h.all c (mem_eraseIdx_of hc), fun q hq => ?_, h.asc, h.nd⟩
  · rw [h.eq, settle_go (h.least hs hx hr hn) hx, hf]; rfl
  · rcases take_mem_succ hs hm with hm | hm
    · exact h.old c (mem_eraseIdx_of hc) hm
    · exact absurd (hm.trans hr.symm) (refs_gone h.inv.nd hx hc)
  · refine refs_erase h.inv.nd hx (h.new q (drop_mem_succ hq)) ?_
    rw [hr]
    rintro rfl
    exact drop_next h.nd hs hq
theorem Ag.win (h : Ag L0 W0 S i L W) (hs : S[i]? = some r) (hx : W[j]? = some x) (hr : x.rf = r) (hn : readyP L x = true) (hf : fitsP L x = true) :
    settle W0.length L0 W0 = settle (W.eraseIdx j).length (L ++ [x]) (W.eraseIdx j) ∧ Inv (L ++ [x]) (W.eraseIdx j) ∧ (W.eraseIdx j).length < W.length := by
  refine ⟨by rw [h.eq, settle_go (h.least hs hx hr hn) hx, hf]; rfl, h.inv.move hx hn hf, ?_⟩
  have hj := (List.getElem?_eq_some_iff.1 hx).1
  rw [List.length_eraseIdx_of_lt hj]; omega
theorem Ag.done (h : Ag L0 W0 S i L W) (hi : S.length ≤ i) : settle W0.length L0 W0 = (L, W) := by
  rw [h.eq]
  refine settle_stop ?_
  cases hl : leastAt (readyP L) W with
  | none => rfl
  | some b =>
    obtain ⟨j, q⟩ := b
    obtain ⟨x, hx, rfl, hp, -⟩ := leastAt_some hl
    have := h.old x (List.mem_of_getElem? hx) (by rw [List.take_of_length_le hi]; exact h.all x (List.mem_of_getElem? hx))
    rw [this] at hp; cases hp
end
section
variable {L W : List ChD} {c d : ChD}
theorem takeP_err (he : c.err ≠ 0) : takeP L W c = ((L, W), c.err) := by unfold takeP; rw [if_pos he]
theorem takeP_found (he : c.err = 0) (h : (findC L c.rf).or (findC W c.rf) = some d) : takeP L W c = ((L, W), sameE d c) := by
  unfold takeP
  rw [if_neg (by simp [he])]
  cases h1 : findC L c.rf with
  | some x => rw [h1] at h; simp at h; subst h; rfl
  | none => rw [h1] at h; simp at h; rw [h]
theorem takeP_none (he : c.err = 0) (h : (findC L c.rf).or (findC W c.rf) = none) : findC L c.rf = none ∧ findC W c.rf = none := by
  cases h1 : findC L c.rf with
  | some x => rw [h1] at h; simp at h
  | none => rw [h1] at h; simp at h; exact ⟨rfl, h⟩
theorem takeP_full (he : c.err = 0) (h1 : findC L c.rf = none) (h2 : findC W c.rf = none) (h3 : 120 ≤ L.length + W.length) : takeP L W c = ((L, W), 4) := by
  unfold takeP
  rw [if_neg (by simp [he]), h1, h2]
  simp only [if_pos h3]
theorem takeP_wait (he : c.err = 0) (h1 : findC L c.rf = none) (h2 : findC W c.rf = none) (h3 : ¬ 120 ≤ L.length + W.length) (h4 : readyP L c = false) : takeP L W c = ((L, W ++ [c]), 0) := by
  unfold takeP
  rw [if_neg (by simp [he]), h1, h2]
  simp only [if_neg h3, if_pos h4]
theorem takeP_bad (he : c.err = 0) (h1 : findC L c.rf = none) (h2 : findC W c.rf = none) (h3 : ¬ 120 ≤ L.length + W.length) (h4 : readyP L c = true) (h5 : fitsP L c = false) : takeP L W c = ((L, W), 7) := by
  unfold takeP
  rw [if_neg (by simp [he]), h1, h2]
  simp only [if_neg h3, h4, Bool.true_eq_false, if_false, h5, if_true]
theorem takeP_go (he : c.err = 0) (h1 : findC L c.rf = none) (h2 : findC W c.rf = none) (h3 : ¬ 120 ≤ L.length + W.length) (h4 : readyP L c = true) (h5 : fitsP L c = true) : takeP L W c = (settle W.length (L ++ [c]) W, 0) := by
  unfold takeP
  rw [if_neg (by simp [he]), h1, h2]
  simp only [if_neg h3, h4, Bool.true_eq_false, if_false, h5]
theorem found_in (h : (findC L c.rf).or (findC W c.rf) = some d) : (d ∈ L ∨ d ∈ W) ∧ d.rf = c.rf := by
  cases h1 : findC L c.rf with
  | some x => rw [h1] at h; simp at h; subst h; exact ⟨.inl (findC_some h1).1, (findC_some h1).2⟩
  | none => rw [h1] at h; simp at h; exact ⟨.inr (findC_some h).1, (findC_some h).2⟩
end
end Go.Proofs.YtclgfcjcpbiadaaGreatDoor
