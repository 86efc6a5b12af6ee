/- Contracts of the document's books: Put. -/
import Derived.Test.YtclgfcjcpbiadaaGreatDoorSRef1
import Derived.StillTailTactics
import Derived.Maps.RangeWalk
set_option linter.unusedVariables false
set_option linter.unusedSimpArgs false
namespace Go.Proofs.YtclgfcjcpbiadaaGreatDoor
open Go.ChangeShapes Go.WideShapes Go.ChangeAt Go.RowKit

theorem infoRef : (Tryz.prog.info? 25).map (fun i => (i.zero, i.size, i.bytes)) = some (some (.agg #[.int .i64 0, .int .i64 0]), 2, 16) := by kernel_rfl
theorem refC_one (l : List Rf) : ∀ u ∈ refC l, u.oneCell' = true := by
  intro u hu
  obtain ⟨r, _, h⟩ := List.mem_flatMap.1 hu
  simp only [List.mem_cons, List.not_mem_nil, or_false] at h
  rcases h with rfl | rfl <;> rfl
theorem take_drop_while {α : Type} (p : α → Bool) : ∀ (l : List α) (k : Nat), k ≤ l.length → (∀ x ∈ l.take k, p x = true) → (∀ x, l[k]? = some x → p x = false) → l.takeWhile p = l.take k ∧ l.dropWhile p = l.drop k
  | [], k, _, _, _ => by simp
  | a :: l, 0, _, _, h2 => by
    have := h2 a (by simp)
    simp [this]
  | a :: l, k + 1, hk, h1, h2 => by
    have ha : p a = true := h1 a (by simp)
    obtain ⟨e1, e2⟩ := take_drop_while p l k (by simpa using hk) (fun x hx => h1 x (by simp [hx])) (fun x hx => h2 x (by simpa using hx))
    simp [ha, e1, e2]
theorem putR_has {l : List Rf} {r : Rf} (h : r ∈ l) : putR l r = l := by unfold putR; rw [if_pos h]
theorem putR_at {l : List Rf} {r : Rf} (h : r ∉ l) {k : Nat} (hk : k ≤ l.length) (h1 : ∀ x ∈ l.take k, aheadR x r = true) (h2 : ∀ x, l[k]? = some x → aheadR x r = false) : putR l r = l.take k ++ r :: l.drop k := by
  unfold putR
  obtain ⟨e1, e2⟩ := take_drop_while (fun x => aheadR x r) l k hk h1 h2
  rw [if_neg h, e1, e2]
theorem refC_take (l : List Rf) (k : Nat) : (refC l).take (k * 2) = refC (l.take k) := by
  induction l generalizing k with
  | nil => simp [refC]
  | cons x l ih => cases k with
    | zero => simp [refC]
    | succ k =>
      have e : refC (x :: l) = .int .i64 x.1 :: .int .i64 x.2 :: refC l := by simp [refC]
      have e2 : refC (x :: l.take k) = .int .i64 x.1 :: .int .i64 x.2 :: refC (l.take k) := by simp [refC]
      rw [e, show (k + 1) * 2 = k * 2 + 1 + 1 from by omega, List.take_succ_cons, List.take_succ_cons, ih, List.take_succ_cons, e2]
theorem refC_drop (l : List Rf) (k : Nat) : (refC l).drop (k * 2) = refC (l.drop k) := by
  induction l generalizing k with
  | nil => simp [refC]
  | cons x l ih => cases k with
    | zero => simp [refC]
    | succ k =>
      have e : refC (x :: l) = .int .i64 x.1 :: .int .i64 x.2 :: refC l := by simp [refC]
      rw [e, show (k + 1) * 2 = k * 2 + 1 + 1 from by omega, List.drop_succ_cons, List.drop_succ_cons, ih, List.drop_succ_cons]
theorem addr0 (g i : Nat) : (⟨g, 0, none⟩ : Addr).add i = ⟨g, i, none⟩ := by
  unfold Addr.add
  split
  · rename_i h; rw [h]
  · simp
set_option maxHeartbeats 4000000 in
set_option maxRecDepth 20000 in
theorem sPut_some (l : List Rf) (r : Rf) (base : Nat) (g c : Nat) (w : World) (ho : w.ownsRow base 25 2 (.slice (some ⟨g, 0, none⟩) l.length c) l.length (refC l)) (hl : l.length ≤ 1000000000) (hbs : base ≤ w.heap.size) :
    Calls Tryz.prog 40 #[.slice (some ⟨g, 0, none⟩) l.length c, .agg #[.int .i64 r.1, .int .i64 r.2]] w fun e w' => ∃ v', e = .returned v' ∧ w'.ownsRow base 25 2 v' (putR l r).length (refC (putR l r)) ∧ Below w.heap.size w w' ∧ (r ∈ l ∨ w'.ownsRow w.heap.size 25 2 v' (putR l r).length (refC (putR l r))) := by
  obtain ⟨A, c', hv', hc, hcm, hr0⟩ := Reads.of_own ho
  simp only [Value.slice.injEq, true_and] at hv'
  obtain ⟨rfl, rfl⟩ := hv'
  have hr : Reads (fun k => k < w.heap.size) w 2 (some ⟨g, 0, none⟩) l.length (refC l) := hr0.more fun k hk => (own_lt ho hk).2
  have HO := Lib.hid ho
  have HR0 := Lib.hid (reads_below hr ((Below.refl _ w).alloc (Nat.le_refl _) (.cells #[.int .i64 r.1, .int .i64 r.2] 25)))
  have HB0 : Hid (Below w.heap.size w (w.alloc (.cells #[.int .i64 r.1, .int .i64 r.2] 25))) := (Below.refl _ w).alloc (Nat.le_refl _) _
  have HQ0 := Lib.hid (Blk.new w 25 #[.int .i64 r.1, .int .i64 r.2])
  have hsz : (w.alloc (.cells #[.int .i64 r.1, .int .i64 r.2] 25)).heap.size = w.heap.size + 1 := by simp
  clear ho hr0 hr
  have H1 := fun W c h1 h2 h3 => sHas_any l r (fun k => k < W.heap.size) (some ⟨g, 0, none⟩) c W h1 h2 h3
  go_enter Tryz.func40, Tryz.ntmps40
  go_wp2_with fail
  generalize w.alloc (.cells #[.int .i64 r.1, .int .i64 r.2] 25) = V at *
  replace H1 := H1 V c HR0.out (fun _ h => h) (by omega)
  have y1 : V.cell? ⟨w.heap.size, 0, none⟩ = some (.int .i64 r.1) := HQ0.out.cell 0
  have y2 : V.cell? ⟨w.heap.size, 1, none⟩ = some (.int .i64 r.2) := HQ0.out.cell 1
  go_wp2_with fail
  go_at_call 10
  refine H1.mono ?_
  rintro e w0 ⟨rfl, hb⟩
  have HB1 : Hid (Below w.heap.size w w0) := HB0.out.trans (hb.mono HB0.out.size)
  have HQ1 := Lib.hid (HQ0.out.keep (hb.block _ HQ0.out.lt))
  have HR1 := Lib.hid (reads_below HR0.out hb)
  have hs1 : w.heap.size + 1 ≤ w0.heap.size := by rw [← hsz]; exact hb.size
  clear hb H1 HR0 HQ0 y1 y2 hsz
  by_cases hm : r ∈ l
  · have e1 : decide (r ∈ l) = true := decide_eq_true hm
    rw [e1]
    go_wp2_with fail
    go_ret
    rw [putR_has hm]
    exact ⟨_, rfl, own_below HO.out HB1.out, HB1.out, .inl hm⟩
  · have e1 : decide (r ∈ l) = false := decide_eq_false hm
    rw [e1]
    obtain ⟨n, hn⟩ : ∃ n, l.length = n := ⟨_, rfl⟩
    have HN := Lib.hid hn
    rw [hn] at hl hc ⊢
    have HM := Lib.hid hm
    clear hn hm e1
    go_wp2_with fail
    go_loopw [6] (fun s6 wr => ∃ k : Nat, s6 = .int .i64 k ∧ k ≤ n ∧ Hid (∀ x ∈ l.take k, aheadR x r = true) ∧ Hid (Below w0.heap.size w0 wr)) (fun s6 _ => n - (intOf s6).toNat)
    case atStart => exact ⟨0, rfl, by omega, by show ∀ x ∈ _, _; simp, Below.refl _ _⟩
    case round =>
      obtain ⟨k, rfl, hk, HI, HB⟩ := hrel
      have y1 : wr.cell? ⟨w.heap.size, 0, none⟩ = some (.int .i64 r.1) := (HQ1.out.keep (HB.out.block _ HQ1.out.lt)).cell 0
      have y2 : wr.cell? ⟨w.heap.size, 1, none⟩ = some (.int .i64 r.2) := (HQ1.out.keep (HB.out.block _ HQ1.out.lt)).cell 1
      by_cases hlt : k < n
      · obtain ⟨b1, o1, hA, -, hc1⟩ := (reads_below HR1.out HB.out).at_ (by rw [HN.out]; omega) (by omega)
        simp only [Option.some.injEq, Addr.mk.injEq, and_true] at hA
        obtain ⟨rfl, rfl⟩ := hA
        obtain ⟨x, hx⟩ : ∃ x, l[k]? = some x := ⟨_, List.getElem?_eq_getElem (by rw [HN.out]; exact hlt)⟩
        have x1 : wr.cell? ⟨g, k * 2, none⟩ = some (.int .i64 x.1) := by have := hc1 _ _ (refC_at hx).1; rwa [Nat.zero_add] at this
        have x2 : wr.cell? ⟨g, k * 2 + 1, none⟩ = some (.int .i64 x.2) := by have := hc1 _ _ (refC_at hx).2; rwa [Nat.zero_add] at this
        have g1 : decide ((k : Int) < n) = true := decide_eq_true (by omega)
        have HX := Lib.hid hx
        clear hc1 hx
        go_wp2_with fail
        refine wp_region_still_tail 10 (by kernel_rfl) (by kernel_rfl) ?_
        simp only [List.take_succ_cons, List.take_zero, List.drop_succ_cons, List.drop_zero]
        repeat (first | (refine wpStill_want rfl (fun K hK => ?_); go_simp; refine hK _ ?_; clear hK K) | (refine wpStill_skip rfl ?_; go_frame))
        refine wpStill_nil ?_
        change wpList _ _ _ _ _ wr.drew
        have HBD : Hid (Below w0.heap.size w0 wr.drew) := HB.out.drew
        generalize wr.drew = w2 at HBD ⊢
        clear x1 x2 y1 y2 HB
        go_wp2_with fail
        go_at_call 31
        refine (ahead_any x r w2).mono ?_
        rintro e w3 ⟨rfl, hb⟩
        have HB3 : Hid (Below w0.heap.size w0 w3) := HBD.out.trans (hb.mono HBD.out.size)
        clear hb HBD
        cases ha : aheadR x r with
        | true =>
          have HI2 : Hid (∀ x ∈ l.take (k + 1), aheadR x r = true) := by
            intro z hz
            rw [List.take_add_one, HX.out] at hz
            rcases List.mem_append.1 hz with hz | hz
            · exact HI.out z hz
            · simp at hz; rw [hz]; exact ha
          clear ha
          go_wp2_with fail
          go_roundw
          case rel => exact ⟨k + 1, by go_num, by omega, HI2, HB3⟩
          case measure => simp [intOf]; omega
        | false =>
          have HP : Hid (putR l r = l.take k ++ r :: l.drop k) := putR_at HM.out (by rw [HN.out]; omega) HI.out (fun z hz => by rw [HX.out] at hz; cases hz; exact ha)
          clear ha HX
          obtain ⟨i0, hi, hz0, hz1, hz2⟩ := info_parts infoRef
          have HRW : Hid (Reads (fun x => x < w3.heap.size) w3 2 (some ⟨g, 0, none⟩) n (refC l)) := by have := reads_below HR1.out HB3.out; rwa [HN.out] at this
          have HT : Hid (Reads (fun x => x < w3.heap.size) w3 2 (some ⟨g, 0, none⟩) k (refC (l.take k))) := by have := HRW.out.take hk; rwa [refC_take] at this
          have HQW := Lib.hid (HQ1.out.keep (HB3.out.block _ HQ1.out.lt))
          have HBW : Hid (Below w.heap.size w w3) := HB1.out.trans (HB3.out.mono HB1.out.size)
          clear HB0 HB1 hs1 HQ1 HI
          go_wp2_with (at_builtin; refine wpList_append_any _ rfl (.tmp 27) (.tmp 30) _ rfl (w3.heap.size) 25 i0 _ 2 16 Tryz.underlying23 hi hz0 hz1 hz2 rfl (by omega) (.slice none 0 0) (0) (refC []) rfl (own_nil _ _ _ _) _ ((some ⟨g, 0, none⟩)) (k) (c) (refC (l.take k)) rfl (HT.out) (refC_one _) ?c1 ?c2 ?c3 ?_)
          try case c1 => simp only [maxLen]; omega
          try case c2 => omega
          try case c3 => exact Nat.le_refl _
          intro v4 w4 ho4 hg4 _
          have HB4 : Hid (Below w3.heap.size w3 w4) := (Below.refl _ w3).grown hg4 (Nat.le_refl _) (fun g e => by cases e)
          replace ho4 : w4.ownsRow w3.heap.size 25 2 v4 k (refC (l.take k)) := by simpa [refC] using ho4
          have HO4 := Lib.hid ho4
          have hQ4 := HQW.out.keep (HB4.out.block _ HQW.out.lt)
          have y1 : w4.cell? ⟨w.heap.size, 0, none⟩ = some (.int .i64 r.1) := hQ4.cell 0
          have y2 : w4.cell? ⟨w.heap.size, 1, none⟩ = some (.int .i64 r.2) := hQ4.cell 1
          clear ho4 hg4 hQ4
          go_wp2_with (at_builtin; refine wpList_append_one 23 25 (.agg #[.int .i64 0, .int .i64 0]) 2 16 Tryz.underlying23 infoRef rfl (by omega) rfl (.tmp 32) (.tmp 34) rfl (w3.heap.size) (v4) (k) (refC (l.take k)) rfl (HO4.out.alloc _) (w4.heap.size) 1 ([.int .i64 r.1, .int .i64 r.2]) rfl ?d1 ?d2 ?d3 ?d4 ?d5 ?d6 ?_)
          try case d1 => rfl
          try case d2 => intro j u hj; exact new_cells _ _ _ hj
          try case d3 => first | exact refC_one [r] | exact ⟨rfl, rfl⟩ | rfl
          try case d4 => omega
          try case d5 => omega
          try case d6 => have := HB4.out.size; simp; omega
          intro v1 w1 hown1 hg1 hat1
          have hb1 : Below (w3.heap.size) w3 w1 := (HB4.out.alloc HB4.out.size _).grown hg1 (by have := HB4.out.size; simp; omega) (fun g hg => (own_lt (HO4.out) hg).1)
          clear hat1 hg1 y1 y2
          have HO5 := Lib.hid hown1
          have HB5 := Lib.hid hb1
          have HC : Hid (Reads (fun x => x < w1.heap.size) w1 2 (if c = k then (some ⟨g, 0, none⟩) else Option.map (fun x : Addr => x.add (k * 2)) (some ⟨g, 0, none⟩)) (n - k) (refC (l.drop k))) := by
            have := (reads_below HRW.out HB5.out).cut (cap := c) hk (by omega)
            rwa [refC_drop] at this
          clear hown1 hb1 HO4 HB4 HRW HT HQW
          have HF : Hid (∀ (v' : Value) (w' : World), w'.ownsRow w3.heap.size 25 2 v' (k + 1 + (n - k)) (refC (l.take k) ++ [.int .i64 r.1, .int .i64 r.2] ++ refC (l.drop k)) → w'.ownsRow w.heap.size 25 2 v' (putR l r).length (refC (putR l r))) := by
            intro v' w' h
            have e1 : (putR l r).length = k + 1 + (n - k) := by rw [HP.out]; simp only [List.length_append, List.length_take, List.length_cons, List.length_drop]; have := HN.out; omega
            have e2 : refC (putR l r) = refC (l.take k) ++ [.int .i64 r.1, .int .i64 r.2] ++ refC (l.drop k) := by rw [HP.out, refC_append, List.append_assoc]; rfl
            rw [e1, e2]
            exact own_base h fun g hg => Nat.le_trans HBW.out.size (own_lt h hg).1
          by_cases hck : c = k
          · rw [if_pos hck] at HC
            go_wp2_with (at_builtin; refine wpList_append_any _ rfl (.tmp 36) (.tmp 39) _ rfl (w3.heap.size) 25 i0 _ 2 16 Tryz.underlying23 hi hz0 hz1 hz2 rfl (by omega) (v1) (k + 1) (refC (l.take k) ++ [.int .i64 r.1, .int .i64 r.2]) rfl (HO5.out) _ (_) (_) (_) (refC (l.drop k)) rfl ((by simpa using HC.out)) (refC_one _) ?c1 ?c2 ?c3 ?_)
            try case c1 => simp only [maxLen]; omega
            try case c2 => omega
            try case c3 => exact HB5.out.size
            intro v6 w6 ho6 hg6 _
            have HB6 : Hid (Below w3.heap.size w3 w6) := HB5.out.grown hg6 HB5.out.size (fun g hg => (own_lt HO5.out hg).1)
            have HO6 : Hid (w6.ownsRow w.heap.size 25 2 v6 (putR l r).length (refC (putR l r))) := HF.out _ _ (by simpa using ho6)
            clear ho6 hg6 HF HC HO5 HB5
            go_wp2_with fail
            go_ret
            exact ⟨_, rfl, own_base HO6.out (fun g hg => Nat.le_trans hbs (own_lt HO6.out hg).1), HBW.out.trans (HB6.out.mono HBW.out.size), .inr HO6.out⟩
          · rw [if_neg hck] at HC
            have HC2 : Hid (Reads (fun x => x < w1.heap.size) w1 2 (some ⟨g, k * 2, none⟩) (n - k) (refC (l.drop k))) := by have := HC.out; rw [Option.map_some, addr0] at this; exact this
            go_wp2_with (at_builtin; refine wpList_append_any _ rfl (.tmp 36) (.tmp 39) _ rfl (w3.heap.size) 25 i0 _ 2 16 Tryz.underlying23 hi hz0 hz1 hz2 rfl (by omega) (v1) (k + 1) (refC (l.take k) ++ [.int .i64 r.1, .int .i64 r.2]) rfl (HO5.out) _ (_) (_) (_) (refC (l.drop k)) rfl ((by simpa using HC2.out)) (refC_one _) ?c1 ?c2 ?c3 ?_)
            try case c1 => simp only [maxLen]; omega
            try case c2 => omega
            try case c3 => exact HB5.out.size
            intro v6 w6 ho6 hg6 _
            have HB6 : Hid (Below w3.heap.size w3 w6) := HB5.out.grown hg6 HB5.out.size (fun g hg => (own_lt HO5.out hg).1)
            have HO6 : Hid (w6.ownsRow w.heap.size 25 2 v6 (putR l r).length (refC (putR l r))) := HF.out _ _ (by simpa using ho6)
            clear ho6 hg6 HF HC HO5 HB5
            go_wp2_with fail
            go_ret
            exact ⟨_, rfl, own_base HO6.out (fun g hg => Nat.le_trans hbs (own_lt HO6.out hg).1), HBW.out.trans (HB6.out.mono HBW.out.size), .inr HO6.out⟩
      · have g1 : decide ((k : Int) < n) = false := decide_eq_false (by omega)
        obtain rfl : k = n := by omega
        have HP : Hid (putR l r = l.take k ++ r :: l.drop k) := putR_at HM.out (by rw [HN.out]; omega) HI.out (fun z hz => by rw [List.getElem?_eq_none (by rw [HN.out]; omega)] at hz; cases hz)
        clear y1 y2
        go_wp2_with fail
        go_quiet (fail)
        change Exit.then _ _ _ _ (wr.drewN nq)
        have HBD : Hid (Below w0.heap.size w0 (wr.drewN nq)) := below_drewN HB.out nq
        generalize wr.drewN nq = w3 at HBD ⊢
        clear HB
        obtain ⟨i0, hi, hz0, hz1, hz2⟩ := info_parts infoRef
        have HRW : Hid (Reads (fun x => x < w3.heap.size) w3 2 (some ⟨g, 0, none⟩) k (refC l)) := by have := reads_below HR1.out HBD.out; rwa [HN.out] at this
        have HT : Hid (Reads (fun x => x < w3.heap.size) w3 2 (some ⟨g, 0, none⟩) k (refC (l.take k))) := by have := HRW.out.take hk; rwa [refC_take] at this
        have HQW := Lib.hid (HQ1.out.keep (HBD.out.block _ HQ1.out.lt))
        have HBW : Hid (Below w.heap.size w w3) := HB1.out.trans (HBD.out.mono HB1.out.size)
        clear HB0 HB1 hs1 HQ1 HI
        go_wp2_with (at_builtin; refine wpList_append_any _ rfl (.tmp 27) (.tmp 30) _ rfl (w3.heap.size) 25 i0 _ 2 16 Tryz.underlying23 hi hz0 hz1 hz2 rfl (by omega) (.slice none 0 0) (0) (refC []) rfl (own_nil _ _ _ _) _ ((some ⟨g, 0, none⟩)) (k) (c) (refC (l.take k)) rfl (HT.out) (refC_one _) ?c1 ?c2 ?c3 ?_)
        try case c1 => simp only [maxLen]; omega
        try case c2 => omega
        try case c3 => exact Nat.le_refl _
        intro v4 w4 ho4 hg4 _
        have HB4 : Hid (Below w3.heap.size w3 w4) := (Below.refl _ w3).grown hg4 (Nat.le_refl _) (fun g e => by cases e)
        replace ho4 : w4.ownsRow w3.heap.size 25 2 v4 k (refC (l.take k)) := by simpa [refC] using ho4
        have HO4 := Lib.hid ho4
        have hQ4 := HQW.out.keep (HB4.out.block _ HQW.out.lt)
        have y1 : w4.cell? ⟨w.heap.size, 0, none⟩ = some (.int .i64 r.1) := hQ4.cell 0
        have y2 : w4.cell? ⟨w.heap.size, 1, none⟩ = some (.int .i64 r.2) := hQ4.cell 1
        clear ho4 hg4 hQ4
        go_wp2_with (at_builtin; refine wpList_append_one 23 25 (.agg #[.int .i64 0, .int .i64 0]) 2 16 Tryz.underlying23 infoRef rfl (by omega) rfl (.tmp 32) (.tmp 34) rfl (w3.heap.size) (v4) (k) (refC (l.take k)) rfl (HO4.out.alloc _) (w4.heap.size) 1 ([.int .i64 r.1, .int .i64 r.2]) rfl ?d1 ?d2 ?d3 ?d4 ?d5 ?d6 ?_)
        try case d1 => rfl
        try case d2 => intro j u hj; exact new_cells _ _ _ hj
        try case d3 => first | exact refC_one [r] | exact ⟨rfl, rfl⟩ | rfl
        try case d4 => omega
        try case d5 => omega
        try case d6 => have := HB4.out.size; simp; omega
        intro v1 w1 hown1 hg1 hat1
        have hb1 : Below (w3.heap.size) w3 w1 := (HB4.out.alloc HB4.out.size _).grown hg1 (by have := HB4.out.size; simp; omega) (fun g hg => (own_lt (HO4.out) hg).1)
        clear hat1 hg1 y1 y2
        have HO5 := Lib.hid hown1
        have HB5 := Lib.hid hb1
        have HC : Hid (Reads (fun x => x < w1.heap.size) w1 2 (if c = k then (some ⟨g, 0, none⟩) else Option.map (fun x : Addr => x.add (k * 2)) (some ⟨g, 0, none⟩)) (k - k) (refC (l.drop k))) := by
          have := (reads_below HRW.out HB5.out).cut (cap := c) hk (by omega)
          rwa [refC_drop] at this
        clear hown1 hb1 HO4 HB4 HRW HT HQW
        have HF : Hid (∀ (v' : Value) (w' : World), w'.ownsRow w3.heap.size 25 2 v' (k + 1 + (k - k)) (refC (l.take k) ++ [.int .i64 r.1, .int .i64 r.2] ++ refC (l.drop k)) → w'.ownsRow w.heap.size 25 2 v' (putR l r).length (refC (putR l r))) := by
          intro v' w' h
          have e1 : (putR l r).length = k + 1 + (k - k) := by rw [HP.out]; simp only [List.length_append, List.length_take, List.length_cons, List.length_drop]; have := HN.out; omega
          have e2 : refC (putR l r) = refC (l.take k) ++ [.int .i64 r.1, .int .i64 r.2] ++ refC (l.drop k) := by rw [HP.out, refC_append, List.append_assoc]; rfl
          rw [e1, e2]
          exact own_base h fun g hg => Nat.le_trans HBW.out.size (own_lt h hg).1
        by_cases hck : c = k
        · rw [if_pos hck] at HC
          go_wp2_with (at_builtin; refine wpList_append_any _ rfl (.tmp 36) (.tmp 39) _ rfl (w3.heap.size) 25 i0 _ 2 16 Tryz.underlying23 hi hz0 hz1 hz2 rfl (by omega) (v1) (k + 1) (refC (l.take k) ++ [.int .i64 r.1, .int .i64 r.2]) rfl (HO5.out) _ (_) (_) (_) (refC (l.drop k)) rfl ((by simpa using HC.out)) (refC_one _) ?c1 ?c2 ?c3 ?_)
          try case c1 => simp only [maxLen]; omega
          try case c2 => omega
          try case c3 => exact HB5.out.size
          intro v6 w6 ho6 hg6 _
          have HB6 : Hid (Below w3.heap.size w3 w6) := HB5.out.grown hg6 HB5.out.size (fun g hg => (own_lt HO5.out hg).1)
          have HO6 : Hid (w6.ownsRow w.heap.size 25 2 v6 (putR l r).length (refC (putR l r))) := HF.out _ _ (by simpa using ho6)
          clear ho6 hg6 HF HC HO5 HB5
          go_wp2_with fail
          go_ret
          exact ⟨_, rfl, own_base HO6.out (fun g hg => Nat.le_trans hbs (own_lt HO6.out hg).1), HBW.out.trans (HB6.out.mono HBW.out.size), .inr HO6.out⟩
        · rw [if_neg hck] at HC
          have HC2 : Hid (Reads (fun x => x < w1.heap.size) w1 2 (some ⟨g, k * 2, none⟩) (k - k) (refC (l.drop k))) := by have := HC.out; rw [Option.map_some, addr0] at this; exact this
          go_wp2_with (at_builtin; refine wpList_append_any _ rfl (.tmp 36) (.tmp 39) _ rfl (w3.heap.size) 25 i0 _ 2 16 Tryz.underlying23 hi hz0 hz1 hz2 rfl (by omega) (v1) (k + 1) (refC (l.take k) ++ [.int .i64 r.1, .int .i64 r.2]) rfl (HO5.out) _ (_) (_) (_) (refC (l.drop k)) rfl ((by simpa using HC2.out)) (refC_one _) ?c1 ?c2 ?c3 ?_)
          try case c1 => simp only [maxLen]; omega
          try case c2 => omega
          try case c3 => exact HB5.out.size
          intro v6 w6 ho6 hg6 _
          have HB6 : Hid (Below w3.heap.size w3 w6) := HB5.out.grown hg6 HB5.out.size (fun g hg => (own_lt HO5.out hg).1)
          have HO6 : Hid (w6.ownsRow w.heap.size 25 2 v6 (putR l r).length (refC (putR l r))) := HF.out _ _ (by simpa using ho6)
          clear ho6 hg6 HF HC HO5 HB5
          go_wp2_with fail
          go_ret
          exact ⟨_, rfl, own_base HO6.out (fun g hg => Nat.le_trans hbs (own_lt HO6.out hg).1), HBW.out.trans (HB6.out.mono HBW.out.size), .inr HO6.out⟩
set_option maxHeartbeats 4000000 in
set_option maxRecDepth 20000 in
theorem sPut_nil (r : Rf) (w : World) :
    Calls Tryz.prog 40 #[.slice none 0 0, .agg #[.int .i64 r.1, .int .i64 r.2]] w fun e w' => ∃ v', e = .returned v' ∧ w'.ownsRow w.heap.size 25 2 v' 1 (refC [r]) ∧ Below w.heap.size w w' := by
  have HB0 : Hid (Below w.heap.size w (w.alloc (.cells #[.int .i64 r.1, .int .i64 r.2] 25))) := (Below.refl _ w).alloc (Nat.le_refl _) _
  have HQ0 := Lib.hid (Blk.new w 25 #[.int .i64 r.1, .int .i64 r.2])
  have H1 := fun W => sHas_any [] r (fun _ => False) none 0 W (Reads.none_) (fun _ h => h.elim) (by simp)
  go_enter Tryz.func40, Tryz.ntmps40
  go_wp2_with fail
  generalize w.alloc (.cells #[.int .i64 r.1, .int .i64 r.2] 25) = V at *
  replace H1 := H1 V
  have y1 : V.cell? ⟨w.heap.size, 0, none⟩ = some (.int .i64 r.1) := HQ0.out.cell 0
  have y2 : V.cell? ⟨w.heap.size, 1, none⟩ = some (.int .i64 r.2) := HQ0.out.cell 1
  go_wp2_with fail
  go_at_call 10
  refine H1.mono ?_
  rintro e w0 ⟨rfl, hb⟩
  have HB1 : Hid (Below w.heap.size w w0) := HB0.out.trans (hb.mono HB0.out.size)
  have HQ1 := Lib.hid (HQ0.out.keep (hb.block _ HQ0.out.lt))
  clear hb H1 HQ0 y1 y2 HB0
  have e1 : decide (r ∈ ([] : List Rf)) = false := by simp
  rw [e1]
  clear e1
  go_wp2_with fail
  go_loopw [6] (fun s6 wr => s6 = .int .i64 0 ∧ Hid (Below w0.heap.size w0 wr)) (fun _ _ => 0)
  case atStart => exact ⟨rfl, Below.refl _ _⟩
  case round =>
    obtain ⟨rfl, HB⟩ := hrel
    go_wp2_with fail
    go_quiet (fail)
    change Exit.then _ _ _ _ (wr.drewN nq)
    have HBD : Hid (Below w0.heap.size w0 (wr.drewN nq)) := below_drewN HB.out nq
    generalize wr.drewN nq = w3 at HBD ⊢
    obtain ⟨i0, hi, hz0, hz1, hz2⟩ := info_parts infoRef
    have HQ3 := Lib.hid (HQ1.out.keep (HBD.out.block _ HQ1.out.lt))
    have HB3 : Hid (Below w.heap.size w w3) := HB1.out.trans (HBD.out.mono HB1.out.size)
    clear HB HBD HB1 HQ1
    go_wp2_with (at_builtin; refine wpList_append_any _ rfl (.tmp 27) (.tmp 30) _ rfl (w3.heap.size) 25 i0 _ 2 16 Tryz.underlying23 hi hz0 hz1 hz2 rfl (by omega) (.slice none 0 0) (0) (refC []) rfl (own_nil _ _ _ _) _ (none) (0) (0) (refC []) rfl ((Reads.none_ (D := fun _ => False))) (refC_one _) ?c1 ?c2 ?c3 ?_)
    try case c1 => simp only [maxLen]; omega
    try case c2 => omega
    try case c3 => exact Nat.le_refl _
    intro v4 w4 ho4 hg4 _
    have HB4 : Hid (Below w3.heap.size w3 w4) := (Below.refl _ w3).grown hg4 (Nat.le_refl _) (fun g e => by cases e)
    replace ho4 : w4.ownsRow w3.heap.size 25 2 v4 0 (refC []) := by simpa [refC] using ho4
    have HO4 := Lib.hid ho4
    have hQ4 := HQ3.out.keep (HB4.out.block _ HQ3.out.lt)
    have y1 : w4.cell? ⟨w.heap.size, 0, none⟩ = some (.int .i64 r.1) := hQ4.cell 0
    have y2 : w4.cell? ⟨w.heap.size, 1, none⟩ = some (.int .i64 r.2) := hQ4.cell 1
    clear ho4 hg4 hQ4
    go_wp2_with (at_builtin; refine wpList_append_one 23 25 (.agg #[.int .i64 0, .int .i64 0]) 2 16 Tryz.underlying23 infoRef rfl (by omega) rfl (.tmp 32) (.tmp 34) rfl (w3.heap.size) (v4) (0) (refC []) rfl (HO4.out.alloc _) (w4.heap.size) 1 ([.int .i64 r.1, .int .i64 r.2]) rfl ?d1 ?d2 ?d3 ?d4 ?d5 ?d6 ?_)
    try case d1 => rfl
    try case d2 => intro j u hj; exact new_cells _ _ _ hj
    try case d3 => first | exact refC_one [r] | exact ⟨rfl, rfl⟩ | rfl
    try case d4 => omega
    try case d5 => omega
    try case d6 => have := HB4.out.size; simp; omega
    intro v1 w1 hown1 hg1 hat1
    have hb1 : Below (w3.heap.size) w3 w1 := (HB4.out.alloc HB4.out.size _).grown hg1 (by have := HB4.out.size; simp; omega) (fun g hg => (own_lt (HO4.out) hg).1)
    clear hat1 hg1 y1 y2
    have HO5 := Lib.hid hown1
    have HB5 := Lib.hid hb1
    clear hown1 hb1 HO4 HB4 HQ3
    go_wp2_with (at_builtin; refine wpList_append_any _ rfl (.tmp 36) (.tmp 39) _ rfl (w3.heap.size) 25 i0 _ 2 16 Tryz.underlying23 hi hz0 hz1 hz2 rfl (by omega) (v1) (1) (refC [] ++ [.int .i64 r.1, .int .i64 r.2]) rfl (HO5.out) _ (_) (_) (_) (refC []) rfl ((Reads.none_ (D := fun _ => False))) (refC_one _) ?c1 ?c2 ?c3 ?_)
    try case c1 => simp only [maxLen]; omega
    try case c2 => omega
    try case c3 => exact HB5.out.size
    intro v6 w6 ho6 hg6 _
    have HB6 : Hid (Below w3.heap.size w3 w6) := HB5.out.grown hg6 HB5.out.size (fun g hg => (own_lt HO5.out hg).1)
    have HO6 : Hid (w6.ownsRow w.heap.size 25 2 v6 1 (refC [r])) := by
      have h : w6.ownsRow w3.heap.size 25 2 v6 1 (refC [r]) := by simpa [refC] using ho6
      exact own_base h fun g hg => Nat.le_trans HB3.out.size (own_lt h hg).1
    clear ho6 hg6 HO5 HB5
    go_wp2_with fail
    go_ret
    exact ⟨_, rfl, HO6.out, HB3.out.trans (HB6.out.mono HB3.out.size)⟩
theorem sPut_any (l : List Rf) (r : Rf) (base : Nat) (v : Value) (w : World) (ho : w.ownsRow base 25 2 v l.length (refC l)) (hl : l.length ≤ 1000000000) (hbs : base ≤ w.heap.size) :
    Calls Tryz.prog 40 #[v, .agg #[.int .i64 r.1, .int .i64 r.2]] w fun e w' => ∃ v', e = .returned v' ∧ w'.ownsRow base 25 2 v' (putR l r).length (refC (putR l r)) ∧ Below w.heap.size w w' ∧ (r ∈ l ∨ w'.ownsRow w.heap.size 25 2 v' (putR l r).length (refC (putR l r))) := by
  have ho' := ho
  rcases ho.2 with ⟨rfl, h0⟩ | ⟨g, cap, cur, rfl, _⟩
  · obtain rfl : l = [] := List.length_eq_zero_iff.1 h0
    refine (sPut_nil r w).mono ?_
    rintro e w' ⟨v', rfl, h1, h2⟩
    exact ⟨v', rfl, own_base h1 fun g hg => Nat.le_trans hbs (own_lt h1 hg).1, h2, .inr h1⟩
  · exact sPut_some l r base g cap w ho' hl hbs
end Go.Proofs.YtclgfcjcpbiadaaGreatDoor
