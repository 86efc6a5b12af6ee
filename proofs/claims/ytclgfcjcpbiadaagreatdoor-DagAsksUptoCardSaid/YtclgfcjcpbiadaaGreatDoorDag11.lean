/- Contracts of the program's books: a change is put into a book. -/
import Derived.Test.YtclgfcjcpbiadaaGreatDoorDag10
import Derived.Test.YtclgfcjcpbiadaaGreatDoorM26
set_option linter.unusedVariables false
set_option linter.unusedSimpArgs false
namespace Go.Proofs.YtclgfcjcpbiadaaGreatDoor
open Go.ChangeShapes Go.WideShapes Go.ChangeAt Go.RowKit

theorem back_out : ∀ (L : List ChD) {r : Rf}, r ∉ refsOf L → back L [r] = []
  | [], _, _ => rfl
  | c :: L, r, h => by
    have h1 : c.rf ≠ r := fun e => h (by rw [← e]; exact List.mem_cons_self ..)
    have h2 : r ∉ refsOf L := fun e => h (List.mem_cons_of_mem _ e)
    rw [back, if_neg (by simpa using h1), back_out L h2]
theorem behind_out {L : List ChD} {r : Rf} (h : r ∉ refsOf L) : behindP L [r] = [] := back_out _ (by rw [refsOf_reverse]; simpa using h)
theorem behind_each (L : List ChD) (hs : List Rf) (r : Rf) : r ∈ behindP L hs ↔ ∃ h ∈ hs, r ∈ behindP L [h] := back_each _ _ _
/-- what hangs behind one that comes -/
theorem behind_new {L : List ChD} {c : ChD} (hn : c.rf ∉ refsOf L) (r : Rf) : r ∈ behindP (L ++ [c]) [c.rf] ↔ r = c.rf ∨ r ∈ behindP L c.deps := by
  rw [behind_snoc, if_pos (List.mem_singleton.2 rfl), List.mem_cons, behind_each L ([c.rf] ++ c.deps), behind_each L c.deps]
  constructor
  · rintro (h | ⟨h, h1, h2⟩)
    · exact .inl h
    · rcases List.mem_append.1 h1 with h1 | h1
      · rw [List.mem_singleton.1 h1, behind_out hn] at h2; cases h2
      · exact .inr ⟨h, h1, h2⟩
  · rintro (h | ⟨h, h1, h2⟩)
    · exact .inl h
    · exact .inr ⟨h, List.mem_append_right _ h1, h2⟩
/-- the book while a set in block mk is made of what hangs behind -/
structure UB (w : World) (g bh bw bb mk : Nat) (X : List (ChD × Nat × List Rf)) : Prop where
  blk : Blk w g 60 #[.map (some bh), .map (some bw), .map (some bb)]
  mb : MapL w 25 bb (X.map fun x => (refV x.1.rf, .map (some x.2.1)))
  sets : ∀ x ∈ X, SetM w x.2.1 x.2.2 ∧ x.2.1 ≠ mk ∧ ∀ r, r ∈ x.2.2 ↔ r ∈ behindP (X.map Prod.fst) [x.1.rf]
  ne : g ≠ mk ∧ bb ≠ mk
theorem UB.chg {w w' : World} {g bh bw bb mk : Nat} {X : List (ChD × Nat × List Rf)} (h : UB w g bh bw bb mk X) (hc : Chg (fun k => k = mk) w w') : UB w' g bh bw bb mk X :=
  ⟨h.blk.keep (hc.block _ h.blk.lt h.ne.1), MapL.keep h.mb (hc.block _ (MapL.lt h.mb) h.ne.2),
    fun x hx => ⟨(h.sets x hx).1.keep (hc.block _ (MapL.lt (h.sets x hx).1) (h.sets x hx).2.1), (h.sets x hx).2⟩, h.ne⟩
theorem setAt_some {X : List (ChD × Nat × List Rf)} {r : Rf} (h : r ∈ refsOf (X.map Prod.fst)) : ∃ x, x ∈ X ∧ x.1.rf = r := by
  unfold refsOf at h
  rw [List.map_map] at h
  obtain ⟨x, hx, e⟩ := List.mem_map.1 h
  exact ⟨x, hx, e⟩
theorem zero_mapb (w : World) : (zeroValue 73).run Tryz.prog w = .ok (.map none) w := by kernel_rfl
theorem UB.look {w : World} {g bh bw bb mk : Nat} {X : List (ChD × Nat × List Rf)} (h : UB w g bh bw bb mk X) {x : ChD × Nat × List Rf} (hx : x ∈ X) (r1 r2 : Int) (he : x.1.rf = (r1, r2)) :
    (Instr.lookup 58 (.map (some bb)) (.agg #[.int .i64 r1, .int .i64 r2]) false).run Tryz.prog w = .ok (.map (some x.2.1)) w :=
  MapL.hit h.mb keyed_ref Tryz.underlying58 (zero_mapb w) (List.mem_map.2 ⟨x, hx, by rw [he]; rfl⟩) false
theorem behind_take {L : List ChD} {l : List Rf} {k : Nat} {d : Rf} (h : l[k]? = some d) (r : Rf) : r ∈ behindP L (l.take (k + 1)) ↔ r ∈ behindP L (l.take k) ∨ r ∈ behindP L [d] := by
  rw [List.take_add_one, h, Option.toList_some, behind_each L (_ ++ _), behind_each L (l.take k)]
  constructor
  · rintro ⟨x, h1, h2⟩
    rcases List.mem_append.1 h1 with h1 | h1
    · exact .inl ⟨x, h1, h2⟩
    · rw [List.mem_singleton.1 h1] at h2; exact .inr h2
  · rintro (⟨x, h1, h2⟩ | h2)
    · exact ⟨x, List.mem_append_left _ h1, h2⟩
    · exact ⟨d, List.mem_append_right _ (List.mem_singleton.2 rfl), h2⟩
/-- how many are still to come -/
def itLeft (w : World) (b r : Nat) : Nat := match w.heap[r]?, w.heap[b]? with
  | some (.mapIter _ _ seen _), some (.map es _) => (leftOf es seen).size
  | _, _ => 0
theorem IterL.left {w : World} {k : TypeId} {b r : Nat} {l todo : List (Value × Value)} (h : IterL w k b r l todo) : itLeft w b r = todo.length := by
  obtain ⟨es, clock, since, seen, c0, hb, F, hp, hr, hold, htodo, hsc, hsk⟩ := h
  have := htodo.length_eq
  simp only [ents, List.length_map, Array.length_toList] at this
  unfold itLeft
  simp only [hr, hb]
  exact this
theorem set_less (U : List Rf) {S : List Rf} {L : List ChD} (hn : S.Nodup) (hl : L.length ≤ 1000) (h : ∀ r ∈ S, r ∈ U ∨ r ∈ refsOf L) (hu : U.length ≤ 1000) : S.length < maxLen := by
  have h1 := nodup_le (m := U ++ refsOf L) hn fun r hr => List.mem_append.2 (h r hr)
  have h2 : (refsOf L).length = L.length := by simp [refsOf]
  rw [List.length_append, h2] at h1
  simp only [maxLen]
  omega
theorem PB.gne {w : World} {g bh bw bb : Nat} {X : List (ChD × Nat × List Rf)} {W : List ChD} (h : PB w g bh bw bb X W) : g ≠ bh ∧ g ≠ bw ∧ g ≠ bb :=
  ⟨fun e => MapL.no_cells h.mh _ _ (e ▸ h.blk), fun e => MapL.no_cells h.mw _ _ (e ▸ h.blk), fun e => MapL.no_cells h.mb _ _ (e ▸ h.blk)⟩
theorem UB.of {w w' : World} {g bh bw bb mk : Nat} {X : List (ChD × Nat × List Rf)} {W : List ChD} (h : PB w g bh bw bb X W) (hc : Chg (fun k => k = bh) w w') (hm : w.heap.size ≤ mk) : UB w' g bh bw bb mk X :=
  ⟨h.blk.keep (hc.block _ h.blk.lt h.gne.1), MapL.keep h.mb (hc.block _ (MapL.lt h.mb) (fun e => h.ne.2.1 e.symm)),
    fun x hx => ⟨(h.sets x hx).1.keep (hc.block _ (h.sets x hx).2.1.1 (h.sets x hx).2.1.2.1), (by have := (h.sets x hx).2.1.1; omega), (h.sets x hx).2.2⟩,
    (by have := h.blk.lt; omega), (by have := MapL.lt h.mb; omega)⟩
theorem PB.put {w w' : World} {g bh bw bb mk : Nat} {X : List (ChD × Nat × List Rf)} {W : List ChD} {c : ChD} {S : List Rf} (h : PB w g bh bw bb X W) (hc : Chg (fun k => k = bh ∨ k = bb) w w') (hch : ChIn (NF w bh bw bb) w c)
    (hn : c.rf ∉ refsOf (X.map Prod.fst)) (h1 : HasL w' bh (X.map Prod.fst ++ [c])) (h2 : MapL w' 25 bb (X.map (fun x => (refV x.1.rf, .map (some x.2.1))) ++ [(refV c.rf, .map (some mk))]))
    (h3 : SetM w' mk S) (h4 : w.heap.size ≤ mk) (h5 : ∀ r, r ∈ S ↔ r ∈ [c.rf] ∨ r ∈ behindP (X.map Prod.fst) c.deps) : PB w' g bh bw bb (X ++ [(c, mk, S)]) W := by
  have hg := h.gne
  have hk : Keeps (NF w bh bw bb) w w' := hc.keeps fun k hk => ⟨hk.1, fun e => e.elim hk.2.1 hk.2.2.2⟩
  have lh := MapL.lt h.mh
  have lw := MapL.lt h.mw
  have lb := MapL.lt h.mb
  refine ⟨h.blk.keep (hc.block _ h.blk.lt (fun e => e.elim hg.1 hg.2.2)), by rw [List.map_append]; exact h1, MapL.keep h.mw (hc.block _ lw (fun e => e.elim (fun e => h.ne.1 e.symm) h.ne.2.2)), by rw [List.map_append]; exact h2, h.ne, fun x hx => ?_, fun x hx => ?_, fun x hx => ((h.inW x hx).keep hk).more fun k hk => hk.more hc.size⟩
  · rcases List.mem_append.1 hx with hx | hx
    · obtain ⟨a1, a2, a3⟩ := h.sets x hx
      refine ⟨a1.keep (hk _ a2), a2.more hc.size, fun r => ?_⟩
      rw [a3 r, List.map_append, List.map_cons, List.map_nil, behind_snoc, if_neg]
      intro e
      have : x.1.rf = c.rf := (List.mem_singleton.1 e).symm
      exact hn (by rw [← this]; exact mem_refs (List.mem_map.2 ⟨x, hx, rfl⟩))
    · rw [List.mem_singleton.1 hx]
      refine ⟨h3, ⟨MapL.lt h3, (by show mk ≠ bh; omega), (by show mk ≠ bw; omega), (by show mk ≠ bb; omega)⟩, fun r => ?_⟩
      show r ∈ S ↔ _
      rw [List.map_append, List.map_cons, List.map_nil, h5 r, behind_new hn r, List.mem_singleton]
  · rcases List.mem_append.1 hx with hx | hx
    · exact ((h.inL x hx).keep hk).more fun k hk => hk.more hc.size
    · rw [List.mem_singleton.1 hx]; exact (hch.keep hk).more fun k hk => hk.more hc.size
theorem HasL.add {w : World} {b : Nat} {L : List ChD} (h : HasL w b L) {c : ChD} (hr : I64R c.rf) (hn : c.rf ∉ refsOf L) (hl : L.length ≤ 1000) :
    ∃ w', (Instr.mapUpdate 57 (.map (some b)) (refV c.rf) c.v).run Tryz.prog w = .ok () w' ∧ HasL w' b (L ++ [c]) ∧ w.mapTurned w' b := by
  obtain ⟨kl, hk⟩ := keyOf_ref hr
  obtain ⟨w', h1, h2, h3⟩ := MapL.store (v := c.v) h keyed_ref Tryz.underlying57 (by rw [List.length_map]; simp only [maxLen]; omega) hk (fun p hp e => by
    obtain ⟨q, hq, rfl⟩ := List.mem_map.1 hp
    exact hn (by rw [← refV_inj e]; exact mem_refs hq))
  exact ⟨w', h1, by unfold HasL; rw [List.map_append]; exact h2, h3⟩
theorem behind_add {w : World} {bb : Nat} {X : List (ChD × Nat × List Rf)} (h : MapL w 25 bb (X.map fun x => (refV x.1.rf, .map (some x.2.1)))) {c : ChD} (hr : I64R c.rf) (hn : c.rf ∉ refsOf (X.map Prod.fst)) (hl : X.length ≤ 1000) (mk : Nat) :
    ∃ w', (Instr.mapUpdate 58 (.map (some bb)) (refV c.rf) (.map (some mk))).run Tryz.prog w = .ok () w' ∧ MapL w' 25 bb (X.map (fun x => (refV x.1.rf, .map (some x.2.1))) ++ [(refV c.rf, .map (some mk))]) ∧ w.mapTurned w' bb := by
  obtain ⟨kl, hk⟩ := keyOf_ref hr
  exact MapL.store (v := .map (some mk)) h keyed_ref Tryz.underlying58 (by rw [List.length_map]; simp only [maxLen]; omega) hk (fun p hp e => by
    obtain ⟨q, hq, rfl⟩ := List.mem_map.1 hp
    exact hn (by rw [← refV_inj e]; exact mem_refs (List.mem_map.2 ⟨q, hq, rfl⟩)))
theorem bk_i64 {L : List ChD} (hk : Bk L) {r : Rf} (h : r ∈ refsOf L) : I64R r := by
  obtain ⟨c, hc, rfl⟩ := List.mem_map.1 h
  have := isRef_bd (err_rf (hk.err c hc).1).1
  exact ⟨by omega, by omega⟩
theorem rf_i64 {c : ChD} (he : c.err = 0) : I64R c.rf := by
  have := isRef_bd (err_rf he).1
  exact ⟨by omega, by omega⟩
set_option maxHeartbeats 16000000 in
set_option maxRecDepth 20000 in
theorem put_any (X : List (ChD × Nat × List Rf)) (W : List ChD) (c : ChD) (g bh bw bb : Nat) (w : World) (hB : PB w g bh bw bb X W) (hk : Bk (X.map Prod.fst)) (hl : X.length ≤ 1000) (hc : ChIn (NF w bh bw bb) w c) (he : c.err = 0)
    (hr : readyP (X.map Prod.fst) c = true) (hn : c.rf ∉ refsOf (X.map Prod.fst)) :
    Calls Tryz.prog 38 #[.pointer (some ⟨g, 0, none⟩), c.v] w fun e w' => e = .returned (.tuple #[]) ∧ (∃ mk S, PB w' g bh bw bb (X ++ [(c, mk, S)]) W ∧ w.heap.size ≤ mk) ∧ Chg (fun k => k = bh ∨ k = bb) w w' := by
  obtain ⟨hst1, hst2, hop, hdp⟩ := err_ok he
  obtain ⟨L, hL⟩ : ∃ L, X.map Prod.fst = L := ⟨_, rfl⟩
  have HLL2 := Lib.hid hl
  have HLL : Hid (L.length ≤ 1000) := by show _ ≤ _; rw [← hL, List.length_map]; exact hl
  obtain ⟨nd, hnd⟩ : ∃ n, c.deps.length = n := ⟨_, rfl⟩
  have HND := Lib.hid hnd
  have HB := Lib.hid hB
  have HCI := Lib.hid hc
  have HRI := Lib.hid (rf_i64 he)
  have HRY : Hid (∀ d ∈ c.deps, ∃ x, x ∈ X ∧ x.1.rf = d) := fun d hd => setAt_some (ready_mem hr d hd)
  have HK := Lib.hid hk
  have HN := Lib.hid hn
  have HLX := Lib.hid hL
  rw [hL] at hn hk
  have HW : Hid (Below w.heap.size w (w.alloc (.cells #[.int .i64 c.a, .int .i64 c.s, .int .i64 c.st, .slice c.DA c.deps.length c.DC, .slice c.OA c.ops.length c.OC] 34))) := (Below.refl _ w).alloc (Nat.le_refl _) _
  have HQ := Lib.hid (Blk.new w 34 #[.int .i64 c.a, .int .i64 c.s, .int .i64 c.st, .slice c.DA c.deps.length c.DC, .slice c.OA c.ops.length c.OC])
  clear hB hc he hr hk hn hL hst1 hst2 hop
  unfold ChD.v
  rw [hnd] at HW HQ hdp ⊢
  clear hnd
  go_enter Tryz.func38, Tryz.ntmps38
  go_wp2_with fail
  generalize w.alloc (.cells #[.int .i64 c.a, .int .i64 c.s, .int .i64 c.st, .slice c.DA nd c.DC, .slice c.OA c.ops.length c.OC] 34) = V at *
  have c0 : V.cell? ⟨w.heap.size, 0, none⟩ = some (.int .i64 c.a) := HQ.out.cell 0
  have c1 : V.cell? ⟨w.heap.size, 1, none⟩ = some (.int .i64 c.s) := HQ.out.cell 1
  have c2 : V.cell? ⟨w.heap.size, 2, none⟩ = some (.int .i64 c.st) := HQ.out.cell 2
  have c3 : V.cell? ⟨w.heap.size, 3, none⟩ = some (.slice c.DA nd c.DC) := HQ.out.cell 3
  have c4 : V.cell? ⟨w.heap.size, 4, none⟩ = some (.slice c.OA c.ops.length c.OC) := HQ.out.cell 4
  have C1 := chref_any c.a c.s (.int .i64 c.st) (.slice c.DA nd c.DC) (.slice c.OA c.ops.length c.OC) V rfl rfl rfl
  go_wp2_with fail
  go_at_call 33
  refine C1.mono ?_
  rintro e w2 ⟨rfl, hb⟩
  replace HQ := Lib.hid (HQ.out.keep (hb.block _ HQ.out.lt))
  replace HW : Hid (Below w.heap.size w w2) := HW.out.trans (hb.mono HW.out.size)
  clear hb
  clear C1 c0 c1 c2 c3 c4
  have HQ2 := Lib.hid (Blk.new w2 25 #[.int .i64 c.a, .int .i64 c.s])
  have HW2 : Hid (Below w.heap.size w (w2.alloc (.cells #[.int .i64 c.a, .int .i64 c.s] 25))) := HW.out.alloc HW.out.size _
  have HQ1 := Lib.hid (HQ.out.keep (w' := w2.alloc (.cells #[.int .i64 c.a, .int .i64 c.s] 25)) (((Below.refl _ w2).alloc (Nat.le_refl _) _).block _ HQ.out.lt))
  have hws : w.heap.size < w2.heap.size := HQ.out.lt
  clear HQ HW
  go_upto_region 2 with fail
  generalize w2.alloc (.cells #[.int .i64 c.a, .int .i64 c.s] 25) = w3 at HQ2 HW2 HQ1 ⊢
  generalize w2.heap.size = q2 at HQ2 hws ⊢
  have HP3 := Lib.hid (HB.out.below HW2.out)
  have g0 : w3.cell? ⟨g, 0, none⟩ = some (.map (some bh)) := HP3.out.blk.cell 0
  have q0 : w3.cell? ⟨q2, 0, none⟩ = some (.int .i64 c.a) := HQ2.out.cell 0
  have q1 : w3.cell? ⟨q2, 1, none⟩ = some (.int .i64 c.s) := HQ2.out.cell 1
  have c0 : w3.cell? ⟨w.heap.size, 0, none⟩ = some (.int .i64 c.a) := HQ1.out.cell 0
  have c1 : w3.cell? ⟨w.heap.size, 1, none⟩ = some (.int .i64 c.s) := HQ1.out.cell 1
  have c2 : w3.cell? ⟨w.heap.size, 2, none⟩ = some (.int .i64 c.st) := HQ1.out.cell 2
  have c3 : w3.cell? ⟨w.heap.size, 3, none⟩ = some (.slice c.DA nd c.DC) := HQ1.out.cell 3
  have c4 : w3.cell? ⟨w.heap.size, 4, none⟩ = some (.slice c.OA c.ops.length c.OC) := HQ1.out.cell 4
  refine wp_region_still_tail 6 (by kernel_rfl) (by kernel_rfl) ?_
  simp only [List.take_succ_cons, List.take_zero, List.drop_succ_cons, List.drop_zero]
  repeat (first | (refine wpStill_want rfl (fun K hK => ?_); go_simp; refine hK _ ?_; clear hK K) | (refine wpStill_skip rfl ?_; go_frame))
  refine wpStill_nil ?_
  change wpList _ _ _ _ _ w3.drew
  have HP4 : Hid (PB w3.drew g bh bw bb X W) := HP3.out.below (Below.refl _ w3).drew
  have HQ4 : Hid (Blk w3.drew q2 25 #[.int .i64 c.a, .int .i64 c.s]) := HQ2
  have HB4 : Hid (Blk w3.drew w.heap.size 34 #[.int .i64 c.a, .int .i64 c.s, .int .i64 c.st, .slice c.DA nd c.DC, .slice c.OA c.ops.length c.OC]) := HQ1
  have HW4 : Hid (Below w.heap.size w w3.drew) := HW2.out.drew
  clear g0 q0 q1 c0 c1 c2 c3 c4 HP3 HQ2 HQ1 HW2
  generalize w3.drew = w4 at HP4 HQ4 HB4 HW4 ⊢
  have hst := HP4.out.mh.add HRI.out HN.out (by rw [HLX.out]; exact HLL.out)
  rw [HLX.out] at hst
  unfold ChD.v at hst
  rw [HND.out] at hst
  have hmm : ∀ (t : TypeId) (w : World), (Instr.makeMap t none).run Tryz.prog w = .ok (.map (some w.heap.size)) (w.alloc (.map #[] 0)) := fun _ _ => rfl
  go_wp2_with (first
    | (refine wpL_store _ rfl (.tmp 14) (.tmp 15) (.tmp 16) 57 (.inl rfl) bh _ _ rfl rfl rfl _ hst ?_
       rintro w5 ⟨hh5, ht5⟩
       have hg5 := ht5.grown
       have HH5 := Lib.hid hh5
       have HC5 : Hid (Chg (fun k => k = bh) w4 w5) := (Chg.refl w4).grown hg5 (fun q hq => by cases hq; exact .inl rfl)
       have HGN := Lib.hid HP4.out.gne
       have HLH := Lib.hid (MapL.lt HP4.out.mh)
       have HQN : Hid (q2 ≠ bh) := fun e => MapL.no_cells HP4.out.mh _ _ (e ▸ HQ4.out)
       have HQ5 := Lib.hid (HQ4.out.keep (HC5.out.block _ HQ4.out.lt HQN.out))
       have HBN : Hid (w.heap.size ≠ bh) := fun e => MapL.no_cells HP4.out.mh _ _ (e ▸ HB4.out)
       have HB5 := Lib.hid (HB4.out.keep (HC5.out.block _ HB4.out.lt HBN.out))
       clear hh5 ht5 hg5 hst HQ4 HB4
       have q0 : w5.cell? ⟨q2, 0, none⟩ = some (.int .i64 c.a) := HQ5.out.cell 0
       have q1 : w5.cell? ⟨q2, 1, none⟩ = some (.int .i64 c.s) := HQ5.out.cell 1
       have hq2 : q2 < w5.heap.size := HQ5.out.lt
       have HST := Lib.hid ((SetM.made w5).add HRI.out (by simp [maxLen])))
    | (refine wpL_store _ rfl (.tmp 17) (.tmp 18) _ 73 (.inr rfl) _ _ _ rfl rfl rfl _ HST.out ?_
       rintro w6 ⟨⟨S0, hs6, hm6, -⟩, ht6⟩
       have hg6 := ht6.grown
       have HS6 := Lib.hid hs6
       have HM6 := Lib.hid hm6
       have HC6 : Hid (Chg (fun k => k = bh) w4 w6) := (HC5.out.alloc _).grown hg6 (fun q hq => by cases hq; exact .inr HC5.out.size)
       have HH6 := Lib.hid (MapL.keep (MapL.keep HH5.out (Below.heap_alloc w5 (.map #[] 0) _ (MapL.lt HH5.out))) (hg6.block _ (by have := MapL.lt HH5.out; simp; omega) (fun e => by have := MapL.lt HH5.out; have := Option.some.inj e; omega)))
       have HQ6 := Lib.hid ((HQ5.out.keep (Below.heap_alloc w5 (.map #[] 0) _ HQ5.out.lt)).grown hg6 (fun e => by have := HQ5.out.lt; have := Option.some.inj e; omega))
       have HB6 := Lib.hid ((HB5.out.keep (Below.heap_alloc w5 (.map #[] 0) _ HB5.out.lt)).grown hg6 (fun e => by have := HB5.out.lt; have := Option.some.inj e; omega))
       have HMK : Hid (w4.heap.size ≤ w5.heap.size ∧ q2 < w5.heap.size ∧ w.heap.size < w5.heap.size ∧ bh < w5.heap.size) := ⟨HC5.out.size, hq2, HB5.out.lt, MapL.lt HH5.out⟩
       have c3 : w6.cell? ⟨w.heap.size, 3, none⟩ = some (.slice c.DA nd c.DC) := HB6.out.cell 3
       clear hs6 hm6 ht6 hg6 HST HH5 HQ5 HB5 HC5 q0 q1 hq2
       generalize w5.heap.size = mk at HS6 HMK ⊢))
  clear hmm
  obtain ⟨V0, hV0⟩ : ∃ V, V = w6 := ⟨_, rfl⟩
  subst hV0
  have HU := Lib.hid (UB.of HP4.out HC6.out HMK.out.1)
  have HRD : Hid (Reads (fun j => j < V0.heap.size ∧ ¬ j = mk) V0 2 c.DA c.deps.length (refC c.deps)) :=
    (HCI.out.hd.keep (fun k hk => (HC6.out.block k (Nat.lt_of_lt_of_le hk.1 HW4.out.size) hk.2.1).trans (HW4.out.block k hk.1))).more
      fun k hk => ⟨Nat.lt_of_lt_of_le (Nat.lt_of_lt_of_le hk.1 HW4.out.size) HC6.out.size, fun e => by have := hk.1; have := HW4.out.size; have := HMK.out.1; omega⟩
  rw [HND.out] at HRD
  have HM0 : Hid (∀ r, r ∈ S0 ↔ r ∈ [c.rf] ∨ r ∈ behindP L (c.deps.take 0)) := fun r => by
    rw [HM6.out r, List.take_zero]
    unfold behindP
    rw [back_nil]
    simp
  have HS0 := HS6
  clear HM6 HS6 c3
  go_loopw [7, 8, 23] (fun _ _ s wr => ∃ (k : Nat) (S : List Rf), s = .int .i64 k ∧ k ≤ nd ∧ Hid (SetM wr mk S) ∧ Hid (∀ r, r ∈ S ↔ r ∈ [c.rf] ∨ r ∈ behindP L (c.deps.take k)) ∧ Hid (Chg (fun j => j = mk) V0 wr)) (fun _ _ s _ => nd - (intOf s).toNat)
  case atStart => exact ⟨0, _, rfl, by omega, HS0, HM0, Lib.hid (Chg.refl _)⟩
  case round =>
    clear HS0 HM0
    obtain ⟨k, S, rfl, hk, HS, HM, HC⟩ := hrel
    by_cases hlt : k < nd
    · obtain ⟨d, hd⟩ : ∃ d, c.deps[k]? = some d := ⟨_, List.getElem?_eq_getElem (by rw [HND.out]; exact hlt)⟩
      have HDM : Hid (∀ r, r ∈ behindP L (c.deps.take (k + 1)) ↔ r ∈ behindP L (c.deps.take k) ∨ r ∈ behindP L [d]) := fun r => behind_take hd r
      obtain ⟨x, hx, hxr⟩ := HRY.out d (List.mem_of_getElem? hd)
      have HX := Lib.hid hx
      have HLT := Lib.hid hlt
      have HXR := Lib.hid hxr
      obtain ⟨bd, od, hA, hbl, hcd⟩ := (HRD.out.keep (HC.out.keeps fun j hj => hj)).at_ (by omega) (by omega)
      have p1 : wr.cell? ⟨bd, od + k * 2, none⟩ = some (.int .i64 d.1) := hcd _ _ (refC_at hd).1
      have p2 : wr.cell? ⟨bd, od + k * 2 + 1, none⟩ = some (.int .i64 d.2) := hcd _ _ (refC_at hd).2
      have hbl2 : bd < wr.heap.size := Nat.lt_of_lt_of_le hbl.1 HC.out.size
      have HSX := Lib.hid (HU.out.sets x hx)
      rw [hA]
      clear hcd hd hx hxr hbl
      have HUa := Lib.hid ((HU.out.chg HC.out).chg ((Chg.refl wr).alloc (.cells #[.int .i64 d.1, .int .i64 d.2] 25)))
      have HQa := Lib.hid (Blk.new wr 25 #[.int .i64 d.1, .int .i64 d.2])
      have HSa := Lib.hid (HS.out.keep (w' := wr.alloc (.cells #[.int .i64 d.1, .int .i64 d.2] 25)) (Below.heap_alloc _ _ _ (MapL.lt HS.out)))
      have HCa := Lib.hid (HC.out.alloc (.cells #[.int .i64 d.1, .int .i64 d.2] 25))
      clear HS HC
      go_upto_region 7 with fail
      generalize wr.alloc (.cells #[.int .i64 d.1, .int .i64 d.2] 25) = wa at HUa HQa HSa HCa ⊢
      generalize wr.heap.size = qa at HQa ⊢
      clear p1 p2
      have g2 : wa.cell? ⟨g, 2, none⟩ = some (.map (some bb)) := HUa.out.blk.cell 2
      have d1 : wa.cell? ⟨qa, 0, none⟩ = some (.int .i64 d.1) := HQa.out.cell 0
      have d2 : wa.cell? ⟨qa, 1, none⟩ = some (.int .i64 d.2) := HQa.out.cell 1
      have hlk := (HUa.out.chg (Chg.refl wa).drew).look HX.out d.1 d.2 HXR.out
      refine wp_region_still_tail 6 (by kernel_rfl) (by kernel_rfl) ?_
      simp only [List.take_succ_cons, List.take_zero, List.drop_succ_cons, List.drop_zero]
      repeat (first | (refine wpStill_want rfl (fun K hK => ?_); go_simp; refine hK _ ?_; clear hK K) | (refine wpStill_skip rfl ?_; go_frame))
      refine wpStill_nil ?_
      change wpList _ _ _ _ _ wa.drew
      have HSb : Hid (SetM wa.drew mk S) := HSa
      have HCb : Hid (Chg (fun j => j = mk) V0 wa.drew) := HCa.out.drew
      have HXb : Hid (SetM wa.drew x.2.1 x.2.2) := ((HUa.out.sets x HX.out).1.keep rfl)
      clear g2 d1 d2 hlk HUa HQa HSa HCa
      generalize wa.drew = wb at HSb HCb HXb ⊢
      go_wp2_with (refine wpL_range _ rfl (.tmp 32) 73 rfl 25 4 Tryz.underlying73 x.2.1 _ rfl HXb.out ?_; intro w1 hI1 hb1 hs1)
      have HI1 : Hid (IterS w1 x.2.1 wb.heap.size x.2.2 x.2.2) := hI1
      have HS1 := Lib.hid (HSb.out.keep (hb1.block _ (MapL.lt HSb.out)))
      have HC1 : Hid (Chg (fun j => j = mk) V0 w1) := HCb.out.trans (Chg.of_below hb1) fun _ _ h => h
      have HIT : Hid (V0.heap.size ≤ wb.heap.size ∧ mk < wb.heap.size) := ⟨HCb.out.size, MapL.lt HSb.out⟩
      clear hI1 hb1 hs1 HSb HCb HXb
      generalize wb.heap.size = it at HI1 HIT ⊢
      try simp only [Act.put, List.setIfInBounds_toArray, List.set_cons_zero, List.set_cons_succ]
      go_loopw [8] (fun _ wr => ∃ S1 todo : List Rf, Hid (SetM wr mk S1) ∧ Hid (IterS wr x.2.1 it x.2.2 todo) ∧ Hid (∀ r, (r ∈ S1 ∨ r ∈ todo) ↔ (r ∈ S ∨ r ∈ x.2.2)) ∧ Hid (Chg (fun j => j = mk) V0 wr)) (fun _ wr => itLeft wr x.2.1 it)
      case atStart => exact ⟨S, x.2.2, HS1, HI1, Lib.hid fun r => Iff.rfl, HC1⟩
      case round =>
        clear HS1 HI1 HC1
        obtain ⟨S1, todo, HS1, HI, HE, HC⟩ := hrel
        go_wp2_with (refine wpS_next _ rfl (.tmp 33) rfl x.2.1 it x.2.2 todo rfl HI.out ?_ ?_)
        · intro ht
          subst ht
          have HM2 : Hid (∀ r, r ∈ S1 ↔ r ∈ [c.rf] ∨ r ∈ behindP L (c.deps.take (k + 1))) := fun r => by
            have e := HE.out r
            simp only [List.not_mem_nil, or_false] at e
            rw [e, HM.out r, HDM.out r, HSX.out.2.2 r, HXR.out, or_assoc]
            first | rfl | (rw [HLX.out])
          clear HI HE HM HDM
          go_wp2_with fail
          go_roundw
          case rel => exact ⟨k + 1, S1, by go_num, by have := HLT.out; omega, HS1, HM2, HC⟩
          case measure => have := HLT.out; simp [intOf]; omega
        · intro ya yb todo' w2 hp hI2 hg2 hs2 hen
          have HEY : Hid (∀ r, r ∈ todo ↔ r = (ya, yb) ∨ r ∈ todo') := fun r => by rw [hp.mem_iff, List.mem_cons]
          have HYS : Hid ((ya, yb) ∈ x.2.2) := HI.out.sub (ya, yb) (hp.mem_iff.2 (List.mem_cons_self ..))
          have HLE : Hid (itLeft wr x.2.1 it = todo'.length + 1) := by show _ = _; rw [IterL.left HI.out, List.length_map, hp.length_eq]; rfl
          have HLM := Lib.hid (MapL.lt HS1.out)
          have HIL := Lib.hid (IterL.lt HI.out)
          have HIN : Hid (it ≠ mk) := fun e => by have := HIT.out.2; omega
          have HS2 := Lib.hid (HS1.out.keep (hg2.block _ HLM.out (fun e => HIN.out (Option.some.inj e).symm)))
          have HC2 := Lib.hid (HC.out.grown hg2 (fun q hq => by cases hq; exact .inr HIT.out.1))
          have HI2 := Lib.hid hI2
          have hmk2 : mk < w2.heap.size := MapL.lt HS2.out
          have hit2 : it < w2.heap.size := IterL.lt hI2
          have hxb2 : x.2.1 < w2.heap.size := MapL.lt (IterL.map hI2)
          clear hp hI2 hg2 hs2 HI HS1 HC
          have HS3 := Lib.hid (HS2.out.keep (w' := w2.alloc (.cells #[.int .i64 ya, .int .i64 yb] 25)) (Below.heap_alloc _ _ _ hmk2))
          have HI3 : Hid (IterS (w2.alloc (.cells #[.int .i64 ya, .int .i64 yb] 25)) x.2.1 it x.2.2 todo') := IterL.keep HI2.out (Below.heap_alloc _ _ _ hxb2) (Below.heap_alloc _ _ _ hit2)
          have HC3 := Lib.hid (HC2.out.alloc (.cells #[.int .i64 ya, .int .i64 yb] 25))
          have HQy := Lib.hid (Blk.new w2 25 #[.int .i64 ya, .int .i64 yb])
          have hst := HS3.out.add (r := (ya, yb)) (bk_i64 HK.out (behind_sub ((HSX.out.2.2 (ya, yb)).1 HYS.out))) (set_less [c.rf] HS3.out.nodup HLL.out (fun r hr => by
            rcases (HE.out r).1 (.inl hr) with h | h
            · rcases (HM.out r).1 h with h | h
              · exact .inl h
              · exact .inr (behind_sub h)
            · have := behind_sub ((HSX.out.2.2 r).1 h); exact .inr (by rw [HLX.out] at this; exact this)) (by simp))
          go_upto_region 10 with fail
          generalize w2.alloc (.cells #[.int .i64 ya, .int .i64 yb] 25) = w3 at HS3 HI3 HC3 HQy hst ⊢
          generalize w2.heap.size = qy at HQy ⊢
          have y1 : w3.cell? ⟨qy, 0, none⟩ = some (.int .i64 ya) := HQy.out.cell 0
          have y2 : w3.cell? ⟨qy, 1, none⟩ = some (.int .i64 yb) := HQy.out.cell 1
          clear HQy HS2 HC2 HI2 hen hmk2 hit2 hxb2
          go_wp2_with (refine wpL_store _ rfl (.tmp 38) (.tmp 39) (.const (.bool true)) 73 (.inl rfl) mk (.agg #[.int .i64 ya, .int .i64 yb]) (.bool true) rfl rfl rfl _ hst ?_; rintro w4 ⟨⟨S2, hs4, hm4, -⟩, ht4⟩)
          have hg4 := ht4.grown
          have HS4 := Lib.hid hs4
          have HXM : Hid (x.2.1 ≠ mk) := HSX.out.2.1
          have HI4 : Hid (IterS w4 x.2.1 it x.2.2 todo') := IterL.keep HI3.out (hg4.block _ (MapL.lt (IterL.map HI3.out)) (fun e => HXM.out (Option.some.inj e))) (hg4.block _ (IterL.lt HI3.out) (fun e => HIN.out (Option.some.inj e)))
          have HC4 := Lib.hid (HC3.out.grown hg4 (fun q hq => by cases hq; exact .inl rfl))
          have HE4 : Hid (∀ r, (r ∈ S2 ∨ r ∈ todo') ↔ (r ∈ S ∨ r ∈ x.2.2)) := fun r => by
            rw [← HE.out r, HEY.out r, hm4 r, or_assoc]
          have HL4 : Hid (itLeft w4 x.2.1 it = todo'.length) := by show _ = _; rw [IterL.left HI4.out, List.length_map]
          clear hs4 hm4 ht4 hg4 hst y1 y2 HS3 HI3 HC3 HE HEY
          try simp only [Act.put, List.setIfInBounds_toArray, List.set_cons_zero, List.set_cons_succ]
          go_wp2_with fail
          go_roundw
          case rel => exact ⟨S2, todo', HS4, HI4, HE4, HC4⟩
          case measure => show itLeft w4 x.2.1 it < itLeft _ x.2.1 it; rw [HL4.out, HLE.out]; omega
    · have HMD : Hid (∀ r, r ∈ S ↔ r ∈ [c.rf] ∨ r ∈ behindP L c.deps) := fun r => by
        rw [HM.out r, List.take_of_length_le (by rw [HND.out]; omega)]
      clear HM
      have g2 : wr.cell? ⟨g, 2, none⟩ = some (.map (some bb)) := (HU.out.chg HC.out).blk.cell 2
      have HQ7 := Lib.hid (HQ6.out.keep (HC.out.block _ HQ6.out.lt (by have := HMK.out; omega)))
      have q0 : wr.cell? ⟨q2, 0, none⟩ = some (.int .i64 c.a) := HQ7.out.cell 0
      have q1 : wr.cell? ⟨q2, 1, none⟩ = some (.int .i64 c.s) := HQ7.out.cell 1
      go_upto_region 12 with fail
      refine wp_region_still_tail 6 (by kernel_rfl) (by kernel_rfl) ?_
      simp only [List.take_succ_cons, List.take_zero, List.drop_succ_cons, List.drop_zero]
      repeat (first | (refine wpStill_want rfl (fun K hK => ?_); go_simp; refine hK _ ?_; clear hK K) | (refine wpStill_skip rfl ?_; go_frame))
      refine wpStill_nil ?_
      change wpList _ _ _ _ _ wr.drew
      have HS7 : Hid (SetM wr.drew mk S) := HS
      have HC7 : Hid (Chg (fun j => j = mk) V0 wr.drew) := HC.out.drew
      clear HS HC g2 q0 q1 HQ7
      generalize wr.drew = w7 at HS7 HC7 ⊢
      have hst := behind_add (HU.out.chg HC7.out).mb HRI.out HN.out HLL2.out mk
      go_wp2_with (refine wpL_store _ rfl (.tmp 44) (.tmp 45) (.tmp 46) 58 (.inl rfl) bb _ _ rfl rfl rfl _ hst ?_; rintro w8 ⟨hm8, ht8⟩)
      have hg8 := ht8.grown
      have hmkw : w.heap.size ≤ mk := Nat.le_trans HW4.out.size HMK.out.1
      have hbb : bb < w.heap.size := MapL.lt HB.out.mb
      have hbh : bh < w.heap.size := MapL.lt HB.out.mh
      refine bodyPost_end (results_none rfl _ _ _) rfl ?_
      have hC : Chg (fun k => k = bh ∨ k = bb) w w8 := ((((Chg.of_below HW4.out).trans HC6.out (fun _ _ h => .inl h)).trans HC7.out (fun i hi e => by omega))).grown hg8 (fun q hq => by cases hq; exact .inl (.inr rfl))
      refine ⟨rfl, ⟨mk, ⟨S, PB.put HB.out hC HCI.out HN.out ?_ hm8 (HS7.out.keep (hg8.block _ (MapL.lt HS7.out) (fun e => by have := Option.some.inj e; omega))) hmkw (by rw [HLX.out]; exact HMD.out)⟩, hmkw⟩, hC⟩
      have hh7 := MapL.keep HH6.out (HC7.out.block _ (MapL.lt HH6.out) (by omega))
      rw [HLX.out]
      exact MapL.keep hh7 (hg8.block _ (MapL.lt hh7) (fun e => HB.out.ne.2.1 (Option.some.inj e)))
end Go.Proofs.YtclgfcjcpbiadaaGreatDoor
