/- Contracts of the document's books: ready, Same; what memory holds of a book. -/
import Derived.Test.YtclgfcjcpbiadaaGreatDoorSRef7
import Derived.Test.YtclgfcjcpbiadaaGreatDoorM8
set_option linter.unusedVariables false
set_option linter.unusedSimpArgs false
namespace Go.Proofs.YtclgfcjcpbiadaaGreatDoor
open Go.ChangeShapes Go.WideShapes Go.ChangeAt Go.RowKit

set_option maxHeartbeats 8000000 in
set_option maxRecDepth 20000 in
theorem sready_any (L W : List ChD) (c : ChD) (g : Nat) (w : World) (hB : BR w g L W) (hc : ChIn (fun k => k < w.heap.size) w c) (hl : L.length ≤ 1000000) :
    Calls Tryz.prog 29 #[.pointer (some ⟨g, 0, none⟩), c.v] w fun e w' => e = .returned (.bool (readyP L c)) ∧ Below w.heap.size w w' := by
  have HB := Lib.hid hB
  have HC := Lib.hid hc
  have HW : Hid (Below w.heap.size w (w.alloc (.cells #[.int .i64 c.a, .int .i64 c.s, .int .i64 c.st, .slice c.DA c.deps.length c.DC, .slice c.OA c.ops.length c.OC] 34))) := (Below.refl _ w).alloc (Nat.le_refl _) _
  have HQ := Lib.hid (Blk.new w 34 #[.int .i64 c.a, .int .i64 c.s, .int .i64 c.st, .slice c.DA c.deps.length c.DC, .slice c.OA c.ops.length c.OC])
  have hdl := hc.hdl
  have C1 := fun (V : World) (r : Rf) A cc h1 => sfind_any L r (fun k => k < V.heap.size) A cc V h1 (fun _ h => h) (by omega)
  obtain ⟨n, hn⟩ : ∃ n, c.deps.length = n := ⟨_, rfl⟩
  have HN := Lib.hid hn
  unfold ChD.v
  rw [hn] at hdl HW HQ ⊢
  clear hB hc hn
  go_enter Tryz.func29, Tryz.ntmps29
  go_wp2_with fail
  generalize w.alloc (.cells #[.int .i64 c.a, .int .i64 c.s, .int .i64 c.st, .slice c.DA n c.DC, .slice c.OA c.ops.length c.OC] 34) = V at *
  go_loopw [5, 6] (fun s5 _ wr => ∃ k : Nat, s5 = .int .i64 k ∧ k ≤ n ∧ Hid (∀ d ∈ c.deps.take k, d ∈ refsOf L) ∧ Hid (Blk wr w.heap.size 34 #[.int .i64 c.a, .int .i64 c.s, .int .i64 c.st, .slice c.DA n c.DC, .slice c.OA c.ops.length c.OC]) ∧ Hid (Below w.heap.size w wr)) (fun s5 _ _ => n - (intOf s5).toNat)
  case atStart => exact ⟨0, rfl, by omega, by show ∀ d ∈ _, _; simp, HQ, HW⟩
  case round =>
    clear HQ HW
    obtain ⟨k, rfl, hk, HI, HQ, HW⟩ := hrel
    have c3 : wr.cell? ⟨w.heap.size, 3, none⟩ = some (.slice c.DA n c.DC) := HQ.out.cell 3
    by_cases hlt : k < n
    · obtain ⟨r, hr⟩ : ∃ r, c.deps[k]? = some r := ⟨_, List.getElem?_eq_getElem (by rw [HN.out]; exact hlt)⟩
      obtain ⟨b1, o1, hA, -, hc1⟩ := (reads_below HC.out.hd HW.out).at_ (by rw [HN.out]; omega) (by omega)
      have x1 : wr.cell? ⟨b1, o1 + k * 2, none⟩ = some (.int .i64 r.1) := hc1 _ _ (refC_at hr).1
      have x2 : wr.cell? ⟨b1, o1 + k * 2 + 1, none⟩ = some (.int .i64 r.2) := hc1 _ _ (refC_at hr).2
      rw [hA] at c3
      obtain ⟨A, cc, A', cc', hg, hL, hW⟩ := HB.out.below HW.out
      have g0 : wr.cell? ⟨g, 0, none⟩ = some (.slice A L.length cc) := hg.cell 0
      have C2 := C1 wr.drew r A cc hL.row
      have HR := Lib.hid hr
      clear hg hL hW hc1 hr hA
      go_wp2_with fail
      refine wp_region_still_tail 9 (by kernel_rfl) (by kernel_rfl) ?_
      simp only [List.take_succ_cons, List.take_zero, List.drop_succ_cons, List.drop_zero]
      repeat (first | (refine wpStill_want rfl (fun K hK => ?_); go_simp; refine hK _ ?_; clear hK K) | (refine wpStill_skip rfl ?_; go_frame))
      refine wpStill_nil ?_
      change wpList _ _ _ _ _ wr.drew
      replace HW : Hid (Below w.heap.size w wr.drew) := HW.out.drew
      replace HQ : Hid (Blk wr.drew w.heap.size 34 #[.int .i64 c.a, .int .i64 c.s, .int .i64 c.st, .slice c.DA n c.DC, .slice c.OA c.ops.length c.OC]) := HQ.out
      generalize wr.drew = w2 at HW HQ C2 ⊢
      clear c3 x1 x2 g0
      go_wp2_with fail
      go_at_call 27
      refine C2.mono ?_
      rintro e w3 ⟨i, rfl, hi, hb⟩
      replace HQ := Lib.hid (HQ.out.keep (hb.block _ HQ.out.lt))
      replace HW : Hid (Below w.heap.size w w3) := HW.out.trans (hb.mono HW.out.size)
      clear hb
      clear C2
      rcases hi with ⟨rfl, hno⟩ | ⟨kk, y, rfl, hy, hf⟩
      · have HF : Hid (readyP L c = false) := by
          show _ = _
          unfold readyP
          rw [← Bool.not_eq_true, List.all_eq_true]
          intro hh
          have := hh r (List.mem_of_getElem? HR.out)
          exact hno (by simpa using this)
        clear hno
        go_wp2_with fail
        go_ret
        exact ⟨by rw [HF.out]; rfl, HW.out⟩
      · have HI2 : Hid (∀ d ∈ c.deps.take (k + 1), d ∈ refsOf L) := by
          intro d hd
          rw [List.take_add_one, HR.out] at hd
          rcases List.mem_append.1 hd with hd | hd
          · exact HI.out d hd
          · simp at hd
            rw [hd, ← (findC_some hf).2]
            exact mem_refs (findC_some hf).1
        have hk0 : decide ((kk : Int) < 0) = false := decide_eq_false (by omega)
        clear hy hf
        go_wp2_with fail
        go_roundw
        case rel => exact ⟨k + 1, by go_num, by omega, HI2, HQ, HW⟩
        case measure => simp [intOf]; omega
    · have HF : Hid (readyP L c = true) := by
        have := HI.out
        rw [List.take_of_length_le (by rw [HN.out]; omega)] at this
        show _ = _
        unfold readyP
        rw [List.all_eq_true]
        intro d hd
        simpa using this d hd
      go_wp2_with fail
      go_ret
      exact ⟨by rw [HF.out]; rfl, HW.out⟩
theorem good_encG {c : ChD} (he : c.err = 0) (hw : ∀ o ∈ c.ops, (Lit.int .i64 o.vn).wf = true) : EncG c.a c.s c.st c.deps c.ops := (chg_good he hw).1
set_option maxHeartbeats 4000000 in
set_option maxRecDepth 20000 in
theorem sSame_any (x y : ChD) (w : World) (hx : ChIn (fun k => k < w.heap.size) w x) (hy : ChIn (fun k => k < w.heap.size) w y) (gx : EncG x.a x.s x.st x.deps x.ops) (gy : EncG y.a y.s y.st y.deps y.ops) :
    Calls Tryz.prog 28 #[x.v, y.v] w fun e w' => e = .returned (.bool (decide (x.enc = y.enc))) ∧ Below w.heap.size w w' := by
  have HB0 := Lib.hid (((Below.refl _ w).alloc (Nat.le_refl _) (.cells #[.int .i64 x.a, .int .i64 x.s, .int .i64 x.st, .slice x.DA x.deps.length x.DC, .slice x.OA x.ops.length x.OC] 34)).alloc (by simp) (.cells #[.int .i64 y.a, .int .i64 y.s, .int .i64 y.st, .slice y.DA y.deps.length y.DC, .slice y.OA y.ops.length y.OC] 34))
  have HQ : Hid (Blk ((w.alloc (.cells #[.int .i64 x.a, .int .i64 x.s, .int .i64 x.st, .slice x.DA x.deps.length x.DC, .slice x.OA x.ops.length x.OC] 34)).alloc (.cells #[.int .i64 y.a, .int .i64 y.s, .int .i64 y.st, .slice y.DA y.deps.length y.DC, .slice y.OA y.ops.length y.OC] 34)) (w.heap.size + 1) 34 #[.int .i64 y.a, .int .i64 y.s, .int .i64 y.st, .slice y.DA y.deps.length y.DC, .slice y.OA y.ops.length y.OC]) := by
    have := Blk.new (w.alloc (.cells #[.int .i64 x.a, .int .i64 x.s, .int .i64 x.st, .slice x.DA x.deps.length x.DC, .slice x.OA x.ops.length x.OC] 34)) 34 #[.int .i64 y.a, .int .i64 y.s, .int .i64 y.st, .slice y.DA y.deps.length y.DC, .slice y.OA y.ops.length y.OC]
    rw [World.size_alloc] at this
    exact this
  have R1 := refEnc_any x.a x.s x.st x.deps x.DA _ x.DC x.ops x.OA _ x.OC _ ((hx.chm fun _ h => h).keep HB0.out) rfl rfl gx
  have H2 := Lib.hid (hy.chm fun _ h => h)
  have HG2 := Lib.hid gy
  have HE : Hid (x.enc = encL x.a x.s x.st x.deps x.ops ∧ y.enc = encL y.a y.s y.st y.deps y.ops) := ⟨rfl, rfl⟩
  unfold ChD.v
  clear hx hy gx gy
  generalize encL x.a x.s x.st x.deps x.ops = ex at R1 HE
  generalize hey : encL y.a y.s y.st y.deps y.ops = ey at HE
  have HEY := Lib.hid hey
  clear hey
  go_enter Tryz.func28, Tryz.ntmps28
  go_wp2_with fail
  go_at_call 42
  refine R1.mono ?_
  rintro e w1 ⟨v1, rfl, ho, hb⟩
  obtain ⟨A1, C1, hv1, _, _, hr1⟩ := Reads.of_own ho
  subst hv1
  have HR1 : Hid (Reads (fun x => x < w1.heap.size) w1 1 A1 ex.length (bytesC ex)) := hr1.more fun x hx => (own_lt ho hx).2
  have HB1 := Lib.hid (HB0.out.trans (hb.mono HB0.out.size))
  replace HQ := Lib.hid (HQ.out.keep (hb.block _ HQ.out.lt))
  have d0 : w1.cell? ⟨w.heap.size + 1, 0, none⟩ = some (.int .i64 y.a) := HQ.out.cell 0
  have d1 : w1.cell? ⟨w.heap.size + 1, 1, none⟩ = some (.int .i64 y.s) := HQ.out.cell 1
  have d2 : w1.cell? ⟨w.heap.size + 1, 2, none⟩ = some (.int .i64 y.st) := HQ.out.cell 2
  have d3 : w1.cell? ⟨w.heap.size + 1, 3, none⟩ = some (.slice y.DA y.deps.length y.DC) := HQ.out.cell 3
  have d4 : w1.cell? ⟨w.heap.size + 1, 4, none⟩ = some (.slice y.OA y.ops.length y.OC) := HQ.out.cell 4
  clear R1 ho hr1 hb HB0
  have R2 := refEnc_any y.a y.s y.st y.deps y.DA _ y.DC y.ops y.OA _ y.OC w1 (H2.out.keep HB1.out) rfl rfl HG2.out
  rw [HEY.out] at R2
  go_wp2_with fail
  go_at_call 42
  refine R2.mono ?_
  rintro e w2 ⟨v2, rfl, ho, hb⟩
  obtain ⟨A2, C2, hv2, _, _, hr2⟩ := Reads.of_own ho
  subst hv2
  have cv1 : (convert 71 9 (.slice A1 ex.length C1)).run Tryz.prog w2 = .ok (.string ⟨ex.toArray⟩) w2 := conv_reads (reads_below HR1.out hb)
  have cv2 : (convert 71 9 (.slice A2 ey.length C2)).run Tryz.prog w2 = .ok (.string ⟨ey.toArray⟩) w2 := conv_reads hr2
  have HB2 : Hid (Below w.heap.size w w2) := HB1.out.trans (hb.mono HB1.out.size)
  have HD : Hid ((ex == ey) = decide (x.enc = y.enc)) := by
    show _ = _
    rw [HE.out.1, HE.out.2]
    by_cases h : ex = ey <;> simp [h]
  clear R2 ho hr2 hb HR1
  go_wp2_with fail
  go_ret
  exact ⟨by rw [← HD.out]; rfl, HB2.out⟩
/-- a book of the document's in memory: D: the blocks where its changes' rows lie; F: its own blocks -/
structure BM (D F : Nat → Prop) (w : World) (g : Nat) (L W : List ChD) (VL VW : Value) : Prop where
  blk : Blk w g 30 #[VL, VW]
  oL : w.ownsRow 0 34 5 VL L.length (chsC L)
  oW : w.ownsRow 0 34 5 VW W.length (chsC W)
  ne : ∀ k, VL.ownBlock = some k → VW.ownBlock ≠ some k
  hF : ∀ k, F k ↔ k = g ∨ VL.ownBlock = some k ∨ VW.ownBlock = some k
  inL : ∀ c ∈ L, ChIn D w c
  inW : ∀ c ∈ W, ChIn D w c
  hD : ∀ k, D k → k < w.heap.size ∧ ¬ F k
section
variable {D F : Nat → Prop} {w w' : World} {g : Nat} {L W : List ChD} {VL VW : Value}
theorem BM.neg (h : BM D F w g L W VL VW) : VL.ownBlock ≠ some g ∧ VW.ownBlock ≠ some g := ⟨own_blk_ne h.oL h.blk (by decide), own_blk_ne h.oW h.blk (by decide)⟩
theorem BM.flt (h : BM D F w g L W VL VW) {k : Nat} (hk : F k) : k < w.heap.size := by
  rcases (h.hF k).1 hk with rfl | hk | hk
  · exact h.blk.lt
  · exact (own_lt h.oL hk).2
  · exact (own_lt h.oW hk).2
theorem BM.keep (h : BM D F w g L W VL VW) (hs : w.heap.size ≤ w'.heap.size) (hD : ∀ k, D k → w'.heap[k]? = w.heap[k]?) (hF : ∀ k, F k → w'.heap[k]? = w.heap[k]?) : BM D F w' g L W VL VW :=
  ⟨h.blk.keep (hF g ((h.hF g).2 (.inl rfl))), own_keep h.oL (fun k hk => hF k ((h.hF k).2 (.inr (.inl hk)))), own_keep h.oW (fun k hk => hF k ((h.hF k).2 (.inr (.inr hk)))), h.ne, h.hF,
    fun c hc => (h.inL c hc).keep hD, fun c hc => (h.inW c hc).keep hD, fun k hk => ⟨Nat.lt_of_lt_of_le (h.hD k hk).1 hs, (h.hD k hk).2⟩⟩
theorem BM.below (h : BM D F w g L W VL VW) (hb : Below w.heap.size w w') : BM D F w' g L W VL VW :=
  h.keep hb.size (fun k hk => hb.block k (h.hD k hk).1) (fun k hk => hb.block k (h.flt hk))
theorem BM.br (h : BM D F w g L W VL VW) : BR w g L W := by
  obtain ⟨A, c, hv, _, _, hr⟩ := Reads.of_own h.oL
  obtain ⟨A', c', hv', _, _, hr'⟩ := Reads.of_own h.oW
  refine ⟨A, c, A', c', by rw [← hv, ← hv']; exact h.blk, ⟨hr.more (fun k hk => (own_lt h.oL hk).2), fun c hc => (h.inL c hc).more fun k hk => (h.hD k hk).1⟩, ⟨hr'.more (fun k hk => (own_lt h.oW hk).2), fun c hc => (h.inW c hc).more fun k hk => (h.hD k hk).1⟩⟩
/-- the first row anew -/
theorem BM.setL (h : BM D F w g L W VL VW) {V' : Value} {L' : List ChD} (hs : w.heap.size ≤ w'.heap.size) (hk : ∀ k, k < w.heap.size → VL.ownBlock ≠ some k → w'.heap[k]? = w.heap[k]?)
    (ho : w'.ownsRow 0 34 5 V' L'.length (chsC L')) (hat : V'.ownBlock = VL.ownBlock ∨ ∀ k, V'.ownBlock = some k → w.heap.size ≤ k) (hin : ∀ c ∈ L', ChIn D w c) :
    BM D (fun k => k = g ∨ V'.ownBlock = some k ∨ VW.ownBlock = some k) (w'.setCell ⟨g, 0, none⟩ V') g L' W V' VW := by
  have hg : w'.heap[g]? = w.heap[g]? := hk g h.blk.lt h.neg.1
  have hW : ∀ k, VW.ownBlock = some k → w'.heap[k]? = w.heap[k]? := fun k e => hk k (own_lt h.oW e).2 (fun e' => h.ne k e' e)
  have hDk : ∀ k, D k → w'.heap[k]? = w.heap[k]? := fun k hd => hk k (h.hD k hd).1 (fun e => (h.hD k hd).2 ((h.hF k).2 (.inr (.inl e))))
  have hB : Blk w' g 30 #[VL, VW] := h.blk.keep hg
  have hneg : V'.ownBlock ≠ some g := own_blk_ne ho hB (by decide)
  have hset : ∀ k, k ≠ g → (w'.setCell ⟨g, 0, none⟩ V').heap[k]? = w'.heap[k]? := fun k hk => Below.heap_setCell _ _ _ _ hk
  have hsz : (w'.setCell ⟨g, 0, none⟩ V').heap.size = w'.heap.size := by simp
  refine ⟨hB.set_ 0 V', own_keep ho fun k hk => hset k (fun e => hneg (by rw [← e]; exact hk)), own_keep (own_keep h.oW hW) fun k hk => hset k (fun e => h.neg.2 (by rw [← e]; exact hk)), fun k e e' => ?_, fun k => Iff.rfl,
    fun c hc => ((hin c hc).keep hDk).keep fun k hd => hset k (fun e => (h.hD k hd).2 ((h.hF k).2 (.inl e))), fun c hc => ((h.inW c hc).keep hDk).keep fun k hd => hset k (fun e => (h.hD k hd).2 ((h.hF k).2 (.inl e))), fun k hd => ⟨by rw [hsz]; exact Nat.lt_of_lt_of_le (h.hD k hd).1 hs, ?_⟩⟩
  · rcases hat with h1 | h1
    · exact h.ne k (h1 ▸ e) e'
    · have := h1 k e; have := (own_lt h.oW e').2; omega
  · rintro (e | e | e)
    · exact (h.hD k hd).2 ((h.hF k).2 (.inl e))
    · rcases hat with h1 | h1
      · exact (h.hD k hd).2 ((h.hF k).2 (.inr (.inl (h1 ▸ e))))
      · have := h1 k e; have := (h.hD k hd).1; omega
    · exact (h.hD k hd).2 ((h.hF k).2 (.inr (.inr e)))
/-- the second row anew -/
theorem BM.setW (h : BM D F w g L W VL VW) {V' : Value} {W' : List ChD} (hs : w.heap.size ≤ w'.heap.size) (hk : ∀ k, k < w.heap.size → VW.ownBlock ≠ some k → w'.heap[k]? = w.heap[k]?)
    (ho : w'.ownsRow 0 34 5 V' W'.length (chsC W')) (hat : V'.ownBlock = VW.ownBlock ∨ ∀ k, V'.ownBlock = some k → w.heap.size ≤ k) (hin : ∀ c ∈ W', ChIn D w c) :
    BM D (fun k => k = g ∨ VL.ownBlock = some k ∨ V'.ownBlock = some k) (w'.setCell ⟨g, 1, none⟩ V') g L W' VL V' := by
  have hg : w'.heap[g]? = w.heap[g]? := hk g h.blk.lt h.neg.2
  have hL : ∀ k, VL.ownBlock = some k → w'.heap[k]? = w.heap[k]? := fun k e => hk k (own_lt h.oL e).2 (fun e' => h.ne k e e')
  have hDk : ∀ k, D k → w'.heap[k]? = w.heap[k]? := fun k hd => hk k (h.hD k hd).1 (fun e => (h.hD k hd).2 ((h.hF k).2 (.inr (.inr e))))
  have hB : Blk w' g 30 #[VL, VW] := h.blk.keep hg
  have hneg : V'.ownBlock ≠ some g := own_blk_ne ho hB (by decide)
  have hset : ∀ k, k ≠ g → (w'.setCell ⟨g, 1, none⟩ V').heap[k]? = w'.heap[k]? := fun k hk => Below.heap_setCell _ _ _ _ hk
  have hsz : (w'.setCell ⟨g, 1, none⟩ V').heap.size = w'.heap.size := by simp
  refine ⟨hB.set_ 1 V', own_keep (own_keep h.oL hL) fun k hk => hset k (fun e => h.neg.1 (by rw [← e]; exact hk)), own_keep ho fun k hk => hset k (fun e => hneg (by rw [← e]; exact hk)), fun k e e' => ?_, fun k => Iff.rfl,
    fun c hc => ((h.inL c hc).keep hDk).keep fun k hd => hset k (fun e => (h.hD k hd).2 ((h.hF k).2 (.inl e))), fun c hc => ((hin c hc).keep hDk).keep fun k hd => hset k (fun e => (h.hD k hd).2 ((h.hF k).2 (.inl e))), fun k hd => ⟨by rw [hsz]; exact Nat.lt_of_lt_of_le (h.hD k hd).1 hs, ?_⟩⟩
  · rcases hat with h1 | h1
    · exact h.ne k e (h1 ▸ e')
    · have := h1 k e'; have := (own_lt h.oL e).2; omega
  · rintro (e | e | e)
    · exact (h.hD k hd).2 ((h.hF k).2 (.inl e))
    · exact (h.hD k hd).2 ((h.hF k).2 (.inr (.inl e)))
    · rcases hat with h1 | h1
      · exact (h.hD k hd).2 ((h.hF k).2 (.inr (.inr (h1 ▸ e))))
      · have := h1 k e; have := (h.hD k hd).1; omega
theorem blk_reads {w : World} {k : Nat} {t : TypeId} {cs : Array Value} {n : Nat} (h : Blk w k t cs) (hn : cs.size = n) : Reads (fun x => x = k) w n (some ⟨k, 0, none⟩) 1 cs.toList := by
  refine ⟨by simp [hn], fun _ => ⟨_, rfl, rfl, fun j u hu => ?_⟩⟩
  rw [addr0]
  have hj : cs[j]? = some u := by simpa using hu
  obtain ⟨hlt, e⟩ := Array.getElem?_eq_some_iff.1 hj
  have := h.cell j
  rw [hj] at this
  exact this
theorem chsC_one (L : List ChD) : ∀ u ∈ chsC L, u.oneCell' = true := by
  intro u hu
  obtain ⟨r, _, h⟩ := List.mem_flatMap.1 hu
  simp only [ChD.cells, List.mem_cons, List.not_mem_nil, or_false] at h
  rcases h with rfl | rfl | rfl | rfl | rfl <;> rfl
theorem alloc_grown {w w' : World} {o : Obj} {row : Option Nat} (hg : (w.alloc o).grownBy w' row) : w.heap.size ≤ w'.heap.size ∧ ∀ k, k < w.heap.size → row ≠ some k → w'.heap[k]? = w.heap[k]? := by
  refine ⟨by have := hg.size; rw [World.size_alloc] at this; omega, fun k hk hn => ?_⟩
  exact (hg.block k (by rw [World.size_alloc]; omega) (fun e => hn e.symm)).trans (Below.heap_alloc w o k hk)
theorem grown_chg {w w' : World} {o : Obj} {row : Option Nat} {F : Nat → Prop} (hg : (w.alloc o).grownBy w' row) (hF : ∀ k, row = some k → F k) : Chg F w w' := by
  obtain ⟨h1, h2⟩ := alloc_grown hg
  exact ⟨hg.os, hg.tape, hg.output, h1, fun k hk hn => h2 k hk (fun e => hn (hF k e))⟩
theorem BM.pushW (h : BM D F w g L W VL VW) {o : Obj} {v' : Value} {c : ChD} (ho : w'.ownsRow 0 34 5 v' (W.length + 1) (chsC W ++ c.cells)) (hg : (w.alloc o).grownBy w' VW.ownBlock)
    (hat : v'.ownBlock = VW.ownBlock ∨ v'.ownBlock = some (w.alloc o).heap.size) (hc : ChIn D w c) :
    ∃ F', BM D F' (w'.setCell ⟨g, 1, none⟩ v') g L (W ++ [c]) VL v' ∧ (∀ k, F' k → F k ∨ w.heap.size ≤ k) ∧ Chg F w (w'.setCell ⟨g, 1, none⟩ v') := by
  obtain ⟨h1, h2⟩ := alloc_grown hg
  have hat' : v'.ownBlock = VW.ownBlock ∨ ∀ k, v'.ownBlock = some k → w.heap.size ≤ k := by
    rcases hat with e | e
    · exact .inl e
    · refine .inr fun k hk => ?_
      rw [e, World.size_alloc] at hk
      simp only [Option.some.injEq] at hk
      omega
  refine ⟨_, h.setW h1 (fun k hk hn => h2 k hk hn) (by rw [List.length_append, chsC_append]; simpa [chsC] using ho) hat' (fun x hx => ?_), fun k hk => ?_, (grown_chg hg fun k hk => (h.hF k).2 (.inr (.inr hk))).setCell (.inl ((h.hF g).2 (.inl rfl))) _⟩
  · rcases List.mem_append.1 hx with hx | hx
    · exact h.inW x hx
    · rw [List.mem_singleton.1 hx]; exact hc
  · rcases hk with e | e | e
    · exact .inl ((h.hF k).2 (.inl e))
    · exact .inl ((h.hF k).2 (.inr (.inl e)))
    · rcases hat' with h3 | h3
      · exact .inl ((h.hF k).2 (.inr (.inr (h3 ▸ e))))
      · exact .inr (h3 k e)
theorem BM.pushL (h : BM D F w g L W VL VW) {o : Obj} {v' : Value} {c : ChD} (ho : w'.ownsRow 0 34 5 v' (L.length + 1) (chsC L ++ c.cells)) (hg : (w.alloc o).grownBy w' VL.ownBlock)
    (hat : v'.ownBlock = VL.ownBlock ∨ v'.ownBlock = some (w.alloc o).heap.size) (hc : ChIn D w c) :
    ∃ F', BM D F' (w'.setCell ⟨g, 0, none⟩ v') g (L ++ [c]) W v' VW ∧ (∀ k, F' k → F k ∨ w.heap.size ≤ k) ∧ Chg F w (w'.setCell ⟨g, 0, none⟩ v') := by
  obtain ⟨h1, h2⟩ := alloc_grown hg
  have hat' : v'.ownBlock = VL.ownBlock ∨ ∀ k, v'.ownBlock = some k → w.heap.size ≤ k := by
    rcases hat with e | e
    · exact .inl e
    · refine .inr fun k hk => ?_
      rw [e, World.size_alloc] at hk
      simp only [Option.some.injEq] at hk
      omega
  refine ⟨_, h.setL h1 (fun k hk hn => h2 k hk hn) (by rw [List.length_append, chsC_append]; simpa [chsC] using ho) hat' (fun x hx => ?_), fun k hk => ?_, (grown_chg hg fun k hk => (h.hF k).2 (.inr (.inl hk))).setCell (.inl ((h.hF g).2 (.inl rfl))) _⟩
  · rcases List.mem_append.1 hx with hx | hx
    · exact h.inL x hx
    · rw [List.mem_singleton.1 hx]; exact hc
  · rcases hk with e | e | e
    · exact .inl ((h.hF k).2 (.inl e))
    · rcases hat' with h3 | h3
      · exact .inl ((h.hF k).2 (.inr (.inl (h3 ▸ e))))
      · exact .inr (h3 k e)
    · exact .inl ((h.hF k).2 (.inr (.inr e)))
end
end Go.Proofs.YtclgfcjcpbiadaaGreatDoor

namespace Go.Proofs.YtclgfcjcpbiadaaGreatDoor
open Go.RowKit

theorem id_one : ∀ {K : List OpI}, (K.map Prod.snd).Nodup → ∀ {x y : OpI}, x ∈ K → y ∈ K → x.2 = y.2 → x = y
  | [], _, _, _, hx, _, _ => by cases hx
  | z :: K, hn, x, y, hx, hy, h => by
    rw [List.map_cons, List.nodup_cons] at hn
    rcases List.mem_cons.1 hx with hx | hx <;> rcases List.mem_cons.1 hy with hy | hy
    · rw [hx, hy]
    · exact absurd (List.mem_map.2 ⟨y, hy, h.symm.trans (congrArg Prod.snd hx)⟩) hn.1
    · exact absurd (List.mem_map.2 ⟨x, hx, h.trans (congrArg Prod.snd hy)⟩) hn.1
    · exact id_one hn.2 hx hy h
theorem lookP_perm {K K' : List OpI} (hp : K.Perm K') (hn : (K.map Prod.snd).Nodup) (r : Rf) : lookP K r = lookP K' r := by
  unfold lookP
  cases h : K.find? (fun x => decide (x.2 = r)) with
  | none =>
    symm
    rw [List.find?_eq_none] at h ⊢
    exact fun x hx => h x (hp.mem_iff.2 hx)
  | some y =>
    have h1 := List.mem_of_find?_eq_some h
    have h2 : y.2 = r := by simpa using List.find?_some h
    cases h' : K'.find? (fun x => decide (x.2 = r)) with
    | none => exact absurd (by simpa using h2) (List.find?_eq_none.1 h' y (hp.mem_iff.1 h1))
    | some z =>
      have h3 := List.mem_of_find?_eq_some h'
      have h4 : z.2 = r := by simpa using List.find?_some h'
      rw [id_one hn h1 (hp.mem_iff.2 h3) (h2.trans h4.symm)]
theorem mayP_perm {K K' : List OpI} (hp : K.Perm K') (hn : (K.map Prod.snd).Nodup) (x : OpI) : mayP x K = mayP x K' := by
  have h := lookP_perm hp hn
  have h1 : kindP x K = kindP x K' := by unfold kindP; rw [h]
  have h2 : elemOkP x K = elemOkP x K' := by unfold elemOkP; rw [h]
  have h3 : predOkP x K = predOkP x K' := by funext p; unfold predOkP; rw [h]
  unfold mayP
  rw [h1, h2, h3]
theorem fitOps_perm : ∀ (l : List OpI) {K K' : List OpI}, K.Perm K' → ((K ++ l).map Prod.snd).Nodup → fitOps l K = fitOps l K'
  | [], _, _, _, _ => rfl
  | x :: l, K, K', hp, hn => by
    have hk : (K.map Prod.snd).Nodup := by rw [List.map_append] at hn; exact hn.sublist (List.sublist_append_left _ _)
    rw [fitOps, fitOps, mayP_perm hp hk, fitOps_perm l (hp.append_right [x]) (by simpa using hn)]
/-- the ops of a list's change -/
def opsAt (L : List ChD) (r : Rf) : List OpI := match findC L r with | some c => c.opsI | none => []
theorem findC_is {L : List ChD} (hn : (refsOf L).Nodup) {c : ChD} (hc : c ∈ L) : findC L c.rf = some c := by
  cases h : findC L c.rf with
  | none => exact absurd (mem_refs hc) (findC_none.1 h)
  | some d =>
    obtain ⟨h1, h2⟩ := findC_some h
    congr 1
    obtain ⟨i, hi⟩ := List.getElem?_of_mem hc
    obtain ⟨j, hj⟩ := List.getElem?_of_mem h1
    have e1 : (refsOf L)[i]? = some c.rf := by simp [refsOf, hi]
    have e2 : (refsOf L)[j]? = some c.rf := by simp [refsOf, hj, h2]
    obtain ⟨l1, e1⟩ := List.getElem?_eq_some_iff.1 e1
    obtain ⟨l2, e2⟩ := List.getElem?_eq_some_iff.1 e2
    have hij : i = j := (List.getElem_inj hn).1 (e1.trans e2.symm)
    subst hij
    exact (Option.some.inj (hi.symm.trans hj)).symm
theorem perm_of_nodup {α : Type} : ∀ {a b : List α}, a.Nodup → b.Nodup → (∀ x, x ∈ a ↔ x ∈ b) → a.Perm b
  | [], b, _, _, h => by
    cases b with
    | nil => exact List.Perm.refl _
    | cons y b => exact absurd ((h y).2 (List.mem_cons_self ..)) (by simp)
  | x :: a, b, ha, hb, h => by
    obtain ⟨s, t, rfl⟩ := List.append_of_mem ((h x).1 (List.mem_cons_self ..))
    have hp : (s ++ x :: t).Perm (x :: (s ++ t)) := List.perm_middle
    have hb2 := hp.nodup_iff.1 hb
    refine (List.Perm.cons x (perm_of_nodup (List.nodup_cons.1 ha).2 (List.nodup_cons.1 hb2).2 fun y => ?_)).trans hp.symm
    have hy := (h y).trans hp.mem_iff
    rw [List.mem_cons, List.mem_cons] at hy
    constructor
    · intro hm
      rcases hy.1 (.inr hm) with e | e
      · exact absurd (e ▸ hm) (List.nodup_cons.1 ha).1
      · exact e
    · intro hm
      rcases hy.2 (.inr hm) with e | e
      · exact absurd (e ▸ hm) (List.nodup_cons.1 hb2).1
      · exact e
theorem flatMap_congr_of {α β : Type} {f g : α → List β} : ∀ {l : List α}, (∀ x ∈ l, f x = g x) → l.flatMap f = l.flatMap g
  | [], _ => rfl
  | x :: l, h => by rw [List.flatMap_cons, List.flatMap_cons, h x (List.mem_cons_self ..), flatMap_congr_of fun y hy => h y (List.mem_cons_of_mem _ hy)]
theorem flatMap_sub {α β : Type} (f : α → List β) {l m : List α} (h : l.Sublist m) : (l.flatMap f).Sublist (m.flatMap f) := by
  induction h with
  | slnil => exact List.Sublist.refl _
  | cons a h ih => rw [List.flatMap_cons]; exact ih.trans (List.sublist_append_right _ _)
  | cons_cons a h ih => rw [List.flatMap_cons, List.flatMap_cons]; exact (List.Sublist.refl _).append ih
theorem knownP_perm {L : List ChD} (hn : (refsOf L).Nodup) {S : List Rf} (hs : S.Nodup) (hsub : ∀ r ∈ S, r ∈ refsOf L) : (S.flatMap (opsAt L)).Perm (knownP L S) := by
  unfold knownP
  have e : (L.filter fun c => decide (c.rf ∈ S)).flatMap ChD.opsI = ((L.filter fun c => decide (c.rf ∈ S)).map ChD.rf).flatMap (opsAt L) := by
    rw [List.flatMap_map]
    refine flatMap_congr_of fun c hc => ?_
    unfold opsAt
    rw [findC_is hn (List.mem_filter.1 hc).1]
  rw [e]
  refine List.Perm.flatMap_right _ (perm_of_nodup hs ?_ fun r => ?_)
  · exact hn.sublist ((List.filter_sublist).map _)
  · constructor
    · intro hr
      obtain ⟨c, hc, rfl⟩ := List.mem_map.1 (hsub r hr)
      exact List.mem_map.2 ⟨c, List.mem_filter.2 ⟨hc, by simpa using hr⟩, rfl⟩
    · intro hr
      obtain ⟨c, hc, rfl⟩ := List.mem_map.1 hr
      simpa using (List.mem_filter.1 hc).2
theorem known_nodup {L : List ChD} (hb : Bk L) {S : List Rf} (hs : S.Nodup) (hsub : ∀ r ∈ S, r ∈ refsOf L) : ((S.flatMap (opsAt L)).map Prod.snd).Nodup := by
  rw [((knownP_perm hb.nodup hs hsub).map Prod.snd).nodup_iff]
  refine hb.ids.sublist (List.Sublist.map _ ?_)
  unfold knownP
  exact flatMap_sub _ List.filter_sublist
theorem fits_no1 {L : List ChD} {c : ChD} {S : List Rf} (hS : ∀ r, r ∈ S ↔ r ∈ behindP L c.deps) {r : Rf} (hr : r ∈ S) (h1 : r.1 = c.a) (h2 : c.s ≤ r.2) : fitsP L c = false := by
  unfold fitsP fitsIn
  have : seqOkP c (behindP L c.deps) = false := by
    unfold seqOkP
    rw [List.all_eq_false]
    exact ⟨r, (hS r).1 hr, by simp [h1, h2]⟩
  rw [this]; rfl
theorem fits_no2 {L : List ChD} {c : ChD} {S : List Rf} (hn : (refsOf L).Nodup) (hs : S.Nodup) (hS : ∀ r, r ∈ S ↔ r ∈ behindP L c.deps) {r : Rf} (hr : r ∈ S) {x : OpI} (hx : x ∈ opsAt L r) (h : c.st ≤ x.2.1) : fitsP L c = false := by
  have e : fitsP L c = fitsIn L c S := (fitsIn_congr hS).symm
  rw [e]
  unfold fitsIn
  have : (knownP L S).all (fun x => decide (x.2.1 < c.st)) = false := by
    rw [List.all_eq_false]
    refine ⟨x, (knownP_perm hn hs fun r hr => behind_sub ((hS r).1 hr)).mem_iff.1 (List.mem_flatMap.2 ⟨r, hr, hx⟩), ?_⟩
    simp; omega
  rw [this]; simp
theorem prevOk_mem (c : ChD) (S : List Rf) : prevOkP c S = !(decide (1 < c.s) && !decide ((c.a, c.s - 1) ∈ S)) := by
  unfold prevOkP
  congr 3
  rw [Bool.eq_iff_iff]
  simp only [List.any_eq_true, Bool.and_eq_true, decide_eq_true_eq]
  constructor
  · rintro ⟨r, hr, h1, h2⟩; rw [← h1, ← h2]; exact hr
  · intro h; exact ⟨_, h, rfl, rfl⟩
theorem fits_yes {L : List ChD} {c : ChD} {S : List Rf} {K : List OpI} (hb : Bk L) (hs : S.Nodup) (hS : ∀ r, r ∈ S ↔ r ∈ behindP L c.deps) (hK : K.Perm (S.flatMap (opsAt L)))
    (h1 : ∀ r ∈ S, ¬ (r.1 = c.a ∧ c.s ≤ r.2)) (h2 : ∀ x ∈ K, x.2.1 < c.st) :
    fitsP L c = (!(decide (1 < c.s) && !decide ((c.a, c.s - 1) ∈ S)) && fitOps c.opsI K) := by
  have e : fitsP L c = fitsIn L c S := (fitsIn_congr hS).symm
  have hsub : ∀ r ∈ S, r ∈ refsOf L := fun r hr => behind_sub ((hS r).1 hr)
  have hp := hK.trans (knownP_perm hb.nodup hs hsub)
  rw [e]
  unfold fitsIn
  have e1 : seqOkP c S = true := by
    unfold seqOkP
    rw [List.all_eq_true]
    intro r hr
    have := h1 r hr
    simp only [Bool.not_eq_true', Bool.and_eq_false_iff, decide_eq_false_iff_not]
    by_cases hh : r.1 = c.a
    · exact .inr fun h => this ⟨hh, h⟩
    · exact .inl hh
  have e2 : (knownP L S).all (fun x => decide (x.2.1 < c.st)) = true := by
    rw [List.all_eq_true]
    exact fun x hx => decide_eq_true (h2 x (hp.mem_iff.2 hx))
  have hids : ((K ++ c.opsI).map Prod.snd).Nodup := by
    rw [List.map_append, List.nodup_append]
    refine ⟨(hK.map Prod.snd).nodup_iff.2 (known_nodup hb hs hsub), idsFrom_nodup _ _ _, fun a ha b hb' hab => ?_⟩
    obtain ⟨x, hx, rfl⟩ := List.mem_map.1 ha
    obtain ⟨y, hy, rfl⟩ := List.mem_map.1 hb'
    have q1 := h2 x hx
    have q2 := (idsFrom_mem hy).2.1
    rw [hab] at q1
    omega
  rw [e1, e2, prevOk_mem, fitOps_perm c.opsI hp hids]
  simp
/-! ### what a change's ops keep to -/
theorem opE_kinds {o : OpD} (h : opE' o = 0) : 1 ≤ o.k ∧ (o.k = 2 → o.vk = 5 ∨ o.vk = 6) := by
  unfold opE' opE at h
  obtain ⟨h1, h⟩ := ite_zero h (by omega)
  obtain ⟨h2, h⟩ := ite_zero h (by omega)
  obtain ⟨h3, h⟩ := ite_zero h (by omega)
  by_cases h4 : idsE o.l ≠ 0
  · rw [if_pos h4] at h; exact absurd h h4
  rw [if_neg h4] at h
  refine ⟨by omega, fun hk => ?_⟩
  unfold tailE at h
  obtain ⟨_, h⟩ := ite_zero h (by omega)
  obtain ⟨_, h⟩ := ite_zero h (by omega)
  obtain ⟨h5, _⟩ := ite_zero h (by omega)
  have h6 : kindB o.k o.vk o.va o.vb = true := by
    cases hb : kindB o.k o.vk o.va o.vb with
    | true => rfl
    | false => exact absurd hb h5
  rw [hk] at h6
  unfold kindB objectB at h6
  simp at h6
  omega
theorem id64 {a b : Int} (h : idB a b = true) : I64R (a, b) := by
  simp only [idB, rootB, realB, numB, actorB, Bool.or_eq_true, Bool.and_eq_true, decide_eq_true_eq] at h
  exact ⟨by show _ ≤ a ∧ a ≤ _; omega, by show _ ≤ b ∧ b ≤ _; omega⟩
theorem opE_ids {o : OpD} (h : opE' o = 0) : I64R (o.on, o.oa) ∧ I64R (o.en, o.ea) ∧ ∀ p ∈ o.l, I64R p := by
  unfold opE' opE at h
  obtain ⟨h1, h⟩ := ite_zero h (by omega)
  obtain ⟨h2, h⟩ := ite_zero h (by omega)
  have q1 : idB o.on o.oa = true := by
    cases hb : idB o.on o.oa with
    | true => rfl
    | false => exact absurd (.inr (.inr (.inl hb))) h1
  have q2 : idB o.en o.ea = true := by
    cases hb : idB o.en o.ea with
    | true => rfl
    | false => exact absurd (.inr (.inr (.inr hb))) h1
  refine ⟨id64 q1, id64 q2, fun p hp => ?_⟩
  have q3 : o.l.all (fun r => realB r.1 r.2) = true := by
    cases hb : o.l.all (fun r => realB r.1 r.2) with
    | true => rfl
    | false => exact absurd hb h2
  have := List.all_eq_true.1 q3 p hp
  exact id64 (by unfold idB; rw [this, Bool.or_true])
end Go.Proofs.YtclgfcjcpbiadaaGreatDoor

namespace Go.Proofs.YtclgfcjcpbiadaaGreatDoor
open Go.RowKit

theorem next_new {A B l : List OpI} {i : Nat} {z : OpI} (hn : ((A ++ (l ++ B)).map Prod.snd).Nodup) (hz : l[i]? = some z) : ∀ y ∈ A ++ l.take i, y.2 ≠ z.2 := by
  obtain ⟨hi, hz'⟩ := List.getElem?_eq_some_iff.1 hz
  have e : A ++ (l ++ B) = (A ++ l.take i) ++ (z :: (l.drop (i + 1) ++ B)) := by
    have h1 : l = l.take i ++ z :: l.drop (i + 1) := by
      rw [← hz', ← List.drop_eq_getElem_cons hi, List.take_append_drop]
    have h2 : l ++ B = l.take i ++ (z :: (l.drop (i + 1) ++ B)) := by
      rw [← List.cons_append, ← List.append_assoc, ← h1]
    rw [h2, List.append_assoc]
  rw [e, List.map_append, List.nodup_append] at hn
  intro y hy
  exact hn.2.2 y.2 (List.mem_map_of_mem hy) z.2 (by simp)
theorem opsAt_len {L : List ChD} (hb : Bk L) (r : Rf) : (opsAt L r).length ≤ 40 := by
  unfold opsAt
  cases h : findC L r with
  | none => simp
  | some c => simp only [opsI_len]; exact (err_ok (hb.err c (List.mem_of_find?_eq_some h)).1).2.2.1
theorem known_len {L : List ChD} (hb : Bk L) : ∀ S : List Rf, (S.flatMap (opsAt L)).length ≤ 40 * S.length
  | [] => by simp
  | r :: S => by
    have h1 := known_len hb S
    have h2 := opsAt_len hb r
    simp only [List.flatMap_cons, List.length_append, List.length_cons]; omega
theorem at_kinds {L : List ChD} (hb : Bk L) {r : Rf} {y : OpI} (hy : y ∈ opsAt L r) : 1 ≤ y.1.k ∧ (y.1.k = 2 → y.1.vk = 5 ∨ y.1.vk = 6) := by
  unfold opsAt at hy
  cases h : findC L r with
  | none => rw [h] at hy; cases hy
  | some c => rw [h] at hy; exact opE_kinds (err_ops (hb.err c (List.mem_of_find?_eq_some h)).1 _ (idsFrom_mem hy).2.2.2)
theorem own_kinds {c : ChD} (he : c.err = 0) {y : OpI} (hy : y ∈ c.opsI) : 1 ≤ y.1.k ∧ (y.1.k = 2 → y.1.vk = 5 ∨ y.1.vk = 6) :=
  opE_kinds (err_ops he _ (idsFrom_mem hy).2.2.2)
theorem ids_nodup {L : List ChD} {c : ChD} {S : List Rf} {K : List OpI} (hb : Bk L) (hs : S.Nodup) (hsub : ∀ r ∈ S, r ∈ refsOf L) (hK : K.Perm (S.flatMap (opsAt L))) (h2 : ∀ x ∈ K, x.2.1 < c.st) :
    ((K ++ c.opsI).map Prod.snd).Nodup := by
  rw [List.map_append, List.nodup_append]
  refine ⟨(hK.map Prod.snd).nodup_iff.2 (known_nodup hb hs hsub), idsFrom_nodup _ _ _, fun a ha b hb' hab => ?_⟩
  obtain ⟨x, hx, rfl⟩ := List.mem_map.1 ha
  obtain ⟨y, hy, rfl⟩ := List.mem_map.1 hb'
  have q1 := h2 x hx
  have q2 := (idsFrom_mem hy).2.1
  rw [hab] at q1
  omega
theorem sub_len {L : List ChD} {S : List Rf} (hn : S.Nodup) (h : ∀ r ∈ S, r ∈ refsOf L) : S.length ≤ L.length := by
  have := nodup_le hn h
  simpa [refsOf] using this
/-- all that is known, and what is left of it: how many -/
theorem known_less {L : List ChD} (hb : Bk L) (hl : L.length ≤ 1000) {S done todo : List Rf} (hn : S.Nodup) (hsub : ∀ r ∈ S, r ∈ refsOf L) (hp : (done ++ todo).Perm S) : (done.flatMap (opsAt L)).length ≤ 40000 := by
  have h1 := known_len hb done
  have h2 := sub_len hn hsub
  have h3 := hp.length_eq
  rw [List.length_append] at h3
  have : done.length ≤ 1000 := by omega
  omega
end Go.Proofs.YtclgfcjcpbiadaaGreatDoor

namespace Go.Proofs.YtclgfcjcpbiadaaGreatDoor
open Go.RowKit

theorem deps_i64 : ∀ {p : Int} {l : List Rf}, refsE p l = 0 → ∀ d ∈ l, I64R d
  | _, [], _, _, h => by cases h
  | p, r :: l, h, d, hd => by
    unfold refsE at h
    by_cases h1 : isRef r = false
    · rw [if_pos h1] at h; cases h
    rw [if_neg h1] at h
    by_cases h2 : r.1 ≤ p
    · rw [if_pos h2] at h; cases h
    rw [if_neg h2] at h
    rcases List.mem_cons.1 hd with rfl | hd
    · have := isRef_bd (by cases hh : isRef d with | true => rfl | false => exact absurd hh h1)
      exact ⟨by omega, by omega⟩
    · exact deps_i64 h d hd
theorem err_deps {c : ChD} (h : c.err = 0) : ∀ d ∈ c.deps, I64R d := by
  unfold ChD.err chgE at h
  obtain ⟨h1, h⟩ := ite_zero h (by omega)
  obtain ⟨h2, h⟩ := ite_zero h (by omega)
  by_cases h3 : refsE 0 c.deps ≠ 0
  · rw [if_pos h3] at h; exact absurd h h3
  exact deps_i64 (p := 0) (Decidable.not_not.1 h3)
end Go.Proofs.YtclgfcjcpbiadaaGreatDoor
