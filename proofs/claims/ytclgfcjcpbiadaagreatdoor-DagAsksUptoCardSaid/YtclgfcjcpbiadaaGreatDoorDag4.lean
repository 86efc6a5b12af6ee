/- Contracts of the program's books: a change copied. -/
import Derived.Test.YtclgfcjcpbiadaaGreatDoorM30
set_option linter.unusedVariables false
set_option linter.unusedSimpArgs false
namespace Go.Proofs.YtclgfcjcpbiadaaGreatDoor
open Go.ChangeShapes Go.WideShapes Go.ChangeAt Go.RowKit

theorem opsC_set : ∀ (os : List OpD) (i : Nat) (o : OpD) (A : Option Addr) (c : Nat), os[i]? = some o → (opsC os).set (i * 13 + 12) (.slice A o.l.length c) = opsC (os.set i { o with A := A, c := c })
  | [], i, o, A, c, h => by simp at h
  | x :: os, 0, o, A, c, h => by
    simp only [List.getElem?_cons_zero, Option.some.injEq] at h
    subst h
    rfl
  | x :: os, i + 1, o, A, c, h => by
    have ih := opsC_set os i o A c (by simpa using h)
    rw [show (i + 1) * 13 + 12 = (i * 13 + 12) + 13 from by omega, List.set_cons_succ]
    show (opC x ++ opsC os).set _ _ = opC x ++ opsC _
    rw [← ih, List.set_append]
    rw [if_neg (by simp [opC])]
    rw [show i * 13 + 12 + 13 - (opC x).length = i * 13 + 12 from by simp [opC]]
/-- some of a row's ops copied: what the copied ones refer to lies in new blocks -/
structure OpsUp (w0 w : World) (l os : List OpD) (i : Nat) (g : Nat) : Prop where
  len : os.length = l.length
  bs : os.map base = l.map base
  old : ∀ j, i ≤ j → os[j]? = l[j]?
  new_ : ∀ j o, j < i → os[j]? = some o → Reads (fun k => w0.heap.size + 2 ≤ k ∧ k < w.heap.size ∧ k ≠ g) w 2 o.A o.l.length (refC o.l)
theorem map_set_base {os : List OpD} {i : Nat} {o : OpD} (h : os[i]? = some o) (A : Option Addr) (c : Nat) : (os.set i { o with A := A, c := c }).map base = os.map base := by
  rw [List.map_set]
  refine List.ext_getElem? fun j => ?_
  rw [List.getElem?_set]
  split
  · rename_i hij
    subst hij
    obtain ⟨hi, he⟩ := List.getElem?_eq_some_iff.1 h
    rw [if_pos (by simpa using hi), List.getElem?_map, h]
    rfl
  · rfl
theorem OpsUp.step {w0 w w' : World} {l os : List OpD} {i g : Nat} (h : OpsUp w0 w l os i g) {o : OpD} (ho : os[i]? = some o) {A : Option Addr} {c : Nat} (hs : w.heap.size ≤ w'.heap.size)
    (hk : ∀ k, w0.heap.size + 2 ≤ k → k < w.heap.size → k ≠ g → w'.heap[k]? = w.heap[k]?) (hr : Reads (fun k => w0.heap.size + 2 ≤ k ∧ k < w'.heap.size ∧ k ≠ g) w' 2 A o.l.length (refC o.l)) :
    OpsUp w0 w' l (os.set i { o with A := A, c := c }) (i + 1) g := by
  refine ⟨by rw [List.length_set]; exact h.len, by rw [map_set_base ho]; exact h.bs, fun j hj => ?_, fun j o' hj ho' => ?_⟩
  · rw [List.getElem?_set_ne (by omega)]; exact h.old j (by omega)
  · by_cases hij : i = j
    · subst hij
      rw [List.getElem?_set_self (List.getElem?_eq_some_iff.1 ho).1] at ho'
      cases ho'
      exact hr
    · rw [List.getElem?_set_ne hij] at ho'
      exact ((h.new_ j o' (by omega) ho').keep fun k hk' => hk k hk'.1 hk'.2.1 hk'.2.2).more fun k hk' => ⟨hk'.1, Nat.lt_of_lt_of_le hk'.2.1 hs, hk'.2.2⟩
set_option maxHeartbeats 4000000 in
set_option maxRecDepth 20000 in
theorem clone_any (c : ChD) (w : World) (hc : ChIn (fun k => k < w.heap.size) w c) (h1 : c.deps.length ≤ 1000000) (h2 : c.ops.length ≤ 1000000) (h3 : ∀ o ∈ c.ops, o.l.length ≤ 1000000) :
    Calls Tryz.prog 35 #[c.v] w fun e w' => ∃ c' : ChD, e = .returned c'.v ∧ c'.base = c.base ∧ ChIn (fun k => w.heap.size ≤ k ∧ k < w'.heap.size) w' c' ∧ Below w.heap.size w w' := by
  have hres : Tryz.f35.results = #[.cell 2 34] := by kernel_rfl
  have HC := Lib.hid hc
  have HH := Lib.hid h3
  have hQ1 := Blk.new w 34 #[.int .i64 c.a, .int .i64 c.s, .int .i64 c.st, .slice c.DA c.deps.length c.DC, .slice c.OA c.ops.length c.OC]
  have hW1 : Below w.heap.size w (w.alloc (.cells #[.int .i64 c.a, .int .i64 c.s, .int .i64 c.st, .slice c.DA c.deps.length c.DC, .slice c.OA c.ops.length c.OC] 34)) := (Below.refl _ w).alloc (Nat.le_refl _) _
  have hs1 : (w.alloc (.cells #[.int .i64 c.a, .int .i64 c.s, .int .i64 c.st, .slice c.DA c.deps.length c.DC, .slice c.OA c.ops.length c.OC] 34)).heap.size = w.heap.size + 1 := by simp
  unfold ChD.v
  clear hc h3
  go_enter Tryz.func35, Tryz.ntmps35
  go_upto_region 1 with fail
  generalize w.alloc (.cells #[.int .i64 c.a, .int .i64 c.s, .int .i64 c.st, .slice c.DA c.deps.length c.DC, .slice c.OA c.ops.length c.OC] 34) = V1 at *
  have HQ : Hid (Blk (V1.alloc (.cells #[.int .i64 0, .int .i64 0, .int .i64 0, .slice none 0 0, .slice none 0 0] 34)) w.heap.size 34 #[.int .i64 c.a, .int .i64 c.s, .int .i64 c.st, .slice c.DA c.deps.length c.DC, .slice c.OA c.ops.length c.OC]) := hQ1.keep (((Below.refl _ V1).alloc (Nat.le_refl _) _).block _ hQ1.lt)
  have HQR : Hid (Blk (V1.alloc (.cells #[.int .i64 0, .int .i64 0, .int .i64 0, .slice none 0 0, .slice none 0 0] 34)) (w.heap.size + 1) 34 #[.int .i64 0, .int .i64 0, .int .i64 0, .slice none 0 0, .slice none 0 0]) := by show Blk _ _ _ _; rw [← hs1]; exact Blk.new V1 _ _
  have HW : Hid (Below w.heap.size w (V1.alloc (.cells #[.int .i64 0, .int .i64 0, .int .i64 0, .slice none 0 0, .slice none 0 0] 34))) := hW1.alloc hW1.size _
  clear hQ1 hW1
  generalize V1.alloc (.cells #[.int .i64 0, .int .i64 0, .int .i64 0, .slice none 0 0, .slice none 0 0] 34) = V at *
  have hsV : w.heap.size + 1 < V.heap.size := HQR.out.lt
  have c3 : V.cell? ⟨w.heap.size, 3, none⟩ = some (.slice c.DA c.deps.length c.DC) := HQ.out.cell 3
  have C1 := cloneR_any c.deps (fun k => k < V.heap.size) c.DA c.DC V (reads_below HC.out.hd HW.out) (fun _ h => h) h1
  go_wp2_with fail
  go_at_call 63
  refine C1.mono ?_
  rintro e w2 ⟨A1, k1, rfl, ho, hb⟩
  have HO1 : Hid (w2.ownsRow (w.heap.size + 2) 25 2 (.slice A1 c.deps.length k1) c.deps.length (refC c.deps)) := own_base ho fun g hg => by have := (own_lt ho hg).1; omega
  replace HQ := Lib.hid (HQ.out.keep (hb.block _ HQ.out.lt))
  replace HQR := Lib.hid (HQR.out.keep (hb.block _ HQR.out.lt))
  replace HW : Hid (Below w.heap.size w w2) := HW.out.trans (hb.mono HW.out.size)
  have hs2 : w.heap.size + 1 < w2.heap.size := HQR.out.lt
  clear hb ho C1 c3 hsV hs1
  have t1 : w2.cell? ⟨w.heap.size, 3, none⟩ = some (.slice c.DA c.deps.length c.DC) := HQ.out.cell 3
  have t2 : w2.frozen? ⟨w.heap.size, 3, none⟩ = false := HQ.out.frozen 3
  go_upto_region 2 with fail
  have HO2 : Hid ((w2.setCell ⟨w.heap.size, 3, none⟩ (.slice A1 c.deps.length k1)).ownsRow (w.heap.size + 2) 25 2 (.slice A1 c.deps.length k1) c.deps.length (refC c.deps)) :=
    own_keep HO1.out fun k hk => Below.heap_setCell _ _ _ _ (by have := (own_lt HO1.out hk).1; show k ≠ w.heap.size; omega)
  replace HQ : Hid (Blk (w2.setCell ⟨w.heap.size, 3, none⟩ (.slice A1 c.deps.length k1)) w.heap.size 34 #[.int .i64 c.a, .int .i64 c.s, .int .i64 c.st, .slice A1 c.deps.length k1, .slice c.OA c.ops.length c.OC]) := HQ.out.set_ 3 _
  replace HQR := Lib.hid (HQR.out.far (p := ⟨w.heap.size, 3, none⟩) (by show w.heap.size + 1 ≠ w.heap.size; omega) (.slice A1 c.deps.length k1))
  replace HW : Hid (Below w.heap.size w (w2.setCell ⟨w.heap.size, 3, none⟩ (.slice A1 c.deps.length k1))) := HW.out.setCell (Nat.le_refl _) _
  clear t1 t2 HO1 hs2
  generalize w2.setCell ⟨w.heap.size, 3, none⟩ (.slice A1 c.deps.length k1) = V2 at HO2 HQ HQR HW ⊢
  have c4 : V2.cell? ⟨w.heap.size, 4, none⟩ = some (.slice c.OA c.ops.length c.OC) := HQ.out.cell 4
  have C2 := cloneO_any c.ops (fun k => k < V2.heap.size) c.OA c.OC V2 (reads_below HC.out.ho HW.out) (fun _ h => h) h2
  go_wp2_with fail
  go_at_call 64
  refine C2.mono ?_
  rintro e w3 ⟨A2, k2, rfl, ho, hb⟩
  have hsV : w.heap.size + 1 < V2.heap.size := HQR.out.lt
  have HO3 : Hid (w3.ownsRow (w.heap.size + 2) 87 13 (.slice A2 c.ops.length k2) c.ops.length (opsC c.ops)) := own_base ho fun g hg => by have := (own_lt ho hg).1; omega
  have HNE : Hid (∀ k, (Value.slice A1 c.deps.length k1).ownBlock = some k → (Value.slice A2 c.ops.length k2).ownBlock ≠ some k) := fun k e e' => by have := (own_lt HO2.out e).2; have := (own_lt ho e').1; omega
  replace HO2 := Lib.hid (own_below HO2.out hb)
  replace HQ := Lib.hid (HQ.out.keep (hb.block _ HQ.out.lt))
  replace HQR := Lib.hid (HQR.out.keep (hb.block _ HQR.out.lt))
  replace HW : Hid (Below w.heap.size w w3) := HW.out.trans (hb.mono HW.out.size)
  clear hb ho C2 c4 hsV
  have t1 : w3.cell? ⟨w.heap.size, 4, none⟩ = some (.slice c.OA c.ops.length c.OC) := HQ.out.cell 4
  have t2 : w3.frozen? ⟨w.heap.size, 4, none⟩ = false := HQ.out.frozen 4
  go_upto_region 3 with fail
  have HO4 : Hid ((w3.setCell ⟨w.heap.size, 4, none⟩ (.slice A2 c.ops.length k2)).ownsRow (w.heap.size + 2) 87 13 (.slice A2 c.ops.length k2) c.ops.length (opsC c.ops)) :=
    own_keep HO3.out fun k hk => Below.heap_setCell _ _ _ _ (by have := (own_lt HO3.out hk).1; show k ≠ w.heap.size; omega)
  have HO5 : Hid ((w3.setCell ⟨w.heap.size, 4, none⟩ (.slice A2 c.ops.length k2)).ownsRow (w.heap.size + 2) 25 2 (.slice A1 c.deps.length k1) c.deps.length (refC c.deps)) :=
    own_keep HO2.out fun k hk => Below.heap_setCell _ _ _ _ (by have := (own_lt HO2.out hk).1; show k ≠ w.heap.size; omega)
  replace HQ : Hid (Blk (w3.setCell ⟨w.heap.size, 4, none⟩ (.slice A2 c.ops.length k2)) w.heap.size 34 #[.int .i64 c.a, .int .i64 c.s, .int .i64 c.st, .slice A1 c.deps.length k1, .slice A2 c.ops.length k2]) := HQ.out.set_ 4 _
  replace HQR := Lib.hid (HQR.out.far (p := ⟨w.heap.size, 4, none⟩) (by show w.heap.size + 1 ≠ w.heap.size; omega) (.slice A2 c.ops.length k2))
  replace HW : Hid (Below w.heap.size w (w3.setCell ⟨w.heap.size, 4, none⟩ (.slice A2 c.ops.length k2))) := HW.out.setCell (Nat.le_refl _) _
  clear t1 t2 HO2 HO3
  generalize w3.setCell ⟨w.heap.size, 4, none⟩ (.slice A2 c.ops.length k2) = V3 at HO4 HO5 HQ HQR HW ⊢
  obtain ⟨n, hn⟩ : ∃ n, c.ops.length = n := ⟨_, rfl⟩
  have HN := Lib.hid hn
  rw [hn] at HO4 HQ HNE h2
  rw [hn]
  clear hn
  obtain ⟨g2, hg2⟩ : ∃ g2, 0 < n → A2 = some ⟨g2, 0, none⟩ := by
    rcases Nat.eq_zero_or_pos n with h | h
    · exact ⟨0, fun h' => by omega⟩
    · obtain ⟨g2, _, hv, _⟩ := HO4.out.form h
      simp only [Value.slice.injEq] at hv
      exact ⟨g2, fun _ => hv.1⟩
  have HG2 := Lib.hid hg2
  clear hg2
  have c4 : V3.cell? ⟨w.heap.size, 4, none⟩ = some (.slice A2 n k2) := HQ.out.cell 4
  go_wp2_with fail
  clear c4
  go_loopw [3, 15] (fun _ s15 wr => ∃ (i : Nat) (os : List OpD), s15 = .int .i64 i ∧ i ≤ n ∧ Hid (OpsUp w wr c.ops os i g2) ∧ Hid (Blk wr w.heap.size 34 #[.int .i64 c.a, .int .i64 c.s, .int .i64 c.st, .slice A1 c.deps.length k1, .slice A2 n k2]) ∧ Hid (Blk wr (w.heap.size + 1) 34 #[.int .i64 0, .int .i64 0, .int .i64 0, .slice none 0 0, .slice none 0 0]) ∧ Hid (wr.ownsRow (w.heap.size + 2) 25 2 (.slice A1 c.deps.length k1) c.deps.length (refC c.deps)) ∧ Hid (wr.ownsRow (w.heap.size + 2) 87 13 (.slice A2 n k2) n (opsC os)) ∧ Hid (Below w.heap.size w wr)) (fun _ s15 _ => n - (intOf s15).toNat)
  case atStart => exact ⟨0, c.ops, rfl, by omega, ⟨rfl, rfl, fun _ _ => rfl, fun j o hj => by omega⟩, HQ, HQR, HO5, HO4, HW⟩
  case round =>
    clear HQ HQR HO5 HO4 HW
    obtain ⟨i, os, rfl, hi, HU, HQ, HQR, HO1, HO2, HW⟩ := hrel
    by_cases hlt : i < n
    · have ha := HG2.out (by omega)
      subst ha
      obtain ⟨o, ho⟩ : ∃ o, c.ops[i]? = some o := ⟨_, List.getElem?_eq_getElem (by rw [HN.out]; exact hlt)⟩
      have hos : os[i]? = some o := by rw [HU.out.old i (Nat.le_refl _)]; exact ho
      have hom := List.mem_of_getElem? ho
      have HOI := Lib.hid (HC.out.hp o hom)
      have hol := HH.out o hom
      have HOS := Lib.hid hos
      have hgb : w.heap.size + 2 ≤ g2 ∧ g2 < wr.heap.size := own_lt HO2.out (by simp [Value.ownBlock])
      have hql : w.heap.size < wr.heap.size := HQ.out.lt
      have c4 : wr.cell? ⟨w.heap.size, 4, none⟩ = some (.slice (some ⟨g2, 0, none⟩) n k2) := HQ.out.cell 4
      have e12 : wr.cell? ⟨g2, i * 13 + 12, none⟩ = some (.slice o.A o.l.length o.c) := by
        rw [World.ownsRow.cellAt HO2.out (i * 13 + 12) (by omega), opsC_at hos 12 (by omega)]; rfl
      have f12 : wr.frozen? ⟨g2, i * 13 + 12, none⟩ = false := World.ownsRow.frozenAt HO2.out _
      have KS : ∀ V : World, Below wr.heap.size wr V → V.cell? ⟨w.heap.size, 4, none⟩ = some (.slice (some ⟨g2, 0, none⟩) n k2) ∧ V.frozen? ⟨g2, i * 13 + 12, none⟩ = false := fun V hv =>
        ⟨(World.cell?_of_block (hv.block _ hql)).trans c4, (World.frozen?_of_block (hv.block _ hgb.2)).trans f12⟩
      have C3 := cloneI_any o.l (fun k => k < wr.drew.heap.size) o.A o.c wr.drew (reads_below HOI.out.1 HW.out.drew) (fun _ h => h) hol
      have hd0 : decide (0 ≤ (i : Int)) = true := decide_eq_true (by omega)
      have hd1 : decide ((i : Int) < (n : Int)) = true := decide_eq_true (by omega)
      clear ho hos hom
      go_wp2_with fail
      refine wp_region_any (by kernel_rfl) ?_
      change wpAny _ _ _ _ _ _ _ (World.drew _)
      refine wpAny_take (i := 0) (v := ?_) rfl (by kernel_rfl) (by kernel_rfl) (by kernel_rfl) (fun _ _ _ h => h) (Or.inl ⟨by rfl, ?_⟩) ?_
      rotate_left
      · (intro w; go_simp; try with_reducible rfl)
      try simp only [Act.put, List.setIfInBounds_toArray, List.set_cons_zero, List.set_cons_succ]
      refine wpAny_take (i := 2) (v := ?_) rfl (by kernel_rfl) (by kernel_rfl) (by kernel_rfl) (fun _ _ _ h => h) (Or.inl ⟨by rfl, ?_⟩) ?_
      rotate_left
      · (intro w; go_simp; try with_reducible rfl)
      try simp only [Act.put, List.setIfInBounds_toArray, List.set_cons_zero, List.set_cons_succ]
      refine wpAny_take (i := 3) (v := ?_) rfl (by kernel_rfl) (by kernel_rfl) (by kernel_rfl) (fun _ _ _ h => h) (Or.inl ⟨by rfl, ?_⟩) ?_
      rotate_left
      · (intro w; go_simp; try with_reducible rfl)
      try simp only [Act.put, List.setIfInBounds_toArray, List.set_cons_zero, List.set_cons_succ]
      refine wpAny_take (i := 5) (v := ?_) rfl (by kernel_rfl) (by kernel_rfl) (by kernel_rfl) (fun _ _ _ h => h) (Or.inl ⟨by rfl, ?_⟩) ?_
      rotate_left
      · (intro w; go_simp; try with_reducible rfl)
      try simp only [Act.put, List.setIfInBounds_toArray, List.set_cons_zero, List.set_cons_succ]
      refine wpAny_ready (rs := [1, 4]) (by kernel_rfl) (by simp) ?_
      refine AllReady.cons rfl (fun K hK => ?_) (AllReady.cons rfl (fun K hK => ?_) AllReady.nil)
      · skip
        go_simp
        refine hK _ _ ?_
        clear hK K
        try simp only [Act.put, List.setIfInBounds_toArray, List.set_cons_zero, List.set_cons_succ]
        refine wpAny_ready (rs := [4]) (by kernel_rfl) (by simp) ?_
        refine AllReady.cons rfl (fun K hK => ?_) AllReady.nil
        go_simp
        refine hK _ _ ?_
        clear hK K
        try simp only [Act.put, List.setIfInBounds_toArray, List.set_cons_zero, List.set_cons_succ]
        refine wpAny_take (i := 6) (v := ?_) rfl (by kernel_rfl) (by kernel_rfl) (by kernel_rfl) (fun _ _ _ h => h) (Or.inl ⟨by rfl, ?_⟩) ?_
        rotate_left
        · (intro w; go_simp; try with_reducible rfl)
        try simp only [Act.put, List.setIfInBounds_toArray, List.set_cons_zero, List.set_cons_succ]
        refine wpAny_take (i := 7) (v := ?_) rfl (by kernel_rfl) (by kernel_rfl) (by kernel_rfl) (fun _ _ _ h => h) (Or.inl ⟨by rfl, ?_⟩) ?_
        rotate_left
        · (intro w; go_simp; try with_reducible rfl)
        try simp only [Act.put, List.setIfInBounds_toArray, List.set_cons_zero, List.set_cons_succ]
        refine wpAny_ready (rs := [8]) (by kernel_rfl) (by simp) ?_
        refine AllReady.cons rfl (fun K hK => ?_) AllReady.nil
        go_simp
        refine hK _ _ ?_
        clear hK K
        try simp only [Act.put, List.setIfInBounds_toArray, List.set_cons_zero, List.set_cons_succ]
        refine wpAny_ready (rs := [9]) (by kernel_rfl) (by simp) ?_
        refine AllReady.cons rfl (fun K hK => ?_) AllReady.nil
        go_simp
        refine C3.mono ?_
        rintro e w7 ⟨A7, k7, rfl, ho7, hb7⟩
        obtain ⟨q1, q3⟩ := KS w7 ((Below.refl _ wr).drew.trans hb7)
        have q2 : w7.cell? ⟨g2, i * 13 + 12, none⟩ = some (.slice o.A o.l.length o.c) := (World.cell?_of_block (w := wr) (((Below.refl _ wr).drew.trans hb7).block _ hgb.2)).trans e12
        refine hK _ _ ?_
        clear hK K
        try simp only [Act.put, List.setIfInBounds_toArray, List.set_cons_zero, List.set_cons_succ]
        refine wpAny_take (i := 10) (v := ?_) rfl (by kernel_rfl) (by kernel_rfl) (by kernel_rfl) (fun _ _ _ h => h) (Or.inl ⟨by rfl, ?_⟩) ?_
        rotate_left
        · (intro w; go_simp; try with_reducible rfl)
        try simp only [Act.put, List.setIfInBounds_toArray, List.set_cons_zero, List.set_cons_succ]
        refine wpAny_take (i := 11) (v := ?_) rfl (by kernel_rfl) (by kernel_rfl) (by kernel_rfl) (fun _ _ _ h => h) (Or.inl ⟨by rfl, ?_⟩) ?_
        rotate_left
        · (intro w; go_simp; try with_reducible rfl)
        try simp only [Act.put, List.setIfInBounds_toArray, List.set_cons_zero, List.set_cons_succ]
        refine wpAny_ready (rs := [12]) (by kernel_rfl) (by simp) ?_
        refine AllReady.cons rfl (fun K hK => ?_) AllReady.nil
        go_simp
        refine hK _ _ ?_
        clear hK K
        try simp only [Act.put, List.setIfInBounds_toArray, List.set_cons_zero, List.set_cons_succ]
        refine wpAny_done (by kernel_rfl) ?_ _
        have hb8 : Below wr.heap.size wr w7 := (Below.refl _ wr).drew.trans hb7
        have hne : w.heap.size ≠ g2 ∧ w.heap.size + 1 ≠ g2 := by omega
        have hsz : (w7.setCell ⟨g2, i * 13 + 12, none⟩ (.slice A7 o.l.length k7)).heap.size = w7.heap.size := by simp
        have HU2 : Hid (OpsUp w (w7.setCell ⟨g2, i * 13 + 12, none⟩ (.slice A7 o.l.length k7)) c.ops (os.set i { o with A := A7, c := k7 }) (i + 1) g2) := by
          refine HU.out.step HOS.out (by rw [hsz]; exact hb8.size) (fun k _ h2 h3 => (Below.heap_setCell _ _ _ _ h3).trans (hb8.block k h2)) ?_
          obtain ⟨A', c', hv, -, -, hr⟩ := Reads.of_own ho7
          simp only [Value.slice.injEq, true_and] at hv
          obtain ⟨rfl, rfl⟩ := hv
          have hbd : ∀ k, (Value.slice A7 o.l.length k7).ownBlock = some k → wr.heap.size ≤ k ∧ k < w7.heap.size := fun k hk => own_lt ho7 hk
          refine (hr.keep fun k hk => Below.heap_setCell _ _ _ _ (by have := hbd k hk; show k ≠ g2; omega)).more fun k hk => ?_
          have := hbd k hk
          rw [hsz]
          have := HQR.out.lt
          exact ⟨by omega, by omega, by omega⟩
        have HQ2 := Lib.hid ((HQ.out.keep (hb8.block _ HQ.out.lt)).far (p := ⟨g2, i * 13 + 12, none⟩) hne.1 (.slice A7 o.l.length k7))
        have HQR2 := Lib.hid ((HQR.out.keep (hb8.block _ HQR.out.lt)).far (p := ⟨g2, i * 13 + 12, none⟩) hne.2 (.slice A7 o.l.length k7))
        have HO3 : Hid ((w7.setCell ⟨g2, i * 13 + 12, none⟩ (.slice A7 o.l.length k7)).ownsRow (w.heap.size + 2) 25 2 (.slice A1 c.deps.length k1) c.deps.length (refC c.deps)) :=
          own_keep (own_below HO1.out hb8) fun k hk => Below.heap_setCell _ _ _ _ fun e => HNE.out k hk (by rw [show k = g2 from e]; simp [Value.ownBlock])
        have HO4 : Hid ((w7.setCell ⟨g2, i * 13 + 12, none⟩ (.slice A7 o.l.length k7)).ownsRow (w.heap.size + 2) 87 13 (.slice (some ⟨g2, 0, none⟩) n k2) n (opsC (os.set i { o with A := A7, c := k7 }))) := by
          show World.ownsRow _ _ _ _ _ _ _
          rw [← opsC_set os i o A7 k7 HOS.out]
          exact ((own_below HO2.out hb8).stored (i * 13 + 12) _).1
        have HW2 : Hid (Below w.heap.size w (w7.setCell ⟨g2, i * 13 + 12, none⟩ (.slice A7 o.l.length k7))) := (HW.out.trans (hb8.mono HW.out.size)).setCell (by show w.heap.size ≤ g2; omega) _
        clear q1 q2 q3 KS C3 c4 e12 f12 ho7 hb7 hb8 hsz
        go_wp2_with fail
        first
          | exact ⟨⟨i + 1, _, by go_num, by omega, HU2, HQ2, HQR2, HO3, HO4, HW2⟩, by simp [intOf]; omega⟩
          | (go_roundw
             case rel => exact ⟨i + 1, _, by go_num, by omega, HU2, HQ2, HQR2, HO3, HO4, HW2⟩
             case measure => simp [intOf]; omega)
      · skip
        go_simp
        refine hK _ _ ?_
        clear hK K
        try simp only [Act.put, List.setIfInBounds_toArray, List.set_cons_zero, List.set_cons_succ]
        refine wpAny_take (i := 6) (v := ?_) rfl (by kernel_rfl) (by kernel_rfl) (by kernel_rfl) (fun _ _ _ h => h) (Or.inl ⟨by rfl, ?_⟩) ?_
        rotate_left
        · (intro w; go_simp; try with_reducible rfl)
        try simp only [Act.put, List.setIfInBounds_toArray, List.set_cons_zero, List.set_cons_succ]
        refine wpAny_take (i := 7) (v := ?_) rfl (by kernel_rfl) (by kernel_rfl) (by kernel_rfl) (fun _ _ _ h => h) (Or.inl ⟨by rfl, ?_⟩) ?_
        rotate_left
        · (intro w; go_simp; try with_reducible rfl)
        try simp only [Act.put, List.setIfInBounds_toArray, List.set_cons_zero, List.set_cons_succ]
        refine wpAny_ready (rs := [1, 8]) (by kernel_rfl) (by simp) ?_
        refine AllReady.cons rfl (fun K hK => ?_) (AllReady.cons rfl (fun K hK => ?_) AllReady.nil)
        · skip
          go_simp
          refine hK _ _ ?_
          clear hK K
          try simp only [Act.put, List.setIfInBounds_toArray, List.set_cons_zero, List.set_cons_succ]
          refine wpAny_ready (rs := [8]) (by kernel_rfl) (by simp) ?_
          refine AllReady.cons rfl (fun K hK => ?_) AllReady.nil
          go_simp
          refine hK _ _ ?_
          clear hK K
          try simp only [Act.put, List.setIfInBounds_toArray, List.set_cons_zero, List.set_cons_succ]
          refine wpAny_ready (rs := [9]) (by kernel_rfl) (by simp) ?_
          refine AllReady.cons rfl (fun K hK => ?_) AllReady.nil
          go_simp
          refine C3.mono ?_
          rintro e w7 ⟨A7, k7, rfl, ho7, hb7⟩
          obtain ⟨q1, q3⟩ := KS w7 ((Below.refl _ wr).drew.trans hb7)
          have q2 : w7.cell? ⟨g2, i * 13 + 12, none⟩ = some (.slice o.A o.l.length o.c) := (World.cell?_of_block (w := wr) (((Below.refl _ wr).drew.trans hb7).block _ hgb.2)).trans e12
          refine hK _ _ ?_
          clear hK K
          try simp only [Act.put, List.setIfInBounds_toArray, List.set_cons_zero, List.set_cons_succ]
          refine wpAny_take (i := 10) (v := ?_) rfl (by kernel_rfl) (by kernel_rfl) (by kernel_rfl) (fun _ _ _ h => h) (Or.inl ⟨by rfl, ?_⟩) ?_
          rotate_left
          · (intro w; go_simp; try with_reducible rfl)
          try simp only [Act.put, List.setIfInBounds_toArray, List.set_cons_zero, List.set_cons_succ]
          refine wpAny_take (i := 11) (v := ?_) rfl (by kernel_rfl) (by kernel_rfl) (by kernel_rfl) (fun _ _ _ h => h) (Or.inl ⟨by rfl, ?_⟩) ?_
          rotate_left
          · (intro w; go_simp; try with_reducible rfl)
          try simp only [Act.put, List.setIfInBounds_toArray, List.set_cons_zero, List.set_cons_succ]
          refine wpAny_ready (rs := [12]) (by kernel_rfl) (by simp) ?_
          refine AllReady.cons rfl (fun K hK => ?_) AllReady.nil
          go_simp
          refine hK _ _ ?_
          clear hK K
          try simp only [Act.put, List.setIfInBounds_toArray, List.set_cons_zero, List.set_cons_succ]
          refine wpAny_done (by kernel_rfl) ?_ _
          have hb8 : Below wr.heap.size wr w7 := (Below.refl _ wr).drew.trans hb7
          have hne : w.heap.size ≠ g2 ∧ w.heap.size + 1 ≠ g2 := by omega
          have hsz : (w7.setCell ⟨g2, i * 13 + 12, none⟩ (.slice A7 o.l.length k7)).heap.size = w7.heap.size := by simp
          have HU2 : Hid (OpsUp w (w7.setCell ⟨g2, i * 13 + 12, none⟩ (.slice A7 o.l.length k7)) c.ops (os.set i { o with A := A7, c := k7 }) (i + 1) g2) := by
            refine HU.out.step HOS.out (by rw [hsz]; exact hb8.size) (fun k _ h2 h3 => (Below.heap_setCell _ _ _ _ h3).trans (hb8.block k h2)) ?_
            obtain ⟨A', c', hv, -, -, hr⟩ := Reads.of_own ho7
            simp only [Value.slice.injEq, true_and] at hv
            obtain ⟨rfl, rfl⟩ := hv
            have hbd : ∀ k, (Value.slice A7 o.l.length k7).ownBlock = some k → wr.heap.size ≤ k ∧ k < w7.heap.size := fun k hk => own_lt ho7 hk
            refine (hr.keep fun k hk => Below.heap_setCell _ _ _ _ (by have := hbd k hk; show k ≠ g2; omega)).more fun k hk => ?_
            have := hbd k hk
            rw [hsz]
            have := HQR.out.lt
            exact ⟨by omega, by omega, by omega⟩
          have HQ2 := Lib.hid ((HQ.out.keep (hb8.block _ HQ.out.lt)).far (p := ⟨g2, i * 13 + 12, none⟩) hne.1 (.slice A7 o.l.length k7))
          have HQR2 := Lib.hid ((HQR.out.keep (hb8.block _ HQR.out.lt)).far (p := ⟨g2, i * 13 + 12, none⟩) hne.2 (.slice A7 o.l.length k7))
          have HO3 : Hid ((w7.setCell ⟨g2, i * 13 + 12, none⟩ (.slice A7 o.l.length k7)).ownsRow (w.heap.size + 2) 25 2 (.slice A1 c.deps.length k1) c.deps.length (refC c.deps)) :=
            own_keep (own_below HO1.out hb8) fun k hk => Below.heap_setCell _ _ _ _ fun e => HNE.out k hk (by rw [show k = g2 from e]; simp [Value.ownBlock])
          have HO4 : Hid ((w7.setCell ⟨g2, i * 13 + 12, none⟩ (.slice A7 o.l.length k7)).ownsRow (w.heap.size + 2) 87 13 (.slice (some ⟨g2, 0, none⟩) n k2) n (opsC (os.set i { o with A := A7, c := k7 }))) := by
            show World.ownsRow _ _ _ _ _ _ _
            rw [← opsC_set os i o A7 k7 HOS.out]
            exact ((own_below HO2.out hb8).stored (i * 13 + 12) _).1
          have HW2 : Hid (Below w.heap.size w (w7.setCell ⟨g2, i * 13 + 12, none⟩ (.slice A7 o.l.length k7))) := (HW.out.trans (hb8.mono HW.out.size)).setCell (by show w.heap.size ≤ g2; omega) _
          clear q1 q2 q3 KS C3 c4 e12 f12 ho7 hb7 hb8 hsz
          go_wp2_with fail
          first
            | exact ⟨⟨i + 1, _, by go_num, by omega, HU2, HQ2, HQR2, HO3, HO4, HW2⟩, by simp [intOf]; omega⟩
            | (go_roundw
               case rel => exact ⟨i + 1, _, by go_num, by omega, HU2, HQ2, HQR2, HO3, HO4, HW2⟩
               case measure => simp [intOf]; omega)
        · skip
          go_simp
          refine hK _ _ ?_
          clear hK K
          try simp only [Act.put, List.setIfInBounds_toArray, List.set_cons_zero, List.set_cons_succ]
          refine wpAny_ready (rs := [1, 9]) (by kernel_rfl) (by simp) ?_
          refine AllReady.cons rfl (fun K hK => ?_) (AllReady.cons rfl (fun K hK => ?_) AllReady.nil)
          · skip
            go_simp
            refine hK _ _ ?_
            clear hK K
            try simp only [Act.put, List.setIfInBounds_toArray, List.set_cons_zero, List.set_cons_succ]
            refine wpAny_ready (rs := [9]) (by kernel_rfl) (by simp) ?_
            refine AllReady.cons rfl (fun K hK => ?_) AllReady.nil
            go_simp
            refine C3.mono ?_
            rintro e w7 ⟨A7, k7, rfl, ho7, hb7⟩
            obtain ⟨q1, q3⟩ := KS w7 ((Below.refl _ wr).drew.trans hb7)
            have q2 : w7.cell? ⟨g2, i * 13 + 12, none⟩ = some (.slice o.A o.l.length o.c) := (World.cell?_of_block (w := wr) (((Below.refl _ wr).drew.trans hb7).block _ hgb.2)).trans e12
            refine hK _ _ ?_
            clear hK K
            try simp only [Act.put, List.setIfInBounds_toArray, List.set_cons_zero, List.set_cons_succ]
            refine wpAny_take (i := 10) (v := ?_) rfl (by kernel_rfl) (by kernel_rfl) (by kernel_rfl) (fun _ _ _ h => h) (Or.inl ⟨by rfl, ?_⟩) ?_
            rotate_left
            · (intro w; go_simp; try with_reducible rfl)
            try simp only [Act.put, List.setIfInBounds_toArray, List.set_cons_zero, List.set_cons_succ]
            refine wpAny_take (i := 11) (v := ?_) rfl (by kernel_rfl) (by kernel_rfl) (by kernel_rfl) (fun _ _ _ h => h) (Or.inl ⟨by rfl, ?_⟩) ?_
            rotate_left
            · (intro w; go_simp; try with_reducible rfl)
            try simp only [Act.put, List.setIfInBounds_toArray, List.set_cons_zero, List.set_cons_succ]
            refine wpAny_ready (rs := [12]) (by kernel_rfl) (by simp) ?_
            refine AllReady.cons rfl (fun K hK => ?_) AllReady.nil
            go_simp
            refine hK _ _ ?_
            clear hK K
            try simp only [Act.put, List.setIfInBounds_toArray, List.set_cons_zero, List.set_cons_succ]
            refine wpAny_done (by kernel_rfl) ?_ _
            have hb8 : Below wr.heap.size wr w7 := (Below.refl _ wr).drew.trans hb7
            have hne : w.heap.size ≠ g2 ∧ w.heap.size + 1 ≠ g2 := by omega
            have hsz : (w7.setCell ⟨g2, i * 13 + 12, none⟩ (.slice A7 o.l.length k7)).heap.size = w7.heap.size := by simp
            have HU2 : Hid (OpsUp w (w7.setCell ⟨g2, i * 13 + 12, none⟩ (.slice A7 o.l.length k7)) c.ops (os.set i { o with A := A7, c := k7 }) (i + 1) g2) := by
              refine HU.out.step HOS.out (by rw [hsz]; exact hb8.size) (fun k _ h2 h3 => (Below.heap_setCell _ _ _ _ h3).trans (hb8.block k h2)) ?_
              obtain ⟨A', c', hv, -, -, hr⟩ := Reads.of_own ho7
              simp only [Value.slice.injEq, true_and] at hv
              obtain ⟨rfl, rfl⟩ := hv
              have hbd : ∀ k, (Value.slice A7 o.l.length k7).ownBlock = some k → wr.heap.size ≤ k ∧ k < w7.heap.size := fun k hk => own_lt ho7 hk
              refine (hr.keep fun k hk => Below.heap_setCell _ _ _ _ (by have := hbd k hk; show k ≠ g2; omega)).more fun k hk => ?_
              have := hbd k hk
              rw [hsz]
              have := HQR.out.lt
              exact ⟨by omega, by omega, by omega⟩
            have HQ2 := Lib.hid ((HQ.out.keep (hb8.block _ HQ.out.lt)).far (p := ⟨g2, i * 13 + 12, none⟩) hne.1 (.slice A7 o.l.length k7))
            have HQR2 := Lib.hid ((HQR.out.keep (hb8.block _ HQR.out.lt)).far (p := ⟨g2, i * 13 + 12, none⟩) hne.2 (.slice A7 o.l.length k7))
            have HO3 : Hid ((w7.setCell ⟨g2, i * 13 + 12, none⟩ (.slice A7 o.l.length k7)).ownsRow (w.heap.size + 2) 25 2 (.slice A1 c.deps.length k1) c.deps.length (refC c.deps)) :=
              own_keep (own_below HO1.out hb8) fun k hk => Below.heap_setCell _ _ _ _ fun e => HNE.out k hk (by rw [show k = g2 from e]; simp [Value.ownBlock])
            have HO4 : Hid ((w7.setCell ⟨g2, i * 13 + 12, none⟩ (.slice A7 o.l.length k7)).ownsRow (w.heap.size + 2) 87 13 (.slice (some ⟨g2, 0, none⟩) n k2) n (opsC (os.set i { o with A := A7, c := k7 }))) := by
              show World.ownsRow _ _ _ _ _ _ _
              rw [← opsC_set os i o A7 k7 HOS.out]
              exact ((own_below HO2.out hb8).stored (i * 13 + 12) _).1
            have HW2 : Hid (Below w.heap.size w (w7.setCell ⟨g2, i * 13 + 12, none⟩ (.slice A7 o.l.length k7))) := (HW.out.trans (hb8.mono HW.out.size)).setCell (by show w.heap.size ≤ g2; omega) _
            clear q1 q2 q3 KS C3 c4 e12 f12 ho7 hb7 hb8 hsz
            go_wp2_with fail
            first
              | exact ⟨⟨i + 1, _, by go_num, by omega, HU2, HQ2, HQR2, HO3, HO4, HW2⟩, by simp [intOf]; omega⟩
              | (go_roundw
                 case rel => exact ⟨i + 1, _, by go_num, by omega, HU2, HQ2, HQR2, HO3, HO4, HW2⟩
                 case measure => simp [intOf]; omega)
          · skip
            go_simp
            refine C3.mono ?_
            rintro e w7 ⟨A7, k7, rfl, ho7, hb7⟩
            obtain ⟨q1, q3⟩ := KS w7 ((Below.refl _ wr).drew.trans hb7)
            have q2 : w7.cell? ⟨g2, i * 13 + 12, none⟩ = some (.slice o.A o.l.length o.c) := (World.cell?_of_block (w := wr) (((Below.refl _ wr).drew.trans hb7).block _ hgb.2)).trans e12
            refine hK _ _ ?_
            clear hK K
            try simp only [Act.put, List.setIfInBounds_toArray, List.set_cons_zero, List.set_cons_succ]
            refine wpAny_ready (rs := [1]) (by kernel_rfl) (by simp) ?_
            refine AllReady.cons rfl (fun K hK => ?_) AllReady.nil
            go_simp
            refine hK _ _ ?_
            clear hK K
            try simp only [Act.put, List.setIfInBounds_toArray, List.set_cons_zero, List.set_cons_succ]
            refine wpAny_take (i := 10) (v := ?_) rfl (by kernel_rfl) (by kernel_rfl) (by kernel_rfl) (fun _ _ _ h => h) (Or.inl ⟨by rfl, ?_⟩) ?_
            rotate_left
            · (intro w; go_simp; try with_reducible rfl)
            try simp only [Act.put, List.setIfInBounds_toArray, List.set_cons_zero, List.set_cons_succ]
            refine wpAny_take (i := 11) (v := ?_) rfl (by kernel_rfl) (by kernel_rfl) (by kernel_rfl) (fun _ _ _ h => h) (Or.inl ⟨by rfl, ?_⟩) ?_
            rotate_left
            · (intro w; go_simp; try with_reducible rfl)
            try simp only [Act.put, List.setIfInBounds_toArray, List.set_cons_zero, List.set_cons_succ]
            refine wpAny_ready (rs := [12]) (by kernel_rfl) (by simp) ?_
            refine AllReady.cons rfl (fun K hK => ?_) AllReady.nil
            go_simp
            refine hK _ _ ?_
            clear hK K
            try simp only [Act.put, List.setIfInBounds_toArray, List.set_cons_zero, List.set_cons_succ]
            refine wpAny_done (by kernel_rfl) ?_ _
            have hb8 : Below wr.heap.size wr w7 := (Below.refl _ wr).drew.trans hb7
            have hne : w.heap.size ≠ g2 ∧ w.heap.size + 1 ≠ g2 := by omega
            have hsz : (w7.setCell ⟨g2, i * 13 + 12, none⟩ (.slice A7 o.l.length k7)).heap.size = w7.heap.size := by simp
            have HU2 : Hid (OpsUp w (w7.setCell ⟨g2, i * 13 + 12, none⟩ (.slice A7 o.l.length k7)) c.ops (os.set i { o with A := A7, c := k7 }) (i + 1) g2) := by
              refine HU.out.step HOS.out (by rw [hsz]; exact hb8.size) (fun k _ h2 h3 => (Below.heap_setCell _ _ _ _ h3).trans (hb8.block k h2)) ?_
              obtain ⟨A', c', hv, -, -, hr⟩ := Reads.of_own ho7
              simp only [Value.slice.injEq, true_and] at hv
              obtain ⟨rfl, rfl⟩ := hv
              have hbd : ∀ k, (Value.slice A7 o.l.length k7).ownBlock = some k → wr.heap.size ≤ k ∧ k < w7.heap.size := fun k hk => own_lt ho7 hk
              refine (hr.keep fun k hk => Below.heap_setCell _ _ _ _ (by have := hbd k hk; show k ≠ g2; omega)).more fun k hk => ?_
              have := hbd k hk
              rw [hsz]
              have := HQR.out.lt
              exact ⟨by omega, by omega, by omega⟩
            have HQ2 := Lib.hid ((HQ.out.keep (hb8.block _ HQ.out.lt)).far (p := ⟨g2, i * 13 + 12, none⟩) hne.1 (.slice A7 o.l.length k7))
            have HQR2 := Lib.hid ((HQR.out.keep (hb8.block _ HQR.out.lt)).far (p := ⟨g2, i * 13 + 12, none⟩) hne.2 (.slice A7 o.l.length k7))
            have HO3 : Hid ((w7.setCell ⟨g2, i * 13 + 12, none⟩ (.slice A7 o.l.length k7)).ownsRow (w.heap.size + 2) 25 2 (.slice A1 c.deps.length k1) c.deps.length (refC c.deps)) :=
              own_keep (own_below HO1.out hb8) fun k hk => Below.heap_setCell _ _ _ _ fun e => HNE.out k hk (by rw [show k = g2 from e]; simp [Value.ownBlock])
            have HO4 : Hid ((w7.setCell ⟨g2, i * 13 + 12, none⟩ (.slice A7 o.l.length k7)).ownsRow (w.heap.size + 2) 87 13 (.slice (some ⟨g2, 0, none⟩) n k2) n (opsC (os.set i { o with A := A7, c := k7 }))) := by
              show World.ownsRow _ _ _ _ _ _ _
              rw [← opsC_set os i o A7 k7 HOS.out]
              exact ((own_below HO2.out hb8).stored (i * 13 + 12) _).1
            have HW2 : Hid (Below w.heap.size w (w7.setCell ⟨g2, i * 13 + 12, none⟩ (.slice A7 o.l.length k7))) := (HW.out.trans (hb8.mono HW.out.size)).setCell (by show w.heap.size ≤ g2; omega) _
            clear q1 q2 q3 KS C3 c4 e12 f12 ho7 hb7 hb8 hsz
            go_wp2_with fail
            first
              | exact ⟨⟨i + 1, _, by go_num, by omega, HU2, HQ2, HQR2, HO3, HO4, HW2⟩, by simp [intOf]; omega⟩
              | (go_roundw
                 case rel => exact ⟨i + 1, _, by go_num, by omega, HU2, HQ2, HQR2, HO3, HO4, HW2⟩
                 case measure => simp [intOf]; omega)
    · have hin : i = n := by omega
      have HOL : Hid (os.length = n) := by show _ = _; rw [HU.out.len, HN.out]
      have c0 : wr.cell? ⟨w.heap.size, 0, none⟩ = some (.int .i64 c.a) := HQ.out.cell 0
      have c1 : wr.cell? ⟨w.heap.size, 1, none⟩ = some (.int .i64 c.s) := HQ.out.cell 1
      have c2 : wr.cell? ⟨w.heap.size, 2, none⟩ = some (.int .i64 c.st) := HQ.out.cell 2
      have c3 : wr.cell? ⟨w.heap.size, 3, none⟩ = some (.slice A1 c.deps.length k1) := HQ.out.cell 3
      have c4 : wr.cell? ⟨w.heap.size, 4, none⟩ = some (.slice A2 n k2) := HQ.out.cell 4
      have r0 : wr.cell? ⟨w.heap.size + 1, 0, none⟩ = some (.int .i64 0) := HQR.out.cell 0
      have r1 : wr.cell? ⟨w.heap.size + 1, 1, none⟩ = some (.int .i64 0) := HQR.out.cell 1
      have r2 : wr.cell? ⟨w.heap.size + 1, 2, none⟩ = some (.int .i64 0) := HQR.out.cell 2
      have r3 : wr.cell? ⟨w.heap.size + 1, 3, none⟩ = some (.slice none 0 0) := HQR.out.cell 3
      have r4 : wr.cell? ⟨w.heap.size + 1, 4, none⟩ = some (.slice none 0 0) := HQR.out.cell 4
      have f0 : wr.frozen? ⟨w.heap.size + 1, 0, none⟩ = false := HQR.out.frozen 0
      have f1 : wr.frozen? ⟨w.heap.size + 1, 1, none⟩ = false := HQR.out.frozen 1
      have f2 : wr.frozen? ⟨w.heap.size + 1, 2, none⟩ = false := HQR.out.frozen 2
      have f3 : wr.frozen? ⟨w.heap.size + 1, 3, none⟩ = false := HQR.out.frozen 3
      have f4 : wr.frozen? ⟨w.heap.size + 1, 4, none⟩ = false := HQR.out.frozen 4
      go_wp2_with fail
      have HF : Hid (Blk (((((wr.setCell ⟨w.heap.size + 1, 0, none⟩ (.int .i64 c.a)).setCell ⟨w.heap.size + 1, 1, none⟩ (.int .i64 c.s)).setCell ⟨w.heap.size + 1, 2, none⟩ (.int .i64 c.st)).setCell ⟨w.heap.size + 1, 3, none⟩ (.slice A1 c.deps.length k1)).setCell ⟨w.heap.size + 1, 4, none⟩ (.slice A2 n k2)) (w.heap.size + 1) 34 #[.int .i64 c.a, .int .i64 c.s, .int .i64 c.st, .slice A1 c.deps.length k1, .slice A2 n k2]) := ((((HQR.out.set_ 0 _).set_ 1 _).set_ 2 _).set_ 3 _).set_ 4 _
      have hother : ∀ k, k ≠ w.heap.size + 1 → (((((wr.setCell ⟨w.heap.size + 1, 0, none⟩ (.int .i64 c.a)).setCell ⟨w.heap.size + 1, 1, none⟩ (.int .i64 c.s)).setCell ⟨w.heap.size + 1, 2, none⟩ (.int .i64 c.st)).setCell ⟨w.heap.size + 1, 3, none⟩ (.slice A1 c.deps.length k1)).setCell ⟨w.heap.size + 1, 4, none⟩ (.slice A2 n k2)).heap[k]? = wr.heap[k]? := fun k hk => by
        rw [Below.heap_setCell _ _ _ _ hk, Below.heap_setCell _ _ _ _ hk, Below.heap_setCell _ _ _ _ hk, Below.heap_setCell _ _ _ _ hk, Below.heap_setCell _ _ _ _ hk]
      have hsz : (((((wr.setCell ⟨w.heap.size + 1, 0, none⟩ (.int .i64 c.a)).setCell ⟨w.heap.size + 1, 1, none⟩ (.int .i64 c.s)).setCell ⟨w.heap.size + 1, 2, none⟩ (.int .i64 c.st)).setCell ⟨w.heap.size + 1, 3, none⟩ (.slice A1 c.deps.length k1)).setCell ⟨w.heap.size + 1, 4, none⟩ (.slice A2 n k2)).heap.size = wr.heap.size := by simp
      have HWF : Hid (Below w.heap.size w (((((wr.setCell ⟨w.heap.size + 1, 0, none⟩ (.int .i64 c.a)).setCell ⟨w.heap.size + 1, 1, none⟩ (.int .i64 c.s)).setCell ⟨w.heap.size + 1, 2, none⟩ (.int .i64 c.st)).setCell ⟨w.heap.size + 1, 3, none⟩ (.slice A1 c.deps.length k1)).setCell ⟨w.heap.size + 1, 4, none⟩ (.slice A2 n k2))) := by
        show Below _ _ _
        have h : w.heap.size ≤ w.heap.size + 1 := Nat.le_succ _
        exact ((((HW.out.setCell h _).setCell h _).setCell h _).setCell h _).setCell h _
      clear r0 r1 r2 r3 r4 f0 f1 f2 f3 f4 c0 c1 c2 c3 c4
      generalize ((((wr.setCell ⟨w.heap.size + 1, 0, none⟩ (.int .i64 c.a)).setCell ⟨w.heap.size + 1, 1, none⟩ (.int .i64 c.s)).setCell ⟨w.heap.size + 1, 2, none⟩ (.int .i64 c.st)).setCell ⟨w.heap.size + 1, 3, none⟩ (.slice A1 c.deps.length k1)).setCell ⟨w.heap.size + 1, 4, none⟩ (.slice A2 n k2) = wf at HF hother hsz HWF ⊢
      have v0 : wf.cell? ⟨w.heap.size + 1, 0, none⟩ = some (.int .i64 c.a) := HF.out.cell 0
      have v1 : wf.cell? ⟨w.heap.size + 1, 1, none⟩ = some (.int .i64 c.s) := HF.out.cell 1
      have v2 : wf.cell? ⟨w.heap.size + 1, 2, none⟩ = some (.int .i64 c.st) := HF.out.cell 2
      have v3 : wf.cell? ⟨w.heap.size + 1, 3, none⟩ = some (.slice A1 c.deps.length k1) := HF.out.cell 3
      have v4 : wf.cell? ⟨w.heap.size + 1, 4, none⟩ = some (.slice A2 n k2) := HF.out.cell 4
      refine bodyPost_ret (v := .agg #[.int .i64 c.a, .int .i64 c.s, .int .i64 c.st, .slice A1 c.deps.length k1, .slice A2 n k2]) ?_ rfl ⟨{ c with DA := A1, DC := k1, ops := os, OA := A2, OC := k2 }, by show _ = Ending.returned (.agg #[.int .i64 c.a, .int .i64 c.s, .int .i64 c.st, .slice A1 c.deps.length k1, .slice A2 os.length k2]); rw [HOL.out], ?_, ?_, HWF.out⟩
      · simp only [results, hres]
        go_simp
      · show ({ c with DA := none, DC := 0, ops := os.map base, OA := none, OC := 0 } : ChD) = { c with DA := none, DC := 0, ops := c.ops.map base, OA := none, OC := 0 }
        rw [HU.out.bs]
      · have keep : ∀ k, w.heap.size + 2 ≤ k → wf.heap[k]? = wr.heap[k]? := fun k hk => hother k (by omega)
        refine ⟨?_, HC.out.hdl, ?_, by show os.length ≤ _; rw [HOL.out]; omega, fun o ho => ?_⟩
        · obtain ⟨A', c', hv, -, -, hr⟩ := Reads.of_own HO1.out
          simp only [Value.slice.injEq, true_and] at hv
          obtain ⟨rfl, rfl⟩ := hv
          refine (hr.keep fun k hk => keep k (own_lt HO1.out hk).1).more fun k hk => ?_
          have := own_lt HO1.out hk
          exact ⟨by omega, by rw [hsz]; omega⟩
        · obtain ⟨A', c', hv, -, -, hr⟩ := Reads.of_own HO2.out
          simp only [Value.slice.injEq, true_and] at hv
          obtain ⟨rfl, rfl⟩ := hv
          show Reads _ _ _ _ os.length _
          rw [HOL.out]
          refine (hr.keep fun k hk => keep k (own_lt HO2.out hk).1).more fun k hk => ?_
          have := own_lt HO2.out hk
          exact ⟨by omega, by rw [hsz]; omega⟩
        · obtain ⟨j, hj⟩ := List.getElem?_of_mem ho
          have hjn : j < i := by have := (List.getElem?_eq_some_iff.1 hj).1; rw [show os.length = n from HOL.out] at this; omega
          have hr := HU.out.new_ j o hjn hj
          refine ⟨(hr.keep fun k hk => keep k hk.1).more fun k hk => ⟨by have := hk.1; omega, by rw [hsz]; exact hk.2.1⟩, ?_⟩
          have hb : os.map base = c.ops.map base := HU.out.bs
          have hm : base o ∈ c.ops.map base := by rw [← hb]; exact List.mem_map.2 ⟨o, ho, rfl⟩
          obtain ⟨o', ho', he⟩ := List.mem_map.1 hm
          have hl : o.l = o'.l := (congrArg OpD.l he).symm
          rw [hl]
          have := HH.out o' ho'
          omega
end Go.Proofs.YtclgfcjcpbiadaaGreatDoor
