/- Contracts of the program's books: Behind. -/
import Derived.Test.YtclgfcjcpbiadaaGreatDoorDag20
set_option linter.unusedVariables false
set_option linter.unusedSimpArgs false
namespace Go.Proofs.YtclgfcjcpbiadaaGreatDoor
open Go.ChangeShapes Go.WideShapes Go.ChangeAt Go.RowKit

theorem PB.look {w : World} {g bh bw bb : Nat} {X : List (ChD × Nat × List Rf)} {W : List ChD} (h : PB w g bh bw bb X W) {x : ChD × Nat × List Rf} (hx : x ∈ X) (r1 r2 : Int) (he : x.1.rf = (r1, r2)) :
    (Instr.lookup 58 (.map (some bb)) (.agg #[.int .i64 r1, .int .i64 r2]) false).run Tryz.prog w = .ok (.map (some x.2.1)) w :=
  MapL.hit h.mb keyed_ref Tryz.underlying58 (zero_mapb w) (List.mem_map.2 ⟨x, hx, by rw [he]; rfl⟩) false
/-- what Behind answers -/
def BehindR (L : List ChD) (hs : List Rf) (e : Ending) (w' : World) : Prop :=
  ((∀ r ∈ hs, r ∈ refsOf L) ∧ ∃ A c S, e = .returned (.tuple #[.slice A S.length c, .nilIface]) ∧ AscW S ∧ S.Nodup ∧ (∀ r, r ∈ S ↔ r ∈ behindP L hs) ∧ S.length ≤ 1000 ∧ Reads (fun k => k < w'.heap.size) w' 2 A S.length (refC S)) ∨
  ((¬ ∀ r ∈ hs, r ∈ refsOf L) ∧ e = .returned (.tuple #[.slice none 0 0, errN 6]))
theorem sets_few {S : List Rf} {L : List ChD} {hs : List Rf} (hn : S.Nodup) (hl : L.length ≤ 1000) (h : ∀ r ∈ S, r ∈ behindP L hs) : S.length ≤ 1000 := by
  have h1 := nodup_le (m := refsOf L) hn fun r hr => behind_sub (h r hr)
  have h2 : (refsOf L).length = L.length := by simp [refsOf]
  omega
set_option maxHeartbeats 16000000 in
set_option maxRecDepth 20000 in
theorem behind_any (X : List (ChD × Nat × List Rf)) (W : List ChD) (hs : List Rf) (H : Option Addr) (hc : Nat) (g bh bw bb : Nat) (w : World) (hB : PB w g bh bw bb X W) (hr : Reads (fun k => k < w.heap.size) w 2 H hs.length (refC hs)) (hri : ∀ r ∈ hs, I64R r)
    (hhl : hs.length ≤ 1000000000000) (hk : Bk (X.map Prod.fst)) (hl : X.length ≤ 1000) :
    Calls Tryz.prog 16 #[.pointer (some ⟨g, 0, none⟩), .slice H hs.length hc] w fun e w' => BehindR (X.map Prod.fst) hs e w' ∧ Below w.heap.size w w' := by
  obtain ⟨L, hL⟩ : ∃ L, X.map Prod.fst = L := ⟨_, rfl⟩
  have HLX := Lib.hid hL
  have HLL : Hid (L.length ≤ 1000) := by show _ ≤ _; rw [← hL, List.length_map]; exact hl
  obtain ⟨nh, hnh⟩ : ∃ n, hs.length = n := ⟨_, rfl⟩
  have HNH := Lib.hid hnh
  have HB := Lib.hid hB
  rw [hL] at hk ⊢
  have HK := Lib.hid hk
  have HRI := Lib.hid hri
  rw [hnh] at hr hhl ⊢
  have HRD := Lib.hid hr
  clear hB hk hri hr hL hnh hl
  have hmm : ∀ (t : TypeId) (w : World), (Instr.makeMap t none).run Tryz.prog w = .ok (.map (some w.heap.size)) (w.alloc (.map #[] 0)) := fun _ _ => rfl
  have HS0 : Hid (ZM (w.alloc (.map #[] 0)) w.heap.size []) := ZM.made w
  have HW0 : Hid (Below w.heap.size w (w.alloc (.map #[] 0))) := (Below.refl _ w).alloc (Nat.le_refl _) _
  go_enter Tryz.func16, Tryz.ntmps16
  go_upto_region 2 with fail
  clear hmm
  generalize w.alloc (.map #[] 0) = V0 at HS0 HW0 ⊢
  obtain ⟨mk, hmk⟩ : ∃ m, w.heap.size = m := ⟨_, rfl⟩
  have HMK : Hid (w.heap.size = mk) := hmk
  rw [show (Value.map (some w.heap.size)) = .map (some mk) from by rw [hmk]]
  rw [hmk] at HS0
  clear hmk
  go_upto_region 3 with fail
  go_loopw [8, 9, 13] (fun _ _ s wr => ∃ (k : Nat) (S : List Rf), s = .int .i64 k ∧ k ≤ nh ∧ Hid (ZM wr mk S) ∧ Hid (∀ r, r ∈ S ↔ r ∈ behindP L (hs.take k)) ∧ Hid (∀ r ∈ hs.take k, r ∈ refsOf L) ∧ Hid (Chg (fun j => j = mk) V0 wr)) (fun _ _ s _ => nh - (intOf s).toNat)
  case atStart => exact ⟨0, [], rfl, by omega, HS0, (by show ∀ r, r ∈ ([] : List Rf) ↔ r ∈ behindP L (hs.take 0); intro r; rw [List.take_zero]; unfold behindP; rw [back_nil]), (by show ∀ r ∈ hs.take 0, _; simp), Lib.hid (Chg.refl _)⟩
  case round =>
    clear HS0
    obtain ⟨k, S, rfl, hk, HS, HM, HA, HC⟩ := hrel
    have HWr : Hid (Below w.heap.size w wr) := HW0.out.trans (HC.out.below HW0.out.size (fun k hk => by rw [hk]; exact Nat.le_of_eq HMK.out))
    by_cases hlt : k < nh
    · obtain ⟨d, hd⟩ : ∃ d, hs[k]? = some d := ⟨_, List.getElem?_eq_getElem (by rw [HNH.out]; exact hlt)⟩
      have HDM : Hid (∀ r, r ∈ behindP L (hs.take (k + 1)) ↔ r ∈ behindP L (hs.take k) ∨ r ∈ behindP L [d]) := fun r => behind_take hd r
      have HDA : Hid (∀ r, r ∈ hs.take (k + 1) ↔ r ∈ hs.take k ∨ r = d) := fun r => by
        rw [List.take_add_one, hd, Option.toList_some, List.mem_append, List.mem_singleton]
      have HDI : Hid (d ∈ hs) := List.mem_of_getElem? hd
      have HLT := Lib.hid hlt
      obtain ⟨bd, od, hA, hbl, hcd⟩ := (reads_below HRD.out HWr.out).at_ (by omega) (by omega)
      have p1 : wr.cell? ⟨bd, od + k * 2, none⟩ = some (.int .i64 d.1) := hcd _ _ (refC_at hd).1
      have p2 : wr.cell? ⟨bd, od + k * 2 + 1, none⟩ = some (.int .i64 d.2) := hcd _ _ (refC_at hd).2
      rw [hA]
      clear hcd hd hbl
      have HSa := Lib.hid (HS.out.keep (w' := wr.alloc (.cells #[.int .i64 d.1, .int .i64 d.2] 25)) (Below.heap_alloc _ _ _ (MapL.lt HS.out)))
      have HQa := Lib.hid (Blk.new wr 25 #[.int .i64 d.1, .int .i64 d.2])
      have HCa := Lib.hid (HC.out.alloc (.cells #[.int .i64 d.1, .int .i64 d.2] 25))
      have HWa : Hid (Below w.heap.size w (wr.alloc (.cells #[.int .i64 d.1, .int .i64 d.2] 25))) := HWr.out.alloc HWr.out.size _
      clear HS HC HWr
      go_upto_region 5 with fail
      generalize wr.alloc (.cells #[.int .i64 d.1, .int .i64 d.2] 25) = wa at HSa HQa HCa HWa ⊢
      generalize wr.heap.size = qa at HQa ⊢
      clear p1 p2
      have HPa := Lib.hid (HB.out.below HWa.out)
      have C1 := has_any L d (HRI.out d HDI.out) g bh (.map (some bw)) (.map (some bb)) wa HPa.out.blk (by have := HPa.out.mh; rw [HLX.out] at this; exact this)
      have d1 : wa.cell? ⟨qa, 0, none⟩ = some (.int .i64 d.1) := HQa.out.cell 0
      have d2 : wa.cell? ⟨qa, 1, none⟩ = some (.int .i64 d.2) := HQa.out.cell 1
      go_wp2_with fail
      go_at_call 9
      refine C1.mono ?_
      rintro e w2 ⟨rfl, hb⟩
      have HS2 := Lib.hid (HSa.out.keep (hb.block _ (MapL.lt HSa.out)))
      have HQ2 := Lib.hid (HQa.out.keep (hb.block _ HQa.out.lt))
      have HC2 : Hid (Chg (fun j => j = mk) V0 w2) := HCa.out.trans (Chg.of_below hb) fun _ _ h => h
      have HW2 : Hid (Below w.heap.size w w2) := HWa.out.trans (hb.mono HWa.out.size)
      clear C1 d1 d2 hb HSa HQa HCa HWa HPa
      by_cases hin : d ∈ refsOf L
      · have HIN := Lib.hid hin
        rw [show decide (d ∈ refsOf L) = true from decide_eq_true hin]
        have HP2 := Lib.hid (HB.out.below HW2.out)
        obtain ⟨x, hx, hxr⟩ := setAt_some (X := X) (r := d) (by rw [HLX.out]; exact hin)
        have HX := Lib.hid hx
        have HXR := Lib.hid hxr
        clear hx hxr hin
        have HSX := Lib.hid (HP2.out.sets x HX.out)
        go_upto_region 7 with fail
        have g2 : w2.cell? ⟨g, 2, none⟩ = some (.map (some bb)) := HP2.out.blk.cell 2
        have d1 : w2.cell? ⟨qa, 0, none⟩ = some (.int .i64 d.1) := HQ2.out.cell 0
        have d2 : w2.cell? ⟨qa, 1, none⟩ = some (.int .i64 d.2) := HQ2.out.cell 1
        have hlk := (HP2.out.below (Below.refl _ w2).drew).look HX.out d.1 d.2 HXR.out
        refine wp_region_still_tail 6 (by kernel_rfl) (by kernel_rfl) ?_
        simp only [List.take_succ_cons, List.take_zero, List.drop_succ_cons, List.drop_zero]
        repeat (first | (refine wpStill_want rfl (fun K hK => ?_); go_simp; refine hK _ ?_; clear hK K) | (refine wpStill_skip rfl ?_; go_frame))
        refine wpStill_nil ?_
        change wpList _ _ _ _ _ w2.drew
        have HSb : Hid (ZM w2.drew mk S) := HS2
        have HCb : Hid (Chg (fun j => j = mk) V0 w2.drew) := HC2.out.drew
        have HXb : Hid (SetM w2.drew x.2.1 x.2.2) := (HSX.out.1.keep rfl)
        have HWb : Hid (Below w.heap.size w w2.drew) := HW2.out.drew
        have HXM : Hid (x.2.1 < w.heap.size) := (HB.out.sets x HX.out).2.1.1
        clear g2 d1 d2 hlk HP2 HS2 HQ2 HC2 HW2
        generalize w2.drew = wb at HSb HCb HXb HWb ⊢
        go_wp2_with (refine wpL_range _ rfl (.tmp 27) 73 rfl 25 4 Tryz.underlying73 x.2.1 _ rfl HXb.out ?_; intro w1 hI1 hb1 hs1)
        have HI1 : Hid (IterS w1 x.2.1 wb.heap.size x.2.2 x.2.2) := hI1
        have HS1 := Lib.hid (HSb.out.keep (hb1.block _ (MapL.lt HSb.out)))
        have HC1 : Hid (Chg (fun j => j = mk) V0 w1) := HCb.out.trans (Chg.of_below hb1) fun _ _ h => h
        have HIT : Hid (V0.heap.size ≤ wb.heap.size ∧ mk < wb.heap.size) := ⟨HCb.out.size, MapL.lt HSb.out⟩
        clear hI1 hb1 hs1 HSb HCb HXb HWb
        generalize wb.heap.size = it at HI1 HIT ⊢
        try simp only [Act.put, List.setIfInBounds_toArray, List.set_cons_zero, List.set_cons_succ]
        go_loopw [9] (fun _ wr => ∃ S1 todo : List Rf, Hid (ZM wr mk S1) ∧ Hid (IterS wr x.2.1 it x.2.2 todo) ∧ Hid (∀ r, (r ∈ S1 ∨ r ∈ todo) ↔ (r ∈ S ∨ r ∈ x.2.2)) ∧ Hid (Chg (fun j => j = mk) V0 wr)) (fun _ wr => itLeft wr x.2.1 it)
        case atStart => exact ⟨S, x.2.2, HS1, HI1, Lib.hid fun r => Iff.rfl, HC1⟩
        case round =>
          clear HS1 HI1 HC1
          obtain ⟨S1, todo, HS1, HI, HE, HC⟩ := hrel
          go_wp2_with (refine wpS_next _ rfl (.tmp 28) rfl x.2.1 it x.2.2 todo rfl HI.out ?_ ?_)
          · intro ht
            subst ht
            have HM2 : Hid (∀ r, r ∈ S1 ↔ r ∈ behindP L (hs.take (k + 1))) := fun r => by
              have e := HE.out r
              simp only [List.not_mem_nil, or_false] at e
              rw [e, HM.out r, HDM.out r, HSX.out.2.2 r, HXR.out, HLX.out]
            have HA2 : Hid (∀ r ∈ hs.take (k + 1), r ∈ refsOf L) := fun r hr => by
              rcases (HDA.out r).1 hr with h | h
              · exact HA.out r h
              · rw [h]; exact HIN.out
            clear HI HE HM HDM HA
            go_wp2_with fail
            go_roundw
            case rel => exact ⟨k + 1, S1, by go_num, by have := HLT.out; omega, HS1, HM2, HA2, HC⟩
            case measure => have := HLT.out; simp [intOf]; omega
          · intro ya yb todo' w2 hp hI2 hg2 hs2 hen
            have HEY : Hid (∀ r, r ∈ todo ↔ r = (ya, yb) ∨ r ∈ todo') := fun r => by rw [hp.mem_iff, List.mem_cons]
            have HYS : Hid ((ya, yb) ∈ x.2.2) := HI.out.sub (ya, yb) (hp.mem_iff.2 (List.mem_cons_self ..))
            have HLE : Hid (itLeft wr x.2.1 it = todo'.length + 1) := by show _ = _; rw [IterL.left HI.out, List.length_map, hp.length_eq]; rfl
            have HLM := Lib.hid (MapL.lt HS1.out)
            have HIL := Lib.hid (IterL.lt HI.out)
            have HIN2 : Hid (it ≠ mk) := fun e => by have := HIT.out.2; omega
            have HS2 := Lib.hid (HS1.out.keep (hg2.block _ HLM.out (fun e => HIN2.out (Option.some.inj e).symm)))
            have HC2 := Lib.hid (HC.out.grown hg2 (fun q hq => by cases hq; exact .inr HIT.out.1))
            have HI2 := Lib.hid hI2
            have hmk2 : mk < w2.heap.size := MapL.lt HS2.out
            have hit2 : it < w2.heap.size := IterL.lt hI2
            have hxb2 : x.2.1 < w2.heap.size := MapL.lt (IterL.map hI2)
            clear hp hI2 hg2 hs2 HI HS1 HC
            have HS3 := Lib.hid (HS2.out.keep (w' := w2.alloc (.cells #[.int .i64 ya, .int .i64 yb] 25)) (Below.heap_alloc _ _ _ hmk2))
            have HI3 : Hid (IterS (w2.alloc (.cells #[.int .i64 ya, .int .i64 yb] 25)) x.2.1 it x.2.2 todo') := IterL.keep HI2.out (Below.heap_alloc _ _ _ hxb2) (Below.heap_alloc _ _ _ hit2)
            have HC3 := Lib.hid (HC2.out.alloc (.cells #[.int .i64 ya, .int .i64 yb] 25))
            have HQy := Lib.hid (Blk.new w2 25 #[.int .i64 ya, .int .i64 yb])
            have hst := HS3.out.add (r := (ya, yb)) (bk_i64 HK.out (by have := behind_sub ((HSX.out.2.2 (ya, yb)).1 HYS.out); rw [HLX.out] at this; exact this)) (by
              have h1 := sets_few (hs := hs.take (k + 1)) HS3.out.nodup HLL.out (fun r hr => (HDM.out r).2 (by
                rcases (HE.out r).1 (.inl hr) with h | h
                · exact .inl ((HM.out r).1 h)
                · have := (HSX.out.2.2 r).1 h; rw [HXR.out, HLX.out] at this; exact .inr this))
              simp only [maxLen]; omega)
            go_upto_region 10 with fail
            generalize w2.alloc (.cells #[.int .i64 ya, .int .i64 yb] 25) = w3 at HS3 HI3 HC3 HQy hst ⊢
            generalize w2.heap.size = qy at HQy ⊢
            have y1 : w3.cell? ⟨qy, 0, none⟩ = some (.int .i64 ya) := HQy.out.cell 0
            have y2 : w3.cell? ⟨qy, 1, none⟩ = some (.int .i64 yb) := HQy.out.cell 1
            clear HQy HS2 HC2 HI2 hen hmk2 hit2 hxb2
            go_wp2_with (refine wpL_store _ rfl (.tmp 33) (.tmp 34) (.tmp 35) 57 (.inl rfl) mk (.agg #[.int .i64 ya, .int .i64 yb]) zeroCh rfl rfl rfl _ hst ?_; rintro w4 ⟨⟨S2, hs4, hm4, -⟩, ht4⟩)
            have hg4 := ht4.grown
            have HS4 := Lib.hid hs4
            have HXN : Hid (x.2.1 ≠ mk) := by have := HXM.out; have := HMK.out; show _ ≠ _; omega
            have HI4 : Hid (IterS w4 x.2.1 it x.2.2 todo') := IterL.keep HI3.out (hg4.block _ (MapL.lt (IterL.map HI3.out)) (fun e => HXN.out (Option.some.inj e))) (hg4.block _ (IterL.lt HI3.out) (fun e => HIN2.out (Option.some.inj e)))
            have HC4 := Lib.hid (HC3.out.grown hg4 (fun q hq => by cases hq; exact .inl rfl))
            have HE4 : Hid (∀ r, (r ∈ S2 ∨ r ∈ todo') ↔ (r ∈ S ∨ r ∈ x.2.2)) := fun r => by
              rw [← HE.out r, HEY.out r, hm4 r, or_assoc]
            have HL4 : Hid (itLeft w4 x.2.1 it = todo'.length) := by show _ = _; rw [IterL.left HI4.out, List.length_map]
            clear hs4 hm4 ht4 hg4 hst y1 y2 HS3 HI3 HC3 HE HEY
            try simp only [Act.put, List.setIfInBounds_toArray, List.set_cons_zero, List.set_cons_succ]
            go_wp2_with fail
            go_roundw
            case rel => exact ⟨S2, todo', HS4, HI4, HE4, HC4⟩
            case measure => show itLeft w4 x.2.1 it < itLeft _ x.2.1 it; rw [HL4.out, HLE.out]; omega
      · have HNA : Hid (¬ ∀ r ∈ hs, r ∈ refsOf L) := fun h => hin (h d HDI.out)
        rw [show decide (d ∈ refsOf L) = false from decide_eq_false hin]
        clear hin
        go_wp2_with fail
        go_ret2
        exact ⟨.inr ⟨HNA.out, rfl⟩, HW2.out⟩
    · have HAll : Hid (∀ r ∈ hs, r ∈ refsOf L) := fun r hr => HA.out r (by rw [List.take_of_length_le (by rw [HNH.out]; omega)]; exact hr)
      have HM2 : Hid (∀ r, r ∈ S ↔ r ∈ behindP L hs) := fun r => by rw [HM.out r, List.take_of_length_le (by rw [HNH.out]; omega)]
      have HSL : Hid (S.length ≤ 1000) := sets_few HS.out.nodup HLL.out fun r hr => (HM2.out r).1 hr
      have HSN : Hid (S.Nodup) := HS.out.nodup
      have C2 := rising_any (S.map fun r => (r, zeroCh)) mk wr HS.out.kv (by rw [List.length_map]; have := HSL.out; omega)
      rw [List.map_map, show (Prod.fst ∘ fun r : Rf => (r, zeroCh)) = id from rfl, List.map_id] at C2
      clear HM HA HS
      go_wp2_with fail
      go_at_call 39
      refine C2.mono ?_
      rintro e w5 ⟨A, c, S0, rfl, hp, ha, hrow, hb⟩
      have HW5 : Hid (Below w.heap.size w w5) := HWr.out.trans (hb.mono HWr.out.size)
      have HR5 : Hid (Reads (fun k => k < w5.heap.size) w5 2 A S0.length (refC S0)) := row_reads hrow
      have HP := Lib.hid hp
      have HAS := Lib.hid ha
      clear C2 hp ha hrow hb
      obtain ⟨n0, hn0⟩ : ∃ n, S0.length = n := ⟨_, rfl⟩
      have HN0 := Lib.hid hn0
      rw [hn0] at HR5 ⊢
      clear hn0
      go_wp2_with fail
      go_ret2
      exact ⟨.inl ⟨HAll.out, A, c, S0, by rw [HN0.out]; rfl, HAS.out, HP.out.nodup_iff.2 HSN.out, fun r => by rw [HP.out.mem_iff]; exact HM2.out r, by rw [HP.out.length_eq]; exact HSL.out, by rw [HN0.out]; exact HR5.out⟩, HW5.out⟩
end Go.Proofs.YtclgfcjcpbiadaaGreatDoor
