/- Contracts of the document's books: all the changes, in their order. -/
import Derived.Test.YtclgfcjcpbiadaaGreatDoorSRef10
set_option linter.unusedVariables false
set_option linter.unusedSimpArgs false
namespace Go.Proofs.YtclgfcjcpbiadaaGreatDoor
open Go.ChangeShapes Go.WideShapes Go.ChangeAt Go.RowKit

theorem nodup_len {α : Type} [DecidableEq α] : ∀ (a b : List α), a.Nodup → (∀ x ∈ a, x ∈ b) → a.length ≤ b.length
  | [], _, _, _ => by simp
  | x :: a, b, hn, hs => by
    obtain ⟨hx, hn'⟩ := List.nodup_cons.1 hn
    have hxb := hs x (by simp)
    have := nodup_len a (b.erase x) hn' (fun y hy => (List.mem_erase_of_ne (fun e => hx (by rw [← e]; exact hy))).2 (hs y (by simp [hy])))
    rw [List.length_erase_of_mem hxb] at this
    have : 0 < b.length := List.length_pos_of_mem hxb
    simp only [List.length_cons]
    omega
theorem next_go {L : List ChD} (h : Bk L) (out : List ChD) (hex : ∃ c ∈ L, c.rf ∉ refsOf out) : ∃ c ∈ L, nextP L out c = true := by
  induction h with
  | nil => obtain ⟨c, hc, _⟩ := hex; cases hc
  | @snoc L c h1 h2 h3 h4 h5 h6 ih =>
    by_cases he : ∃ c ∈ L, c.rf ∉ refsOf out
    · obtain ⟨d, hd, hp⟩ := ih he
      exact ⟨d, List.mem_append.2 (.inl hd), by unfold nextP at hp ⊢; exact hp⟩
    · have hall : ∀ d ∈ L, d.rf ∈ refsOf out := fun d hd => Decidable.byContradiction fun hh => he ⟨d, hd, hh⟩
      obtain ⟨c', hc', hn⟩ := hex
      rcases List.mem_append.1 hc' with hc' | hc'
      · exact absurd (hall c' hc') hn
      · obtain rfl := List.mem_singleton.1 hc'
        refine ⟨c', by simp, ?_⟩
        unfold nextP
        rw [Bool.and_eq_true]
        refine ⟨by simp [hn], List.all_eq_true.2 fun d hd => decide_eq_true ?_⟩
        have hr := List.all_eq_true.1 h5 d hd
        obtain ⟨e, he1, he2⟩ := List.mem_map.1 (of_decide_eq_true hr)
        rw [← he2]
        exact hall e he1
theorem next_ex {L : List ChD} (h : Bk L) {out : List ChD} (hlt : out.length < L.length) : ∃ c ∈ L, nextP L out c = true := by
  refine next_go h out ?_
  refine Decidable.byContradiction fun hh => ?_
  have hall : ∀ r ∈ refsOf L, r ∈ refsOf out := fun r hr => by
    obtain ⟨c, hc, rfl⟩ := List.mem_map.1 hr
    exact Decidable.byContradiction fun h' => hh ⟨c, hc, h'⟩
  have := nodup_len _ _ h.nodup hall
  simp only [refsOf, List.length_map] at this
  omega
theorem allGo_step {L out : List ChD} {m i : Nat} {r : Rf} {x : ChD} (h : leastAt (nextP L out) L = some (i, r)) (hx : L[i]? = some x) : allGo L (m + 1) out = allGo L m (out ++ [x]) := by
  conv => lhs; unfold allGo
  rw [h]
  simp only [hx]
def slen (v : Value) : Nat := match v with | .slice _ n _ => n | _ => 0
theorem all_snoc {l : List Rf} {k : Nat} {r : Rf} (p : Rf → Bool) (h : l[k]? = some r) : (l.take (k + 1)).all p = ((l.take k).all p && p r) := by
  rw [List.take_add_one, h, List.all_append]
  simp
theorem findI_mem {L : List ChD} {r : Rf} {i : Int} (h : FindI L r i) : decide (0 ≤ i) = decide (r ∈ refsOf L) := by
  rcases h with ⟨rfl, h⟩ | ⟨k, c, rfl, hk, hf⟩
  · rw [decide_eq_false h]; rfl
  · have h1 := findC_some hf
    rw [decide_eq_true (show (0 : Int) ≤ (k : Int) from by omega), decide_eq_true (show r ∈ refsOf L from by rw [← h1.2]; exact mem_refs h1.1)]

set_option maxHeartbeats 8000000 in
set_option maxRecDepth 20000 in
theorem sall_any (L W : List ChD) (g : Nat) (w : World) (hB : BR w g L W) (hk : Bk L) (hl : L.length ≤ 1000000) :
    Calls Tryz.prog 22 #[.pointer (some ⟨g, 0, none⟩)] w fun e w' => ∃ v, e = .returned v ∧ w'.ownsRow w.heap.size 34 5 v (allP L).length (chsC (allP L)) ∧ Below w.heap.size w w' := by
  obtain ⟨A, c, A', c', hg, hL, hW'⟩ := hB
  have HG := Lib.hid hg
  have HL := Lib.hid hL
  have HK := Lib.hid hk
  obtain ⟨n, hn⟩ : ∃ n, L.length = n := ⟨_, rfl⟩
  have HN := Lib.hid hn
  rw [hn] at hl HG
  clear hg hL hW' hn hk
  have C1 := fun (V : World) (out : List ChD) (r : Rf) A cc h1 h2 => sfind_any out r (fun k => k < V.heap.size) A cc V h1 (fun _ h => h) h2
  go_enter Tryz.func22, Tryz.ntmps22
  go_wp2_with fail
  go_loopw [3, 4, 5, 6, 7, 8, 9] (fun s3 _ _ _ _ _ _ wr => ∃ out : List ChD, out.length ≤ n ∧ Hid (wr.ownsRow w.heap.size 34 5 s3 out.length (chsC out)) ∧ Hid (allP L = allGo L (n - out.length) out) ∧ Hid (Below w.heap.size w wr)) (fun s3 _ _ _ _ _ _ _ => n - slen s3)
  case atStart => exact ⟨[], by simp, own_nil _ _ _ _, by show _ = _; rw [← HN.out]; rfl, Below.refl _ _⟩
  case round =>
    obtain ⟨out, ho, HO, HA, HW⟩ := hrel
    obtain ⟨Ao, co, rfl, hco, -, hro⟩ := Reads.of_own HO.out
    have HRO : Hid (Reads (fun k => k < wr.heap.size) wr 5 Ao out.length (chsC out)) := hro.more fun k hk => (own_lt HO.out hk).2
    clear hro
    have g0 : wr.cell? ⟨g, 0, none⟩ = some (.slice A n c) := (HG.out.keep (HW.out.block _ HG.out.lt)).cell 0
    by_cases hlo : out.length < n
    · obtain ⟨wo, hwo⟩ : ∃ wo, wo = wr := ⟨_, rfl⟩
      subst hwo
      have hdo : decide ((out.length : Int) < (n : Int)) = true := decide_eq_true (by omega)
      go_wp2_with fail
      go_loopw [4, 5, 6, 7, 8, 9] (fun s4 s5 _ _ _ _ wr => ∃ (i : Nat) (best : Option (Nat × Rf)), s5 = .int .i64 i ∧ i ≤ n ∧ s4 = .int .i64 (atP best) ∧ Hid (ScanAt (nextP L out) L i best) ∧ Hid (Below wo.heap.size wo wr)) (fun _ s5 _ _ _ _ _ => n - (intOf s5).toNat)
      case atStart => exact ⟨0, none, rfl, by omega, rfl, ScanAt.start _ _, Below.refl _ _⟩
      case round =>
        clear g0 hdo
        obtain ⟨i, best, rfl, hi, rfl, HSC, HWI⟩ := hrel
        have HWW : Hid (Below w.heap.size w wr) := HW.out.trans (HWI.out.mono HW.out.size)
        have g0 : wr.cell? ⟨g, 0, none⟩ = some (.slice A n c) := (HG.out.keep (HWW.out.block _ HG.out.lt)).cell 0
        by_cases hlt : i < n
        · obtain ⟨y, hy⟩ : ∃ y, L[i]? = some y := ⟨_, List.getElem?_eq_getElem (by rw [HN.out]; exact hlt)⟩
          have HY := Lib.hid hy
          have HYI := Lib.hid (HL.out.each y (List.mem_of_getElem? hy))
          obtain ⟨b, o, rfl, -, hcy⟩ := (reads_below HL.out.row HWW.out).at_ (by rw [HN.out]; omega) (by omega)
          have y0 : wr.cell? ⟨b, o + i * 5, none⟩ = some (.int .i64 y.a) := hcy _ _ (chsC_at hy 0 (by omega))
          have y1 : wr.cell? ⟨b, o + i * 5 + 1, none⟩ = some (.int .i64 y.s) := hcy _ _ (chsC_at hy 1 (by omega))
          have y2 : wr.cell? ⟨b, o + i * 5 + 2, none⟩ = some (.int .i64 y.st) := hcy _ _ (chsC_at hy 2 (by omega))
          have y3 : wr.cell? ⟨b, o + i * 5 + 3, none⟩ = some (.slice y.DA y.deps.length y.DC) := hcy _ _ (chsC_at hy 3 (by omega))
          have y4 : wr.cell? ⟨b, o + i * 5 + 4, none⟩ = some (.slice y.OA y.ops.length y.OC) := hcy _ _ (chsC_at hy 4 (by omega))
          clear hcy hy
          go_wp2_with fail
          go_at_call 12
          refine (sref_any _ _ _ _ _ _ (by rfl) (by rfl) (by rfl)).mono ?_
          rintro e w2 ⟨rfl, hb⟩
          replace HWI : Hid (Below wo.heap.size wo w2) := HWI.out.trans (hb.mono HWI.out.size)
          clear hb HWW y0 y1 y2 y3 y4 g0
          have C2 := C1 w2 out (y.a, y.s) _ co (reads_below HRO.out HWI.out) (by omega)
          go_wp2_with fail
          go_at_call 27
          refine C2.mono ?_
          rintro e w3 ⟨ki, rfl, hfi, hb⟩
          replace HWI : Hid (Below wo.heap.size wo w3) := HWI.out.trans (hb.mono HWI.out.size)
          have HFM : Hid (decide (0 ≤ ki) = decide (y.rf ∈ refsOf out)) := findI_mem hfi
          clear hb C2 hfi
          by_cases hin : y.rf ∈ refsOf out
          · have HNX : Hid (nextP L out y = false) := by show _ = _; unfold nextP; rw [decide_eq_true hin]; rfl
            have hdk : decide (0 ≤ ki) = true := by rw [HFM.out, decide_eq_true hin]
            have hdk' : decide (ki ≥ 0) = true := hdk
            have HS2 := Lib.hid (HSC.out.skip HY.out (by rw [HNX.out]; rfl))
            clear HFM hin HNX HSC HY HYI
            go_wp2_with fail
            go_roundw
            case rel => exact ⟨i + 1, best, by go_num, by omega, rfl, HS2, HWI⟩
            case measure => simp [intOf]; omega
          · have HNX : Hid (nextP L out y = y.deps.all fun d => decide (d ∈ refsOf out)) := by show _ = _; unfold nextP; rw [decide_eq_false hin]; rfl
            have hdk : decide (0 ≤ ki) = false := by rw [HFM.out, decide_eq_false hin]
            have hdk' : decide (ki ≥ 0) = false := hdk
            have hdl := HYI.out.hdl
            clear HFM hin
            obtain ⟨nd, hnd⟩ : ∃ nd, y.deps.length = nd := ⟨_, rfl⟩
            have HND := Lib.hid hnd
            rw [hnd] at hdl
            clear hnd
            go_wp2_with fail
            go_loopw [7, 8, 9] (fun s7 s8 _ wr => ∃ j : Nat, s8 = .int .i64 j ∧ j ≤ nd ∧ s7 = .bool ((y.deps.take j).all fun d => decide (d ∈ refsOf out)) ∧ Hid (Below wo.heap.size wo wr)) (fun _ s8 _ _ => nd - (intOf s8).toNat)
            case atStart => exact ⟨0, rfl, by omega, rfl, HWI⟩
            case round =>
              clear HWI hdk hdk'
              obtain ⟨j, rfl, hj, rfl, HWI⟩ := hrel
              have HWW : Hid (Below w.heap.size w wr) := HW.out.trans (HWI.out.mono HW.out.size)
              have g0 : wr.cell? ⟨g, 0, none⟩ = some (.slice (some ⟨b, o, none⟩) n c) := (HG.out.keep (HWW.out.block _ HG.out.lt)).cell 0
              obtain ⟨b', o', hA, hbl, hcy⟩ := (reads_below HL.out.row HWW.out).at_ (by rw [HN.out]; omega) (by omega)
              simp only [Option.some.injEq, Addr.mk.injEq, and_true] at hA
              obtain ⟨rfl, rfl⟩ := hA
              have hd3 : decide (0 ≤ (i : Int)) = true := decide_eq_true (by omega)
              by_cases hlj : j < nd
              · have y3 : wr.cell? ⟨b, o + i * 5 + 3, none⟩ = some (.slice y.DA nd y.DC) := by rw [← HND.out]; exact hcy _ _ (chsC_at HY.out 3 (by omega))
                obtain ⟨r, hr⟩ : ∃ r, y.deps[j]? = some r := ⟨_, List.getElem?_eq_getElem (by rw [HND.out]; exact hlj)⟩
                obtain ⟨b1, o1, hA1, -, hc1⟩ := (reads_below HYI.out.hd HWW.out).at_ (by rw [HND.out]; omega) (by omega)
                have x1 : wr.cell? ⟨b1, o1 + j * 2, none⟩ = some (.int .i64 r.1) := hc1 _ _ (refC_at hr).1
                have x2 : wr.cell? ⟨b1, o1 + j * 2 + 1, none⟩ = some (.int .i64 r.2) := hc1 _ _ (refC_at hr).2
                rw [hA1] at y3
                have HSN := Lib.hid (all_snoc (fun d => decide (d ∈ refsOf out)) hr)
                generalize (y.deps.take j).all (fun d => decide (d ∈ refsOf out)) = ok at HSN ⊢
                have C2 := C1 wr out (r.1, r.2) _ co (reads_below HRO.out HWI.out) (by omega)
                clear hcy hc1 hr hA1
                go_wp2_with fail
                go_at_call 27
                refine C2.mono ?_
                rintro e w4 ⟨kj, rfl, hfi, hb⟩
                replace HWI : Hid (Below wo.heap.size wo w4) := HWI.out.trans (hb.mono HWI.out.size)
                have hfm : decide (0 ≤ kj) = decide ((r.1, r.2) ∈ refsOf out) := findI_mem hfi
                have hfm' : decide (kj ≥ 0) = decide ((r.1, r.2) ∈ refsOf out) := hfm
                have HSN2 : Hid ((y.deps.take (j + 1)).all (fun d => decide (d ∈ refsOf out)) = (ok && decide ((r.1, r.2) ∈ refsOf out))) := HSN.out
                clear hb C2 hfi x1 x2 y3 g0 HSN
                generalize decide ((r.1, r.2) ∈ refsOf out) = okr at hfm hfm' HSN2
                cases ok with
                | false =>
                  cases okr with
                  | false =>
                    go_wp2_with fail
                    go_roundw
                    case rel => exact ⟨j + 1, by go_num, by omega, by rw [HSN2.out]; rfl, HWI⟩
                    case measure => simp [intOf]; omega
                  | true =>
                    go_wp2_with fail
                    go_roundw
                    case rel => exact ⟨j + 1, by go_num, by omega, by rw [HSN2.out]; rfl, HWI⟩
                    case measure => simp [intOf]; omega
                | true =>
                  cases okr with
                  | false =>
                    go_wp2_with fail
                    go_roundw
                    case rel => exact ⟨j + 1, by go_num, by omega, by rw [HSN2.out]; rfl, HWI⟩
                    case measure => simp [intOf]; omega
                  | true =>
                    go_wp2_with fail
                    go_roundw
                    case rel => exact ⟨j + 1, by go_num, by omega, by rw [HSN2.out]; rfl, HWI⟩
                    case measure => simp [intOf]; omega
              · have y3 : wr.cell? ⟨b, o + i * 5 + 3, none⟩ = some (.slice y.DA nd y.DC) := by rw [← HND.out]; exact hcy _ _ (chsC_at HY.out 3 (by omega))
                have HTA : Hid (y.deps.take j = y.deps) := List.take_of_length_le (by rw [HND.out]; omega)
                rw [HTA.out]
                clear hcy HTA
                generalize hrb : (y.deps.all fun d => decide (d ∈ refsOf out)) = rb
                have HRB : Hid (nextP L out y = rb) := by show _ = _; rw [HNX.out]; exact hrb
                clear hrb HNX
                obtain ⟨w6, hw6⟩ : ∃ w6, w6 = wr := ⟨_, rfl⟩
                subst hw6
                go_upto_region 15 with fail
                go_cut [93] (fun s93 wc => s93 = .bool (rb && isBetter best y.rf) ∧ Hid (Below wo.heap.size wo wc))
                case first =>
                  cases rb with
                  | false =>
                    go_wp2_with fail
                    go_quiet (fail)
                    change Exit.then _ _ _ _ (w6.drewN nq)
                    replace HWI : Hid (Below wo.heap.size wo (w6.drewN nq)) := below_drewN HWI.out nq
                    go_wp2_with fail
                    go_meet
                    case rel => exact ⟨rfl, HWI⟩
                  | true =>
                    cases best with
                    | none =>
                      have ha : atP none = -1 := rfl
                      rw [ha]
                      clear ha
                      go_wp2_with fail
                      go_quiet (fail)
                      change Exit.then _ _ _ _ (w6.drewN nq)
                      replace HWI : Hid (Below wo.heap.size wo (w6.drewN nq)) := below_drewN HWI.out nq
                      go_wp2_with fail
                      go_meet
                      case rel => exact ⟨rfl, HWI⟩
                    | some jr =>
                      obtain ⟨j', r⟩ := jr
                      obtain ⟨z, hz, hzr⟩ := HSC.out.2 j' r rfl
                      subst hzr
                      have hjn : j' < n := by have := (List.getElem?_eq_some_iff.1 hz).1; rwa [HN.out] at this
                      have ha : atP (some (j', z.rf)) = (j' : Int) := rfl
                      rw [ha]
                      have hd1 : decide ((j' : Int) < 0) = false := decide_eq_false (by omega)
                      have hd2 : decide (0 ≤ (j' : Int)) = true := decide_eq_true (by omega)
                      have hd5 : decide ((j' : Int) < (n : Int)) = true := decide_eq_true (by omega)
                      have hgl : g < w6.heap.size := Nat.lt_of_lt_of_le HG.out.lt HWW.out.size
                      clear y3
                      obtain ⟨b', o', hA, -, hcy⟩ := (reads_below HL.out.row HWW.out).at_ (by rw [HN.out]; omega) (by omega)
                      simp only [Option.some.injEq, Addr.mk.injEq, and_true] at hA
                      obtain ⟨rfl, rfl⟩ := hA
                      have y0 : w6.cell? ⟨b, o + i * 5, none⟩ = some (.int .i64 y.a) := hcy _ _ (chsC_at HY.out 0 (by omega))
                      have y1 : w6.cell? ⟨b, o + i * 5 + 1, none⟩ = some (.int .i64 y.s) := hcy _ _ (chsC_at HY.out 1 (by omega))
                      have y2 : w6.cell? ⟨b, o + i * 5 + 2, none⟩ = some (.int .i64 y.st) := hcy _ _ (chsC_at HY.out 2 (by omega))
                      have y3 : w6.cell? ⟨b, o + i * 5 + 3, none⟩ = some (.slice y.DA y.deps.length y.DC) := hcy _ _ (chsC_at HY.out 3 (by omega))
                      have y4 : w6.cell? ⟨b, o + i * 5 + 4, none⟩ = some (.slice y.OA y.ops.length y.OC) := hcy _ _ (chsC_at HY.out 4 (by omega))
                      have z0 : w6.cell? ⟨b, o + j' * 5, none⟩ = some (.int .i64 z.a) := hcy _ _ (chsC_at hz 0 (by omega))
                      have z1 : w6.cell? ⟨b, o + j' * 5 + 1, none⟩ = some (.int .i64 z.s) := hcy _ _ (chsC_at hz 1 (by omega))
                      have z2 : w6.cell? ⟨b, o + j' * 5 + 2, none⟩ = some (.int .i64 z.st) := hcy _ _ (chsC_at hz 2 (by omega))
                      have z3 : w6.cell? ⟨b, o + j' * 5 + 3, none⟩ = some (.slice z.DA z.deps.length z.DC) := hcy _ _ (chsC_at hz 3 (by omega))
                      have z4 : w6.cell? ⟨b, o + j' * 5 + 4, none⟩ = some (.slice z.OA z.ops.length z.OC) := hcy _ _ (chsC_at hz 4 (by omega))
                      have KS : ∀ V : World, Below w6.heap.size w6 V → V.cell? ⟨g, 0, none⟩ = some (.slice (some ⟨b, o, none⟩) n c) ∧ V.cell? ⟨b, o + i * 5, none⟩ = some (.int .i64 y.a) ∧ V.cell? ⟨b, o + i * 5 + 1, none⟩ = some (.int .i64 y.s) ∧ V.cell? ⟨b, o + i * 5 + 2, none⟩ = some (.int .i64 y.st) ∧ V.cell? ⟨b, o + i * 5 + 3, none⟩ = some (.slice y.DA y.deps.length y.DC) ∧ V.cell? ⟨b, o + i * 5 + 4, none⟩ = some (.slice y.OA y.ops.length y.OC) ∧ V.cell? ⟨b, o + j' * 5, none⟩ = some (.int .i64 z.a) ∧ V.cell? ⟨b, o + j' * 5 + 1, none⟩ = some (.int .i64 z.s) ∧ V.cell? ⟨b, o + j' * 5 + 2, none⟩ = some (.int .i64 z.st) ∧ V.cell? ⟨b, o + j' * 5 + 3, none⟩ = some (.slice z.DA z.deps.length z.DC) ∧ V.cell? ⟨b, o + j' * 5 + 4, none⟩ = some (.slice z.OA z.ops.length z.OC) ∧ Below w6.heap.size w6 V := fun V hv => by
                        have e1 : ∀ i, V.cell? ⟨g, i, none⟩ = w6.cell? ⟨g, i, none⟩ := fun i => World.cell?_of_block (hv.block _ hgl)
                        have e2 : ∀ i, V.cell? ⟨b, i, none⟩ = w6.cell? ⟨b, i, none⟩ := fun i => World.cell?_of_block (hv.block _ hbl)
                        rw [e1]
                        simp only [e2]
                        exact ⟨g0, y0, y1, y2, y3, y4, z0, z1, z2, z3, z4, hv⟩
                      clear hcy hz HY
                      go_wp2_with fail
                      go_region_held3 (fun w' => w'.cell? ⟨g, 0, none⟩ = some (.slice (some ⟨b, o, none⟩) n c) ∧ w'.cell? ⟨b, o + i * 5, none⟩ = some (.int .i64 y.a) ∧ w'.cell? ⟨b, o + i * 5 + 1, none⟩ = some (.int .i64 y.s) ∧ w'.cell? ⟨b, o + i * 5 + 2, none⟩ = some (.int .i64 y.st) ∧ w'.cell? ⟨b, o + i * 5 + 3, none⟩ = some (.slice y.DA y.deps.length y.DC) ∧ w'.cell? ⟨b, o + i * 5 + 4, none⟩ = some (.slice y.OA y.ops.length y.OC) ∧ w'.cell? ⟨b, o + j' * 5, none⟩ = some (.int .i64 z.a) ∧ w'.cell? ⟨b, o + j' * 5 + 1, none⟩ = some (.int .i64 z.s) ∧ w'.cell? ⟨b, o + j' * 5 + 2, none⟩ = some (.int .i64 z.st) ∧ w'.cell? ⟨b, o + j' * 5 + 3, none⟩ = some (.slice z.DA z.deps.length z.DC) ∧ w'.cell? ⟨b, o + j' * 5 + 4, none⟩ = some (.slice z.OA z.ops.length z.OC) ∧ Below w6.heap.size w6 w') (first | exact KS _ (Below.refl _ w6).drew | exact q | go_keep)
                        ((first
                          | (go_at_call 12; refine (sref_any _ _ _ _ _ _ (by rfl) (by rfl) (by rfl)).mono ?_; rintro e w7 ⟨rfl, hb7⟩; have q := KS w7 (by first | exact below_step q.2.2.2.2.2.2.2.2.2.2.2 (Nat.le_refl _) hb7 | exact below_step (Below.refl _ w6).drew (Nat.le_refl _) hb7))
                          | (go_at_call 31; refine (ahead_any (y.a, y.s) (z.a, z.s) _).mono ?_; rintro e w7 ⟨rfl, hb7⟩; have q := KS w7 (by first | exact below_step q.2.2.2.2.2.2.2.2.2.2.2 (Nat.le_refl _) hb7 | exact below_step (Below.refl _ w6).drew (Nat.le_refl _) hb7))))
                      all_goals
                        replace HWI : Hid (Below wo.heap.size wo w7) := HWI.out.trans (Below.mono q.2.2.2.2.2.2.2.2.2.2.2 HWI.out.size)
                        clear q y0 y1 y2 y3 y4 z0 z1 z2 z3 z4 g0 KS
                        go_wp2_with fail
                        go_meet
                        case rel => exact ⟨rfl, HWI⟩
                case rest =>
                  obtain ⟨rfl, HWI⟩ := hcut
                  generalize htk : (rb && isBetter best y.rf) = tk
                  have HTK : Hid ((nextP L out y && isBetter best y.rf) = tk) := by show _ = _; rw [HRB.out]; exact htk
                  clear htk
                  cases tk with
                  | true =>
                    have HS2 := Lib.hid (HSC.out.take HY.out HTK.out)
                    clear HSC HTK HRB
                    go_wp2_with fail
                    go_roundw
                    case rel => exact ⟨i + 1, some (i, y.rf), by go_num, by omega, rfl, HS2, HWI⟩
                    case measure => simp [intOf]; omega
                  | false =>
                    have HS2 := Lib.hid (HSC.out.skip HY.out HTK.out)
                    clear HSC HTK HRB
                    go_wp2_with fail
                    go_roundw
                    case rel => exact ⟨i + 1, best, by go_num, by omega, rfl, HS2, HWI⟩
                    case measure => simp [intOf]; omega
        · have hd : decide ((i : Int) < (n : Int)) = false := decide_eq_false (by omega)
          have hin : i = n := by omega
          have HLA : Hid (leastAt (nextP L out) L = best) := ScanAt.done (by rw [HN.out, ← hin]; exact HSC.out)
          clear hin
          cases best with
          | none =>
            obtain ⟨d, hd1, hd2⟩ := next_ex HK.out (out := out) (by rw [HN.out]; exact hlo)
            have := leastAt_none HLA.out d hd1
            rw [hd2] at this
            cases this
          | some jr =>
            obtain ⟨j, r⟩ := jr
            obtain ⟨x, hx, hxr⟩ := HSC.out.2 j r rfl
            have hjn : j < n := by have := (List.getElem?_eq_some_iff.1 hx).1; rwa [HN.out] at this
            have HS2 : Hid (allP L = allGo L (n - (out ++ [x]).length) (out ++ [x])) := by
              show _ = _
              rw [HA.out, show n - out.length = (n - (out ++ [x]).length) + 1 from by rw [List.length_append, List.length_singleton]; omega]
              exact allGo_step HLA.out hx
            have ha : atP (some (j, r)) = (j : Int) := rfl
            rw [ha]
            clear ha
            have hd1 : decide ((j : Int) < 0) = false := decide_eq_false (by omega)
            have hd2 : decide (0 ≤ (j : Int)) = true := decide_eq_true (by omega)
            have hd3 : decide ((j : Int) < (n : Int)) = true := decide_eq_true (by omega)
            obtain ⟨b, o, rfl, hbl, hcy⟩ := (reads_below HL.out.row HWW.out).at_ (by rw [HN.out]; omega) (by omega)
            have x0 : wr.cell? ⟨b, o + j * 5, none⟩ = some (.int .i64 x.a) := hcy _ _ (chsC_at hx 0 (by omega))
            have x1 : wr.cell? ⟨b, o + j * 5 + 1, none⟩ = some (.int .i64 x.s) := hcy _ _ (chsC_at hx 1 (by omega))
            have x2 : wr.cell? ⟨b, o + j * 5 + 2, none⟩ = some (.int .i64 x.st) := hcy _ _ (chsC_at hx 2 (by omega))
            have x3 : wr.cell? ⟨b, o + j * 5 + 3, none⟩ = some (.slice x.DA x.deps.length x.DC) := hcy _ _ (chsC_at hx 3 (by omega))
            have x4 : wr.cell? ⟨b, o + j * 5 + 4, none⟩ = some (.slice x.OA x.ops.length x.OC) := hcy _ _ (chsC_at hx 4 (by omega))
            clear hcy hx hxr HSC
            have HO1 := Lib.hid (own_below HO.out HWI.out)
            obtain ⟨i0, hi, hz0, hz1, hz2⟩ := info_parts infoCh
            have hws : w.heap.size ≤ wr.heap.size := HWW.out.size
            go_wp2_with (at_builtin; refine wpList_append_any _ rfl (.tmp 95) (.tmp 103) _ rfl (w.heap.size) 34 i0 _ 5 72 Tryz.underlying22 hi hz0 hz1 hz2 rfl (by omega) (_) (out.length) (chsC out) rfl (HO1.out.alloc _) _ (some ⟨wr.heap.size, 0, none⟩) (1) (1) (ChD.cells x) rfl ((blk_reads (by exact Blk.new wr _ #[.int .i64 x.a, .int .i64 x.s, .int .i64 x.st, .slice x.DA x.deps.length x.DC, .slice x.OA x.ops.length x.OC]) (n := 5) rfl)) ((by intro u hu; exact chsC_one [x] u (by simpa [chsC] using hu))) ?c1 ?c2 ?c3 ?_)
            try case c1 => simp only [maxLen]; omega
            try case c2 => omega
            try case c3 => simp; omega
            intro v4 w4 ho4 hg4 _
            have HW4 : Hid (Below w.heap.size w w4) := (HWW.out.alloc HWW.out.size _).grown hg4 (by simp; omega) (fun g hg => (own_lt HO1.out hg).1)
            have HO4 : Hid (w4.ownsRow w.heap.size 34 5 v4 (out ++ [x]).length (chsC (out ++ [x]))) := by show World.ownsRow _ _ _ _ _ _ _; rw [List.length_append, chsC_append]; simpa [chsC] using ho4
            have hsl : slen v4 = out.length + 1 := by
              obtain ⟨_, _, hv, _⟩ := Reads.of_own ho4
              rw [hv]; rfl
            clear ho4 hg4 x0 x1 x2 x3 x4 g0
            go_wp2_with fail
            go_roundw
            case rel => exact ⟨out ++ [x], by rw [List.length_append, List.length_singleton]; omega, HO4, HS2, HW4⟩
            case measure =>
              show n - slen v4 < n - slen (.slice Ao out.length co)
              rw [hsl]
              show n - (out.length + 1) < n - out.length
              omega
    · have hen : out.length = n := by omega
      have hdo : decide ((out.length : Int) < (n : Int)) = false := decide_eq_false (by omega)
      have HAO : Hid (allP L = out) := by show _ = _; rw [HA.out, hen, Nat.sub_self]; rfl
      go_wp2_with fail
      go_ret
      rw [HAO.out]
      exact ⟨_, rfl, HO.out, HW.out⟩
end Go.Proofs.YtclgfcjcpbiadaaGreatDoor
