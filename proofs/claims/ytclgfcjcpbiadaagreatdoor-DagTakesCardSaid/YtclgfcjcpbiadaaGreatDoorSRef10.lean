/- Contracts of the document's books: the refs of changes, rising; the heads. -/
import Derived.Test.YtclgfcjcpbiadaaGreatDoorSRef9
set_option linter.unusedVariables false
set_option linter.unusedSimpArgs false
namespace Go.Proofs.YtclgfcjcpbiadaaGreatDoor
open Go.ChangeShapes Go.WideShapes Go.ChangeAt Go.RowKit

theorem refsP_snoc {L : List ChD} {k : Nat} {x : ChD} (h : L[k]? = some x) : refsP (L.take (k + 1)) = putR (refsP (L.take k)) x.rf := by
  unfold refsP
  rw [List.take_add_one, h, List.foldl_append]
  rfl
theorem putR_len_le (l : List Rf) (r : Rf) : (putR l r).length ≤ l.length + 1 := by
  by_cases h : r ∈ l
  · rw [putR_has h]; omega
  · rw [putR_len h]; omega
theorem refsGo_len : ∀ (L : List ChD) (out : List Rf), (L.foldl (fun out c => putR out c.rf) out).length ≤ out.length + L.length
  | [], out => by simp
  | c :: L, out => by
    have h1 := refsGo_len L (putR out c.rf)
    have h2 := putR_len_le out c.rf
    simp only [List.foldl_cons, List.length_cons]
    omega
theorem refsP_len (L : List ChD) : (refsP L).length ≤ L.length := by
  have := refsGo_len L []
  simpa [refsP] using this
/-- the heads, by the changes so far -/
def headsGo (L l : List ChD) : List Rf := l.foldl (fun out c => if onP L c.rf then out else putR out c.rf) []
theorem headsGo_snoc {L l : List ChD} {k : Nat} {x : ChD} (h : l[k]? = some x) : headsGo L (l.take (k + 1)) = if onP L x.rf then headsGo L (l.take k) else putR (headsGo L (l.take k)) x.rf := by
  unfold headsGo
  rw [List.take_add_one, h, List.foldl_append]
  rfl
theorem headsGo_len (L : List ChD) : ∀ (l : List ChD) (out : List Rf), (l.foldl (fun out c => if onP L c.rf then out else putR out c.rf) out).length ≤ out.length + l.length
  | [], out => by simp
  | c :: l, out => by
    have h1 := headsGo_len L l (if onP L c.rf then out else putR out c.rf)
    have h2 := putR_len_le out c.rf
    simp only [List.foldl_cons, List.length_cons]
    split at h1 <;> rename_i h <;> simp only [h] <;> simp only [if_true, if_false, Bool.false_eq_true] at * <;> omega
theorem headsP_len (L : List ChD) : (headsP L).length ≤ L.length := by
  have := headsGo_len L L []
  simpa [headsP] using this
theorem headsGo_len' (L l : List ChD) : (headsGo L l).length ≤ l.length := by
  have := headsGo_len L l []
  simpa [headsGo] using this
def onB (l : List ChD) (r : Rf) : Bool := l.any fun c => decide (r ∈ c.deps)
theorem onB_snoc {L : List ChD} {k : Nat} {x : ChD} (r : Rf) (h : L[k]? = some x) : onB (L.take (k + 1)) r = (onB (L.take k) r || decide (r ∈ x.deps)) := by
  unfold onB
  rw [List.take_add_one, h, List.any_append]
  simp

set_option maxHeartbeats 2000000 in
set_option maxRecDepth 20000 in
theorem srefs_any (L : List ChD) (D : Nat → Prop) (A : Option Addr) (c : Nat) (w : World) (hr : Reads D w 5 A L.length (chsC L)) (hD : ∀ k, D k → k < w.heap.size) (hl : L.length ≤ 1000000) :
    Calls Tryz.prog 8 #[.slice A L.length c] w fun e w' => ∃ v, e = .returned v ∧ w'.ownsRow w.heap.size 25 2 v (refsP L).length (refC (refsP L)) ∧ Below w.heap.size w w' := by
  obtain ⟨n, hn⟩ : ∃ n, L.length = n := ⟨_, rfl⟩
  have HN := Lib.hid hn
  have HR := Lib.hid (hr.more hD)
  rw [hn] at hl ⊢
  clear hr hn
  go_enter Tryz.func8, Tryz.ntmps8
  go_wp2_with fail
  go_loopw [3, 4] (fun s3 s4 wr => ∃ k : Nat, s4 = .int .i64 k ∧ k ≤ n ∧ Hid (wr.ownsRow w.heap.size 25 2 s3 (refsP (L.take k)).length (refC (refsP (L.take k)))) ∧ Hid (Below w.heap.size w wr)) (fun _ s4 _ => n - (intOf s4).toNat)
  case atStart => exact ⟨0, rfl, by omega, own_nil _ _ _ _, Below.refl _ _⟩
  case round =>
    obtain ⟨k, rfl, hk, HO, HW⟩ := hrel
    by_cases hlt : k < n
    · obtain ⟨x, hx⟩ : ∃ x, L[k]? = some x := ⟨_, List.getElem?_eq_getElem (by rw [HN.out]; exact hlt)⟩
      obtain ⟨b, o, rfl, -, hcy⟩ := (reads_below HR.out HW.out).at_ (by rw [HN.out]; omega) (by omega)
      have x0 : wr.cell? ⟨b, o + k * 5, none⟩ = some (.int .i64 x.a) := hcy _ _ (chsC_at hx 0 (by omega))
      have x1 : wr.cell? ⟨b, o + k * 5 + 1, none⟩ = some (.int .i64 x.s) := hcy _ _ (chsC_at hx 1 (by omega))
      have x2 : wr.cell? ⟨b, o + k * 5 + 2, none⟩ = some (.int .i64 x.st) := hcy _ _ (chsC_at hx 2 (by omega))
      have x3 : wr.cell? ⟨b, o + k * 5 + 3, none⟩ = some (.slice x.DA x.deps.length x.DC) := hcy _ _ (chsC_at hx 3 (by omega))
      have x4 : wr.cell? ⟨b, o + k * 5 + 4, none⟩ = some (.slice x.OA x.ops.length x.OC) := hcy _ _ (chsC_at hx 4 (by omega))
      have HP := Lib.hid (refsP_snoc hx)
      have hlen : (refsP (L.take k)).length ≤ k := Nat.le_trans (refsP_len _) (by rw [List.length_take]; omega)
      clear hcy hx
      go_wp2_with fail
      go_at_call 12
      refine (sref_any _ _ _ _ _ _ (by rfl) (by rfl) (by rfl)).mono ?_
      rintro e w2 ⟨rfl, hb⟩
      have C2 := sPut_any (refsP (L.take k)) (x.a, x.s) w.heap.size _ w2 (own_below HO.out hb) (by omega) (Nat.le_trans HW.out.size hb.size)
      replace HW : Hid (Below w.heap.size w w2) := HW.out.trans (hb.mono HW.out.size)
      clear hb HO x0 x1 x2 x3 x4
      go_wp2_with fail
      go_at_call 40
      refine C2.mono ?_
      rintro e w3 ⟨v3, rfl, ho3, hb3, -⟩
      have HO : Hid (w3.ownsRow w.heap.size 25 2 v3 (refsP (L.take (k + 1))).length (refC (refsP (L.take (k + 1))))) := by show World.ownsRow _ _ _ _ _ _ _; rw [HP.out]; exact ho3
      replace HW : Hid (Below w.heap.size w w3) := HW.out.trans (hb3.mono HW.out.size)
      clear C2 ho3 hb3 HP hlen
      go_wp2_with fail
      go_roundw
      case rel => exact ⟨k + 1, by go_num, by omega, HO, HW⟩
      case measure => simp [intOf]; omega
    · have hkn : k = n := by omega
      have HL : Hid (L.take k = L) := List.take_of_length_le (by rw [HN.out]; omega)
      rw [HL.out] at HO
      go_wp2_with fail
      go_ret
      exact ⟨_, rfl, HO.out, HW.out⟩
set_option maxHeartbeats 4000000 in
set_option maxRecDepth 20000 in
theorem sheads_any (L W : List ChD) (g : Nat) (w : World) (hB : BR w g L W) (hl : L.length ≤ 1000000) :
    Calls Tryz.prog 25 #[.pointer (some ⟨g, 0, none⟩)] w fun e w' => ∃ v, e = .returned v ∧ w'.ownsRow w.heap.size 25 2 v (headsP L).length (refC (headsP L)) ∧ Below w.heap.size w w' := by
  obtain ⟨A, c, A', c', hg, hL, hW'⟩ := hB
  have HG := Lib.hid hg
  have HL := Lib.hid hL
  obtain ⟨n, hn⟩ : ∃ n, L.length = n := ⟨_, rfl⟩
  have HN := Lib.hid hn
  rw [hn] at hl HG
  clear hg hL hW' hn
  go_enter Tryz.func25, Tryz.ntmps25
  go_wp2_with fail
  go_loopw [3, 4, 5, 6] (fun s3 s4 _ _ wr => ∃ i : Nat, s4 = .int .i64 i ∧ i ≤ n ∧ Hid (wr.ownsRow w.heap.size 25 2 s3 (headsGo L (L.take i)).length (refC (headsGo L (L.take i)))) ∧ Hid (Below w.heap.size w wr)) (fun _ s4 _ _ _ => n - (intOf s4).toNat)
  case atStart => exact ⟨0, rfl, by omega, own_nil _ _ _ _, Below.refl _ _⟩
  case round =>
    obtain ⟨i, rfl, hi, HO, HW⟩ := hrel
    have g0 : wr.cell? ⟨g, 0, none⟩ = some (.slice A n c) := (HG.out.keep (HW.out.block _ HG.out.lt)).cell 0
    by_cases hlt : i < n
    · obtain ⟨y, hy⟩ : ∃ y, L[i]? = some y := ⟨_, List.getElem?_eq_getElem (by rw [HN.out]; exact hlt)⟩
      have HY := Lib.hid hy
      clear hy
      obtain ⟨wo, hwo⟩ : ∃ wo, wo = wr := ⟨_, rfl⟩
      subst hwo
      have hd : decide ((i : Int) < (n : Int)) = true := decide_eq_true (by omega)
      go_wp2_with fail
      go_loopw [5, 6] (fun s5 s6 wr => ∃ k : Nat, s6 = .int .i64 k ∧ k ≤ n ∧ s5 = .bool (onB (L.take k) y.rf) ∧ Hid (Below wo.heap.size wo wr)) (fun _ s6 _ => n - (intOf s6).toNat)
      case atStart => exact ⟨0, rfl, by omega, rfl, Below.refl _ _⟩
      case round =>
        clear g0
        obtain ⟨k, rfl, hk, rfl, HWI⟩ := hrel
        have HWW : Hid (Below w.heap.size w wr) := HW.out.trans (HWI.out.mono HW.out.size)
        have g0 : wr.cell? ⟨g, 0, none⟩ = some (.slice A n c) := (HG.out.keep (HWW.out.block _ HG.out.lt)).cell 0
        by_cases hlk : k < n
        · obtain ⟨x, hx⟩ : ∃ x, L[k]? = some x := ⟨_, List.getElem?_eq_getElem (by rw [HN.out]; exact hlk)⟩
          have HS := Lib.hid (onB_snoc y.rf hx)
          generalize onB (L.take k) y.rf = ob at HS ⊢
          have hd2 : decide ((k : Int) < (n : Int)) = true := decide_eq_true (by omega)
          cases ob with
          | true =>
            have HS2 : Hid (onB (L.take (k + 1)) y.rf = true) := by show _ = _; rw [HS.out]; rfl
            clear HS
            go_wp2_with fail
            go_quiet (fail)
            change Exit.inBlock _ _ _ _ (wr.drewN nq)
            replace HWI : Hid (Below wo.heap.size wo (wr.drewN nq)) := below_drewN HWI.out nq
            go_wp2_with fail
            first
              | exact ⟨⟨k + 1, by go_num, by omega, by rw [HS2.out], HWI⟩, by simp [intOf]; omega⟩
              | (go_roundw
                 case rel => exact ⟨k + 1, by go_num, by omega, by rw [HS2.out], HWI⟩
                 case measure => simp [intOf]; omega)
          | false =>
            have HS2 : Hid (onB (L.take (k + 1)) y.rf = decide (y.rf ∈ x.deps)) := by show _ = _; rw [HS.out]; rfl
            have HXI := Lib.hid ((HL.out.each x (List.mem_of_getElem? hx)))
            have HXD : Hid (Reads (fun k => k < wr.heap.size) wr 2 x.DA x.deps.length (refC x.deps)) := reads_below HXI.out.hd HWW.out
            have hdl := HXI.out.hdl
            obtain ⟨b, o, rfl, hbl, hcy⟩ := (reads_below HL.out.row HWW.out).at_ (by rw [HN.out]; omega) (by omega)
            have hd3 : decide (0 ≤ (i : Int)) = true := decide_eq_true (by omega)
            have hd4 : decide (0 ≤ (k : Int)) = true := decide_eq_true (by omega)
            have hgl : g < wr.heap.size := Nat.lt_of_lt_of_le HG.out.lt HWW.out.size
            have y0 : wr.cell? ⟨b, o + i * 5, none⟩ = some (.int .i64 y.a) := hcy _ _ (chsC_at HY.out 0 (by omega))
            have y1 : wr.cell? ⟨b, o + i * 5 + 1, none⟩ = some (.int .i64 y.s) := hcy _ _ (chsC_at HY.out 1 (by omega))
            have y2 : wr.cell? ⟨b, o + i * 5 + 2, none⟩ = some (.int .i64 y.st) := hcy _ _ (chsC_at HY.out 2 (by omega))
            have y3 : wr.cell? ⟨b, o + i * 5 + 3, none⟩ = some (.slice y.DA y.deps.length y.DC) := hcy _ _ (chsC_at HY.out 3 (by omega))
            have y4 : wr.cell? ⟨b, o + i * 5 + 4, none⟩ = some (.slice y.OA y.ops.length y.OC) := hcy _ _ (chsC_at HY.out 4 (by omega))
            have x3 : wr.cell? ⟨b, o + k * 5 + 3, none⟩ = some (.slice x.DA x.deps.length x.DC) := hcy _ _ (chsC_at hx 3 (by omega))
            have KS : ∀ V : World, Below wr.heap.size wr V → V.cell? ⟨g, 0, none⟩ = some (.slice (some ⟨b, o, none⟩) n c) ∧ V.cell? ⟨b, o + k * 5 + 3, none⟩ = some (.slice x.DA x.deps.length x.DC) ∧ V.cell? ⟨b, o + i * 5, none⟩ = some (.int .i64 y.a) ∧ V.cell? ⟨b, o + i * 5 + 1, none⟩ = some (.int .i64 y.s) ∧ V.cell? ⟨b, o + i * 5 + 2, none⟩ = some (.int .i64 y.st) ∧ V.cell? ⟨b, o + i * 5 + 3, none⟩ = some (.slice y.DA y.deps.length y.DC) ∧ V.cell? ⟨b, o + i * 5 + 4, none⟩ = some (.slice y.OA y.ops.length y.OC) ∧ Below wr.heap.size wr V := fun V hv => by
              have e1 : ∀ i, V.cell? ⟨g, i, none⟩ = wr.cell? ⟨g, i, none⟩ := fun i => World.cell?_of_block (hv.block _ hgl)
              have e2 : ∀ i, V.cell? ⟨b, i, none⟩ = wr.cell? ⟨b, i, none⟩ := fun i => World.cell?_of_block (hv.block _ hbl)
              rw [e1]
              simp only [e2]
              exact ⟨g0, x3, y0, y1, y2, y3, y4, hv⟩
            clear hcy hx HS
            go_wp2_with fail
            go_region_held3 (fun w' => w'.cell? ⟨g, 0, none⟩ = some (.slice (some ⟨b, o, none⟩) n c) ∧ w'.cell? ⟨b, o + k * 5 + 3, none⟩ = some (.slice x.DA x.deps.length x.DC) ∧ w'.cell? ⟨b, o + i * 5, none⟩ = some (.int .i64 y.a) ∧ w'.cell? ⟨b, o + i * 5 + 1, none⟩ = some (.int .i64 y.s) ∧ w'.cell? ⟨b, o + i * 5 + 2, none⟩ = some (.int .i64 y.st) ∧ w'.cell? ⟨b, o + i * 5 + 3, none⟩ = some (.slice y.DA y.deps.length y.DC) ∧ w'.cell? ⟨b, o + i * 5 + 4, none⟩ = some (.slice y.OA y.ops.length y.OC) ∧ Below wr.heap.size wr w') (first | exact KS _ (Below.refl _ wr).drew | exact q | go_keep)
              ((first
                | (go_at_call 12; refine (sref_any _ _ _ _ _ _ (by rfl) (by rfl) (by rfl)).mono ?_; rintro e w7 ⟨rfl, hb7⟩; have q := KS w7 (by first | exact below_step q.2.2.2.2.2.2.2 (Nat.le_refl _) hb7 | exact below_step (Below.refl _ wr).drew (Nat.le_refl _) hb7))
                | (go_at_call 10; refine (sHas_any x.deps (y.a, y.s) _ _ _ _ (reads_below HXD.out q.2.2.2.2.2.2.2) (fun _ h => h) hdl).mono ?_; rintro e w7 ⟨rfl, hb7⟩; have q := KS w7 (by first | exact below_step q.2.2.2.2.2.2.2 (Nat.le_refl _) hb7 | exact below_step (Below.refl _ wr).drew (Nat.le_refl _) hb7))))
            all_goals
              replace HWI : Hid (Below wo.heap.size wo w7) := HWI.out.trans (Below.mono q.2.2.2.2.2.2.2 HWI.out.size)
              clear q y0 y1 y2 y3 y4 x3 g0 KS
              go_wp2_with fail
              first
                | exact ⟨⟨k + 1, by go_num, by omega, by rw [HS2.out]; rfl, HWI⟩, by simp [intOf]; omega⟩
                | (go_roundw
                   case rel => exact ⟨k + 1, by go_num, by omega, by rw [HS2.out]; rfl, HWI⟩
                   case measure => simp [intOf]; omega)
        · have hkn : k = n := by omega
          have HLT : Hid (L.take k = L) := List.take_of_length_le (by rw [HN.out]; omega)
          have HOP : Hid (headsGo L (L.take (i + 1)) = if onB L y.rf then headsGo L (L.take i) else putR (headsGo L (L.take i)) y.rf) := headsGo_snoc HY.out
          have hd2 : decide ((k : Int) < (n : Int)) = false := decide_eq_false (by omega)
          rw [HLT.out]
          clear hkn HLT
          generalize onB L y.rf = ob at HOP ⊢
          cases ob with
          | true =>
            have HO2 := Lib.hid (own_below HO.out HWI.out)
            have HEQ : Hid (headsGo L (L.take (i + 1)) = headsGo L (L.take i)) := by show _ = _; rw [HOP.out, if_pos rfl]
            clear HOP
            go_wp2_with fail
            go_roundw
            case rel => exact ⟨i + 1, by go_num, by omega, by show World.ownsRow _ _ _ _ _ _ _; rw [HEQ.out]; exact HO2.out, HWW⟩
            case measure => simp [intOf]; omega
          | false =>
            obtain ⟨b, o, rfl, hbl, hcy⟩ := (reads_below HL.out.row HWW.out).at_ (by rw [HN.out]; omega) (by omega)
            have hd3 : decide (0 ≤ (i : Int)) = true := decide_eq_true (by omega)
            have y0 : wr.cell? ⟨b, o + i * 5, none⟩ = some (.int .i64 y.a) := hcy _ _ (chsC_at HY.out 0 (by omega))
            have y1 : wr.cell? ⟨b, o + i * 5 + 1, none⟩ = some (.int .i64 y.s) := hcy _ _ (chsC_at HY.out 1 (by omega))
            have y2 : wr.cell? ⟨b, o + i * 5 + 2, none⟩ = some (.int .i64 y.st) := hcy _ _ (chsC_at HY.out 2 (by omega))
            have y3 : wr.cell? ⟨b, o + i * 5 + 3, none⟩ = some (.slice y.DA y.deps.length y.DC) := hcy _ _ (chsC_at HY.out 3 (by omega))
            have y4 : wr.cell? ⟨b, o + i * 5 + 4, none⟩ = some (.slice y.OA y.ops.length y.OC) := hcy _ _ (chsC_at HY.out 4 (by omega))
            have hlen : (headsGo L (L.take i)).length ≤ i := Nat.le_trans (headsGo_len' L (L.take i)) (by rw [List.length_take]; omega)
            clear hcy
            go_wp2_with fail
            go_at_call 12
            refine (sref_any _ _ _ _ _ _ (by rfl) (by rfl) (by rfl)).mono ?_
            rintro e w2 ⟨rfl, hb⟩
            have C2 := sPut_any (headsGo L (L.take i)) (y.a, y.s) w.heap.size _ w2 (own_below (own_below HO.out HWI.out) hb) (by omega) (Nat.le_trans HWW.out.size hb.size)
            have HW2 : Hid (Below w.heap.size w w2) := HWW.out.trans (hb.mono HWW.out.size)
            clear hb HO y0 y1 y2 y3 y4 HWI HWW
            go_wp2_with fail
            go_at_call 40
            refine C2.mono ?_
            rintro e w3 ⟨v3, rfl, ho3, hb3, -⟩
            have HO : Hid (w3.ownsRow w.heap.size 25 2 v3 (headsGo L (L.take (i + 1))).length (refC (headsGo L (L.take (i + 1))))) := by show World.ownsRow _ _ _ _ _ _ _; rw [HOP.out, if_neg (by simp)]; exact ho3
            have HW3 : Hid (Below w.heap.size w w3) := HW2.out.trans (hb3.mono HW2.out.size)
            clear C2 ho3 hb3 HOP hlen HW2
            go_wp2_with fail
            go_roundw
            case rel => exact ⟨i + 1, by go_num, by omega, HO, HW3⟩
            case measure => simp [intOf]; omega
    · have hin : i = n := by omega
      have HLT : Hid (L.take i = L) := List.take_of_length_le (by rw [HN.out]; omega)
      have HE : Hid (headsGo L L = headsP L) := rfl
      rw [HLT.out, HE.out] at HO
      go_wp2_with fail
      go_ret
      exact ⟨_, rfl, HO.out, HW.out⟩
end Go.Proofs.YtclgfcjcpbiadaaGreatDoor
