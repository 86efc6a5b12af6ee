/- The law DagAsks: walked. -/
import Derived.Test.YtclgfcjcpbiadaaGreatDoorDagTk
import Derived.Test.YtclgfcjcpbiadaaGreatDoorDag23
import Derived.Test.YtclgfcjcpbiadaaGreatDoorSRef12
import Derived.Deep.DeepCutAuto
import Derived.Deep.CutBlock
set_option linter.unusedVariables false
set_option linter.unusedSimpArgs false
namespace Go.Proofs.YtclgfcjcpbiadaaGreatDoor
open Go.ChangeShapes Go.WideShapes Go.ChangeAt Go.RowKit

/-- no change -/
def zC : ChD := ⟨0, 0, 0, [], none, 0, [], none, 0⟩
theorem zC_in (D : Nat → Prop) (w : World) : ChIn D w zC := ⟨Reads.none_, by simp [zC], Reads.none_, by simp [zC], fun o ho => by cases ho⟩
theorem zC_good : EncG zC.a zC.s zC.st zC.deps zC.ops := by
  have h0 : NatI 0 := ⟨by omega, by omega⟩
  exact ⟨h0, h0, h0, by simp [zC], (fun r hr => by cases hr), by simp [zC], (fun o ho => by cases ho)⟩
/-- what has been found so far -/
def wantC (L : List ChD) (r : Rf) : ChD := (findC L r).getD zC
def wantE (L : List ChD) (r : Rf) : Nat := if r ∈ refsOf L then 0 else 6
theorem want_no {L : List ChD} {r : Rf} (h : r ∉ refsOf L) : wantC L r = zC ∧ wantE L r = 6 := by
  unfold wantC wantE
  rw [findC_none.2 h, if_neg h]
  exact ⟨rfl, rfl⟩
theorem want_snoc {L : List ChD} {r : Rf} {k : Nat} {x : ChD} (hx : L[k]? = some x) (hn : (refsOf L).Nodup) :
    (x.rf = r → wantC (L.take (k + 1)) r = x ∧ wantE (L.take (k + 1)) r = 0) ∧ (x.rf ≠ r → wantC (L.take (k + 1)) r = wantC (L.take k) r ∧ wantE (L.take (k + 1)) r = wantE (L.take k) r) := by
  have ht : L.take (k + 1) = L.take k ++ [x] := by rw [List.take_add_one, hx, Option.toList_some]
  have hnt : (refsOf (L.take (k + 1))).Nodup := by
    refine hn.sublist ?_
    exact (List.take_sublist (k + 1) L).map _
  rw [ht] at hnt ⊢
  refine ⟨fun e => ?_, fun e => ?_⟩
  · unfold wantC wantE
    have hm : x ∈ L.take k ++ [x] := by simp
    have h1 := findC_is hnt hm
    rw [e] at h1
    rw [h1, if_pos (by rw [← e]; exact mem_refs hm)]
    exact ⟨rfl, rfl⟩
  · unfold wantC wantE
    have h1 : findC (L.take k ++ [x]) r = findC (L.take k) r := by
      unfold findC
      rw [List.find?_append]
      have : [x].find? (fun c => decide (c.rf = r)) = none := by simp [e]
      rw [this, Option.or_none]
    have h2 : r ∈ refsOf (L.take k ++ [x]) ↔ r ∈ refsOf (L.take k) := by
      rw [refsOf_append, List.mem_append]
      constructor
      · rintro (h | h)
        · exact h
        · simp only [refsOf, List.map_cons, List.map_nil, List.mem_singleton] at h; exact (e h.symm).elim
      · exact .inl
    rw [h1]
    exact ⟨rfl, by simp only [h2]⟩
/-- are all of them there? -/
def allE (L : List ChD) (hs : List Rf) : Nat := if ∀ r ∈ hs, r ∈ refsOf L then 0 else 6
theorem allE_snoc {L : List ChD} {hs : List Rf} {k : Nat} {d : Rf} (hd : hs[k]? = some d) : allE L (hs.take (k + 1)) = if d ∈ refsOf L then allE L (hs.take k) else 6 := by
  have ht : hs.take (k + 1) = hs.take k ++ [d] := by rw [List.take_add_one, hd, Option.toList_some]
  unfold allE
  rw [ht]
  by_cases h : d ∈ refsOf L
  · rw [if_pos h]
    have : (∀ r ∈ hs.take k ++ [d], r ∈ refsOf L) ↔ (∀ r ∈ hs.take k, r ∈ refsOf L) := by
      constructor
      · intro hh r hr; exact hh r (List.mem_append_left _ hr)
      · intro hh r hr
        rcases List.mem_append.1 hr with h' | h'
        · exact hh r h'
        · rw [List.mem_singleton.1 h']; exact h
    simp only [this]
  · rw [if_neg h, if_neg fun hh => h (hh d (by simp))]
theorem base_eq_find {XL L : List ChD} (h : XL.map ChD.base = L.map ChD.base) {r : Rf} {x y : ChD} (hx : findC XL r = some x) (hy : findC L r = some y) : x.base = y.base := by
  have h1 := find_base XL r
  have h2 := find_base L r
  rw [h, h2, hx, hy] at h1
  exact (Option.some.inj h1).symm
theorem base_refs {XL L : List ChD} (h : XL.map ChD.base = L.map ChD.base) : refsOf XL = refsOf L := by rw [← refs_base XL, ← refs_base L, h]
theorem base_behind {XL L : List ChD} (h : XL.map ChD.base = L.map ChD.base) (hs : List Rf) : behindP XL hs = behindP L hs := by rw [← behind_base XL, ← behind_base L, h]
theorem base_deps {Wp Wr : List ChD} (h : Wp.map ChD.base = Wr.map ChD.base) : Wp.flatMap ChD.deps = Wr.flatMap ChD.deps := by
  have h1 : ∀ l : List ChD, l.flatMap ChD.deps = (l.map ChD.base).flatMap ChD.deps := fun l => by
    rw [List.flatMap_map]; rfl
  rw [h1 Wp, h, ← h1]
/-- both tell of the same that are missing -/
theorem miss_same {XL L Wp Wr : List ChD} {hs S : List Rf} (h : XL.map ChD.base = L.map ChD.base) (hW : Wp.map ChD.base = Wr.map ChD.base) (ha : AscW S) (hn : S.Nodup) (hm : ∀ r, r ∈ S ↔ MissP XL Wp hs r) : S = missGo L Wr (missAll Wr hs) := by
  have hA := aheadR_asc (missGo_asc L Wr (missAll Wr hs))
  refine asc_eq ha hn hA.1 hA.2 fun r => ?_
  rw [hm r, missGo_mem]
  unfold MissP missAll
  rw [base_refs h, base_refs hW, List.mem_append, List.mem_flatMap]
  refine and_congr_left fun _ => or_congr_right ?_
  have := base_deps hW
  rw [← List.mem_flatMap, ← List.mem_flatMap, this]
/-- both tell of the same that is behind -/
theorem behind_same {XL L : List ChD} {hs S out : List Rf} (h : XL.map ChD.base = L.map ChD.base) (ha : AscW S) (hn : S.Nodup) (hm : ∀ r, r ∈ S ↔ r ∈ behindP XL hs) (ho : AscR out) (hom : ∀ r, r ∈ out ↔ r ∈ behindP L hs) : S = out := by
  have hA := aheadR_asc ho
  refine asc_eq ha hn hA.1 hA.2 fun r => ?_
  rw [hm r, hom r, base_behind h]
/-- the cells of what has been found -/
def wcells (c : ChD) : Array Value := #[.int .i64 c.a, .int .i64 c.s, .int .i64 c.st, .slice c.DA c.deps.length c.DC, .slice c.OA c.ops.length c.OC]
theorem wantE_two (L : List ChD) (r : Rf) : wantE L r = 0 ∨ wantE L r = 6 := by unfold wantE; split <;> simp
theorem allE_two (L : List ChD) (hs : List Rf) : allE L hs = 0 ∨ allE L hs = 6 := by unfold allE; split <;> simp
theorem allE_zero {L : List ChD} {hs : List Rf} : allE L hs = 0 ↔ ∀ r ∈ hs, r ∈ refsOf L := by
  unfold allE
  split
  · rename_i h; exact ⟨fun _ => h, fun _ => rfl⟩
  · rename_i h; exact ⟨(fun e => by cases e), fun e => (h e).elim⟩
/-- what Missing tells: the fault, and the list -/
def missK (hs : List Rf) : Nat := if ∀ r ∈ hs, isRef r = true then 0 else 1
def missO (L W : List ChD) (hs : List Rf) : List Rf := if ∀ r ∈ hs, isRef r = true then missGo L W (missAll W hs) else []
theorem smiss_out {L W : List ChD} {hs : List Rf} {base : Nat} {e : Ending} {w' : World} (h : SMissR L W hs base e w') :
    ∃ A c, e = .returned (.tuple #[.slice A (missO L W hs).length c, .int .i64 (missK hs)]) ∧ Reads (fun k => k < w'.heap.size) w' 2 A (missO L W hs).length (refC (missO L W hs)) := by
  unfold missO missK
  rcases h with ⟨h, v, he, ho⟩ | ⟨h, he⟩
  · rw [if_pos h, if_pos h]
    obtain ⟨A, c, rfl, -, -, hr⟩ := Reads.of_own ho
    exact ⟨A, c, he, hr.more fun k hk => (own_lt ho hk).2⟩
  · rw [if_neg h, if_neg h]
    exact ⟨none, 0, he, Reads.none_⟩
theorem miss_out {XL L Wp W : List ChD} {hs : List Rf} {e : Ending} {w' : World} (h : MissingR XL Wp hs e w') (hb : XL.map ChD.base = L.map ChD.base) (hW : Wp.map ChD.base = W.map ChD.base) :
    ∃ A c, e = .returned (.tuple #[.slice A (missO L W hs).length c, errN (missK hs)]) ∧ Reads (fun k => k < w'.heap.size) w' 2 A (missO L W hs).length (refC (missO L W hs)) := by
  unfold missO missK
  rcases h with ⟨h, A, c, S, he, ha, hn, hm, -, hr⟩ | ⟨h, he⟩
  · rw [if_pos h, if_pos h]
    have := miss_same hb hW ha hn hm
    subst this
    exact ⟨A, c, he, hr⟩
  · rw [if_neg h, if_neg h]
    exact ⟨none, 0, he, Reads.none_⟩
theorem asks_behind {XL L : List ChD} {hs out : List Rf} {e : Ending} {w' : World} (h : BehindR XL hs e w') (hb : XL.map ChD.base = L.map ChD.base) (h0 : allE L hs = 0 → AscR out ∧ ∀ r, r ∈ out ↔ r ∈ behindP L hs) (h6 : allE L hs = 6 → out = []) :
    ∃ A c, e = .returned (.tuple #[.slice A out.length c, errN (allE L hs)]) ∧ Reads (fun k => k < w'.heap.size) w' 2 A out.length (refC out) := by
  rcases h with ⟨h, A, c, S, he, ha, hn, hm, -, hr⟩ | ⟨h, he⟩
  · rw [base_refs hb] at h
    have e0 := allE_zero.2 h
    obtain ⟨h1, h2⟩ := h0 e0
    have := behind_same hb ha hn hm h1 h2
    subst this
    rw [e0]
    exact ⟨A, c, he, hr⟩
  · rw [base_refs hb] at h
    have e6 : allE L hs = 6 := (allE_two L hs).resolve_left fun e => h (allE_zero.1 e)
    rw [e6, h6 e6]
    exact ⟨none, 0, he, Reads.none_⟩
set_option maxHeartbeats 16000000 in
set_option maxRecDepth 20000 in
theorem dagAsks_walk (La : List ChD) (A : Option Addr) (cA : Nat) (hs : List Rf) (H : Option Addr) (cH : Nat) (r1 r2 : Int) (w : World) (hl : La.length ≤ 9223372036854775807) (hL : ChsIn (fun k => k < w.heap.size) w A La) (hw : ∀ c ∈ La, ∀ o ∈ c.ops, (Lit.int .i64 o.vn).wf = true)
    (hr : Reads (fun k => k < w.heap.size) w 2 H hs.length (refC hs)) (hhl : hs.length ≤ 900000) (hri : ∀ r ∈ hs, I64R r) (hrr : I64R (r1, r2)) (hE : ErrT w) :
    Calls Tryz.prog 3 #[.slice A La.length cA, .slice H hs.length cH, .agg #[.int .i64 r1, .int .i64 r2]] w fun e w' => e = .returned (.bool true) ∧ Below w.heap.size w w' := by
  obtain ⟨n, hn⟩ : ∃ n, La.length = n := ⟨_, rfl⟩
  obtain ⟨nh, hnh⟩ : ∃ n, hs.length = n := ⟨_, rfl⟩
  have HN := Lib.hid hn
  have HNH := Lib.hid hnh
  have HV := Lib.hid hw
  have HRI := Lib.hid hri
  have HRR := Lib.hid hrr
  rw [hn] at hl ⊢
  rw [hnh] at hr hhl ⊢
  have HHL := Lib.hid hhl
  have hb0 : Below w.heap.size w (w.alloc (.cells #[.int .i64 r1, .int .i64 r2] 25)) := (Below.refl _ w).alloc (Nat.le_refl _) _
  have HL := Lib.hid (hL.below hb0)
  have HR := Lib.hid (reads_below hr hb0)
  have HET := Lib.hid (hE.keep hb0)
  have HQ := Lib.hid (Blk.new w 25 #[.int .i64 r1, .int .i64 r2])
  have HB0 := Lib.hid hb0
  clear hn hnh hL hw hE hr hri hrr hb0
  go_enter Tryz.func3, Tryz.ntmps3
  go_upto_region 1 with fail
  generalize w.alloc (.cells #[.int .i64 r1, .int .i64 r2] 25) = w0 at HL HR HET HQ HB0 ⊢
  generalize hq0 : w.heap.size = q at HQ ⊢
  have HQ0 := Lib.hid hq0
  clear hq0
  have C1 := new_any w0
  go_wp2_with fail
  go_at_call 5
  refine C1.mono ?_
  rintro e w1 ⟨g, bh, bw, bb, rfl, hg1, hh1, hw1, hb1, hne, hsz, hbel⟩
  have HPB1 := Lib.hid (PB.nil hg1 hh1 hw1 hb1 hne)
  have HSZ := Lib.hid hsz
  have HW1 := Lib.hid hbel
  clear C1 hg1 hh1 hw1 hb1 hne hsz hbel
  go_upto_region 3 with fail
  have HG := Lib.hid (Blk.new w1 30 #[.slice none 0 0, .slice none 0 0])
  have hb2 : Below w1.heap.size w1 (w1.alloc (.cells #[.slice none 0 0, .slice none 0 0] 30)) := (Below.refl _ w1).alloc (Nat.le_refl _) _
  have HPB2 := Lib.hid (HPB1.out.below hb2)
  have HW2 : Hid (Below w0.heap.size w0 (w1.alloc (.cells #[.slice none 0 0, .slice none 0 0] 30))) := HW1.out.trans (hb2.mono HW1.out.size)
  have HLT : Hid (g < w1.heap.size ∧ bh < w1.heap.size ∧ bw < w1.heap.size ∧ bb < w1.heap.size ∧ w0.heap.size ≤ w1.heap.size) := ⟨HPB1.out.blk.lt, MapL.lt HPB1.out.mh, MapL.lt HPB1.out.mw, MapL.lt HPB1.out.mb, HW1.out.size⟩
  clear hb2 HPB1 HW1
  generalize w1.alloc (.cells #[.slice none 0 0, .slice none 0 0] 30) = w2 at HG HPB2 HW2 ⊢
  generalize w1.heap.size = gs at HG HLT ⊢
  have HBO : Hid (Both w0.heap.size (fun k => k < w0.heap.size) (fun k => k = gs) w2 g bh bw bb gs [] [] [] []) := by
    have hs := HG.out.lt
    have h1 := HLT.out
    have h2 := HSZ.out
    refine ⟨⟨HPB2.out, ⟨⟨h2.2.2.2, by omega, by omega⟩, ⟨h2.1, by omega, by omega⟩, ⟨h2.2.1, by omega, by omega⟩, ⟨h2.2.2.1, by omega, by omega⟩⟩, (fun x hx => by cases hx), (fun x hx => by cases hx)⟩, ⟨.slice none 0 0, .slice none 0 0, ⟨HG.out, own_nil _ _ _ _, own_nil _ _ _ _, (fun k hk => by cases hk), (fun k => ⟨.inl, fun h => h.elim id fun h => by rcases h with h | h <;> cases h⟩), (fun x hx => by cases hx), (fun x hx => by cases hx), fun k hk => ⟨by omega, fun e => by omega⟩⟩⟩, (fun k hk => hk), (fun k hk => by omega), by omega, Inv.nil, rfl, rfl⟩
  have HIP : Hid (Inv (([] : List (ChD × Nat × List Rf)).map Prod.fst) []) := Inv.nil
  clear HG HPB2 HLT HSZ
  go_upto_region 4 with fail
  go_loopw [9] (fun s9 wr => ∃ (i : Nat) (F : Nat → Prop) (X : List (ChD × Nat × List Rf)) (Wp L Wr : List ChD), s9 = .int .i64 i ∧ i ≤ n ∧ i ≤ 60 ∧ Hid (Inv (X.map Prod.fst) Wp) ∧ Hid (Both w0.heap.size (fun k => k < w0.heap.size) F wr g bh bw bb gs X Wp L Wr) ∧ Hid (Below w0.heap.size w0 wr)) (fun s9 _ => 60 - (intOf s9).toNat)
  case atStart => exact ⟨0, _, [], [], [], [], rfl, by omega, by omega, HIP, HBO, HW2⟩
  case round =>
    clear HIP HBO HW2
    obtain ⟨i, F, X, Wp, L, Wr, rfl, hi, hi60, HIP, HBO, HW⟩ := hrel
    go_upto_region 4 with fail
    go_cut [39] (fun s39 wc => s39 = .bool (decide (i < n ∧ i < 60)) ∧ wc = wr)
    case first =>
      by_cases h1 : i < n
      · by_cases h2 : i < 60
        · have HD : Hid (decide (i < n ∧ i < 60) = true) := decide_eq_true ⟨h1, h2⟩
          have HD6 : Hid (decide ((i : Int) < 60) = true) := decide_eq_true (by omega)
          go_wp2_with fail
          go_meet
          case rel => exact ⟨by rw [HD.out, HD6.out], rfl⟩
        · have HD : Hid (decide (i < n ∧ i < 60) = false) := decide_eq_false fun h => h2 h.2
          have HD6 : Hid (decide ((i : Int) < 60) = false) := decide_eq_false (by omega)
          go_wp2_with fail
          go_meet
          case rel => exact ⟨by rw [HD.out, HD6.out], rfl⟩
      · have HD : Hid (decide (i < n ∧ i < 60) = false) := decide_eq_false fun h => h1 h.1
        go_wp2_with fail
        go_meet
        case rel => exact ⟨by rw [HD.out], rfl⟩
    case rest =>
      obtain ⟨rfl, rfl⟩ := hcut
      obtain ⟨gd, hgd⟩ : ∃ b, decide (i < n ∧ i < 60) = b := ⟨_, rfl⟩
      have HGD := Lib.hid hgd
      rw [hgd]
      clear hgd
      cases gd with
      | true =>
        have hlt6 : i < n ∧ i < 60 := of_decide_eq_true (show decide (i < n ∧ i < 60) = true from HGD.out)
        have HLT6 := Lib.hid hlt6
        have hlt := hlt6.1
        clear hlt6
        obtain ⟨c, hc⟩ : ∃ c, La[i]? = some c := ⟨_, List.getElem?_eq_getElem (by rw [HN.out]; exact hlt)⟩
        have HCM := Lib.hid (List.mem_of_getElem? hc)
        have hrow := reads_below HL.out.row HW.out
        obtain ⟨b1, o1, hA, hbl, hc1⟩ := HL.out.row.at_ (by rw [HN.out]; omega) (by omega)
        obtain ⟨VL, VW, hbm⟩ := HBO.out.bm
        have HCI : Hid (∀ V, Below w0.heap.size w0 V → ChIn (fun k => k < w0.heap.size) V c) := fun V hv => (HL.out.each c HCM.out).keep fun k hk => hv.block k hk
        have HCX : Hid (∀ V, Below w0.heap.size w0 V → ∀ j v, c.cells[j]? = some v → j < 5 → V.cell? ⟨b1, o1 + i * 5 + j, none⟩ = some v) := fun V hv j v hj h5 => by
          have h3 := chsC_at hc j h5
          rw [hj] at h3
          have h4 := hc1 _ _ h3
          rw [← Nat.add_assoc] at h4
          exact (World.cell?_of_block (hv.block _ hbl)).trans h4
        subst hA
        clear hc hrow hbl hc1
        have x0 : wc.cell? ⟨b1, o1 + i * 5, none⟩ = some (.int .i64 c.a) := HCX.out wc HW.out 0 _ rfl (by omega)
        have x1 : wc.cell? ⟨b1, o1 + i * 5 + 1, none⟩ = some (.int .i64 c.s) := HCX.out wc HW.out 1 _ rfl (by omega)
        have x2 : wc.cell? ⟨b1, o1 + i * 5 + 2, none⟩ = some (.int .i64 c.st) := HCX.out wc HW.out 2 _ rfl (by omega)
        have x3 : wc.cell? ⟨b1, o1 + i * 5 + 3, none⟩ = some (.slice c.DA c.deps.length c.DC) := HCX.out wc HW.out 3 _ rfl (by omega)
        have x4 : wc.cell? ⟨b1, o1 + i * 5 + 4, none⟩ = some (.slice c.OA c.ops.length c.OC) := HCX.out wc HW.out 4 _ rfl (by omega)
        have C2 := stake_any L Wr c (fun k => k < w0.heap.size) F VL VW gs wc hbm HBO.out.inv (HCI.out wc HW.out) (HV.out c HCM.out)
        unfold ChD.v at C2
        clear hbm
        go_wp2_with fail
        go_at_call 6
        refine C2.mono ?_
        rintro e w3 ⟨rfl, F', VL', VW', hbm3, hF3, hch3⟩
        have HB3 := Lib.hid hbm3
        have HF3 := Lib.hid hF3
        have HC3 := Lib.hid hch3
        have HW3 : Hid (Below w0.heap.size w0 w3) := HW.out.trans (hch3.below HW.out.size fun k hk => HBO.out.hF k hk)
        have HP3 : Hid (PB w3 g bh bw bb X Wp) := (HBO.out.pbd.keep hch3.size fun k hk _ => hch3.block k hk.2.1 hk.2.2).pb
        clear C2 hbm3 hF3 hch3 x0 x1 x2 x3 x4
        have x0 : w3.cell? ⟨b1, o1 + i * 5, none⟩ = some (.int .i64 c.a) := HCX.out w3 HW3.out 0 _ rfl (by omega)
        have x1 : w3.cell? ⟨b1, o1 + i * 5 + 1, none⟩ = some (.int .i64 c.s) := HCX.out w3 HW3.out 1 _ rfl (by omega)
        have x2 : w3.cell? ⟨b1, o1 + i * 5 + 2, none⟩ = some (.int .i64 c.st) := HCX.out w3 HW3.out 2 _ rfl (by omega)
        have x3 : w3.cell? ⟨b1, o1 + i * 5 + 3, none⟩ = some (.slice c.DA c.deps.length c.DC) := HCX.out w3 HW3.out 3 _ rfl (by omega)
        have x4 : w3.cell? ⟨b1, o1 + i * 5 + 4, none⟩ = some (.slice c.OA c.ops.length c.OC) := HCX.out w3 HW3.out 4 _ rfl (by omega)
        have C3 := take_any X Wp c g bh bw bb w3 HP3.out HIP.out ((HCI.out w3 HW3.out).more fun k hk => Nat.lt_of_lt_of_le hk HW3.out.size) (HV.out c HCM.out)
        unfold ChD.v at C3
        go_wp2_with fail
        go_at_call 7
        refine C3.mono ?_
        rintro e w4 ⟨c', X', hcb, rfl, hpb4, hx4, hch4, hfx4, hfy4⟩
        have hst := step_same (XL := X.map Prod.fst) (Wp := Wp) (L := L) (Wr := Wr) (c := c) (c' := c') (by rw [← mapb]; exact HBO.out.same) HBO.out.sameW hcb
        have hip := takeP_inv HIP.out ((base_same hcb).2.2 (HV.out c HCM.out))
        have hir := takeP_inv HBO.out.inv (HV.out c HCM.out)
        rw [← hx4] at hip hfy4
        have HBO4 := Lib.hid (HBO.out.step HB3.out HF3.out HC3.out hpb4 hch4 hfx4 hfy4 hir (by rw [mapb, hx4]; exact hst.1) hst.2.1)
        have HIP4 := Lib.hid hip
        have HW4 : Hid (Below w0.heap.size w0 w4) := HW3.out.trans (hch4.below HW3.out.size fun k hk => by
          have h2 := HBO.out.pbd.pg
          rcases hk with e | e | e
          · rw [e]; exact h2.2.1.1
          · rw [e]; exact h2.2.2.1.1
          · rw [e]; exact h2.2.2.2.1)
        clear C3 hcb hpb4 hx4 hch4 hfx4 hfy4 hst hip hir HB3 HF3 HC3 HW3 HP3 HBO HIP HW x0 x1 x2 x3 x4
        generalize (takeP (X.map Prod.fst) Wp c').1.2 = Wp' at HBO4 HIP4
        generalize (takeP L Wr c).1.1 = L' at HBO4
        generalize (takeP L Wr c).1.2 = Wr' at HBO4
        go_wp2_with fail
        go_roundw
        case rel => exact ⟨i + 1, F', X', Wp', L', Wr', by go_num, by have := HLT6.out; omega, by have := HLT6.out; omega, HIP4, HBO4, HW4⟩
        case measure => have := HLT6.out; simp [intOf]; omega
      | false =>
        clear HGD
        have HLX : Hid ((X.map Prod.fst).map ChD.base = L.map ChD.base) := by show _ = _; rw [← mapb]; exact HBO.out.same
        have HGL : Hid (∀ c ∈ L, c.err = 0 ∧ ∀ o ∈ c.ops, (Lit.int .i64 o.vn).wf = true) := HBO.out.inv.bk.err
        have HND : Hid ((refsOf L).Nodup) := HBO.out.inv.bk.nodup
        have HML : Hid (L.length ≤ 120 ∧ Wr.length ≤ 120 ∧ X.length ≤ 120 ∧ Wp.length ≤ 120) := by
          have h1 := HBO.out.inv.most
          have h2 := HIP.out.most
          simp only [List.length_map] at h2
          show _ ∧ _ ∧ _ ∧ _
          omega
        obtain ⟨VL2, VW2, hbm2⟩ := HBO.out.bm
        obtain ⟨AL, cL, AW, cW, hg2, hL2, hW2⟩ := hbm2.br
        have s0 : wc.cell? ⟨gs, 0, none⟩ = some (.slice AL L.length cL) := hg2.cell 0
        have C6 := srefs_any L (fun k => k < wc.heap.size) AL cL wc hL2.row (fun _ h => h) (by have := HML.out; omega)
        clear hbm2 hg2 hL2 hW2
        go_wp2_with fail
        go_at_call 8
        refine C6.mono ?_
        rintro e w3 ⟨v3, rfl, ho3, hb⟩
        obtain ⟨A3, c3, hv3, -, -, hr3⟩ := Reads.of_own ho3
        subst hv3
        have HR3 : Hid (Reads (fun k => k < w3.heap.size) w3 2 A3 (refsP L).length (refC (refsP L))) := hr3.more fun k hk => (own_lt ho3 hk).2
        have HBO3 := Lib.hid (HBO.out.below hb)
        have HW3 : Hid (Below w0.heap.size w0 w3) := HW.out.trans (hb.mono HW.out.size)
        have hlr : (refsP L).length ≤ 120 := Nat.le_trans (refsQ_len L) HML.out.1
        have HLR := Lib.hid hlr
        obtain ⟨nr, hnr⟩ : ∃ n, (refsP L).length = n := ⟨_, rfl⟩
        have HNR := Lib.hid hnr
        rw [hnr] at HR3 ⊢
        clear C6 ho3 hr3 hb HBO HW s0 hlr hnr
        -- Has, twice
        have q1 : w3.cell? ⟨q, 0, none⟩ = some (.int .i64 r1) := (HQ.out.keep (HW3.out.block _ HQ.out.lt)).cell 0
        have q2 : w3.cell? ⟨q, 1, none⟩ = some (.int .i64 r2) := (HQ.out.keep (HW3.out.block _ HQ.out.lt)).cell 1
        have C2 := has_any (X.map Prod.fst) (r1, r2) HRR.out g bh (.map (some bw)) (.map (some bb)) w3 HBO3.out.pbd.pb.blk HBO3.out.pbd.pb.mh
        obtain ⟨ha, hha⟩ : ∃ b, decide ((r1, r2) ∈ refsOf L) = b := ⟨_, rfl⟩
        have HHA := Lib.hid hha
        rw [base_refs HLX.out, hha] at C2
        clear hha
        go_wp2_with fail
        go_at_call 9
        refine C2.mono ?_
        rintro e w4 ⟨rfl, hb⟩
        have HBO4 := Lib.hid (HBO3.out.below hb)
        have HW4 : Hid (Below w0.heap.size w0 w4) := HW3.out.trans (hb.mono HW3.out.size)
        have HR4 := Lib.hid (reads_below HR3.out hb)
        clear C2 hb HBO3 HW3 HR3 q1 q2
        have q1 : w4.cell? ⟨q, 0, none⟩ = some (.int .i64 r1) := (HQ.out.keep (HW4.out.block _ HQ.out.lt)).cell 0
        have q2 : w4.cell? ⟨q, 1, none⟩ = some (.int .i64 r2) := (HQ.out.keep (HW4.out.block _ HQ.out.lt)).cell 1
        have C2 := sHas_any (refsP L) (r1, r2) (fun k => k < w4.heap.size) A3 c3 w4 (by rw [HNR.out]; exact HR4.out) (fun _ h => h) (by have := HLR.out; omega)
        rw [show decide ((r1, r2) ∈ refsP L) = ha from by rw [← HHA.out]; exact decide_eq_decide.2 (refsP_mem L _), HNR.out] at C2
        go_wp2_with fail
        go_at_call 10
        refine C2.mono ?_
        rintro e w5 ⟨rfl, hb⟩
        have HBO5 := Lib.hid (HBO4.out.below hb)
        have HW5 : Hid (Below w0.heap.size w0 w5) := HW4.out.trans (hb.mono HW4.out.size)
        have HR5 := Lib.hid (reads_below HR4.out hb)
        clear C2 hb HBO4 HW4 HR4 q1 q2
        -- Change
        have q1 : w5.cell? ⟨q, 0, none⟩ = some (.int .i64 r1) := (HQ.out.keep (HW5.out.block _ HQ.out.lt)).cell 0
        have q2 : w5.cell? ⟨q, 1, none⟩ = some (.int .i64 r2) := (HQ.out.keep (HW5.out.block _ HQ.out.lt)).cell 1
        have C2 := change_any (X.map Prod.fst) r1 r2 HRR.out g bh (.map (some bw)) (.map (some bb)) w5 HBO5.out.pbd.pb.hb (fun c hc => by
          obtain ⟨x, hx, rfl⟩ := List.mem_map.1 hc
          exact (HBO5.out.pbd.pb.inL x hx).more fun k hk => hk.1) (fun c hc => (HIP.out.bk.err c hc).1)
        go_wp2_with fail
        go_at_call 11
        refine C2.mono ?_
        rintro e w6 ⟨hcr, hb⟩
        have hcv : ∃ y : ChD, e = .returned (.tuple #[y.v, errN (wantE L (r1, r2))]) ∧ y.base = (wantC L (r1, r2)).base ∧ ChIn (fun k => k < w6.heap.size) w6 y ∧ (wantE L (r1, r2) = 6 → y = zC) := by
          unfold ChangeR at hcr
          cases hf : findC (X.map Prod.fst) (r1, r2) with
          | none =>
            rw [hf] at hcr
            have h1 : (r1, r2) ∉ refsOf L := by rw [← base_refs HLX.out]; exact findC_none.1 hf
            rw [(want_no h1).1, (want_no h1).2]
            exact ⟨zC, hcr, rfl, zC_in _ _, fun _ => rfl⟩
          | some x =>
            rw [hf] at hcr
            obtain ⟨c', he, hcb, hci⟩ := hcr
            have h1 : (r1, r2) ∈ refsOf L := by
              rw [← base_refs HLX.out, ← (findC_some hf).2]
              exact mem_refs (findC_some hf).1
            obtain ⟨y, hy⟩ : ∃ y, findC L (r1, r2) = some y := by
              cases h : findC L (r1, r2) with
              | some x => exact ⟨x, rfl⟩
              | none => exact absurd h1 (findC_none.1 h)
            have h2 : wantE L (r1, r2) = 0 := by unfold wantE; rw [if_pos h1]
            refine ⟨c', by rw [h2]; exact he, ?_, hci, fun h => by rw [h2] at h; cases h⟩
            unfold wantC
            rw [hy, hcb]
            exact base_eq_find HLX.out hf hy
        obtain ⟨y, rfl, hyb, hyi, hyz⟩ := hcv
        have HYB := Lib.hid hyb
        have HYI := Lib.hid hyi
        have HYZ := Lib.hid hyz
        have HBO6 := Lib.hid (HBO5.out.below hb)
        have HW6 : Hid (Below w0.heap.size w0 w6) := HW5.out.trans (hb.mono HW5.out.size)
        have HR6 := Lib.hid (reads_below HR5.out hb)
        clear C2 hb HBO5 HW5 HR5 q1 q2 hcr hyb hyi hyz
        unfold ChD.v
        go_upto_region 15 with fail
        have hb7 : Below w6.heap.size w6 (w6.alloc (.cells (wcells y) 34)) := (Below.refl _ w6).alloc (Nat.le_refl _) _
        have h13 : Blk (w6.alloc (.cells (wcells y) 34)) w6.heap.size 34 (wcells y) := Blk.new w6 _ _
        have hz7 : w6.heap.size < (w6.alloc (.cells (wcells y) 34)).heap.size := h13.lt
        have hb8 : Below (w6.alloc (.cells (wcells y) 34)).heap.size (w6.alloc (.cells (wcells y) 34)) ((w6.alloc (.cells (wcells y) 34)).alloc (.cells (wcells zC) 34)) := (Below.refl _ _).alloc (Nat.le_refl _) _
        have H16 := Lib.hid (Blk.new (w6.alloc (.cells (wcells y) 34)) 34 (wcells zC))
        have H13 := Lib.hid (h13.keep (hb8.block _ h13.lt))
        have HB8 : Hid (Below w6.heap.size w6 ((w6.alloc (.cells (wcells y) 34)).alloc (.cells (wcells zC) 34))) := hb7.trans (hb8.mono hb7.size)
        have HZ := Lib.hid hz7
        clear hb7 h13 hz7 hb8
        change Code.wp _ _ _ _ ((w6.alloc (.cells (wcells y) 34)).alloc (.cells (wcells zC) 34))
        generalize (w6.alloc (.cells (wcells y) 34)).alloc (.cells (wcells zC) 34) = w8 at H16 H13 HB8 ⊢
        rw [World.size_alloc] at H16
        obtain ⟨q13, hq13⟩ : ∃ k, w6.heap.size = k := ⟨_, rfl⟩
        have HQ13 := Lib.hid hq13
        rw [hq13] at H13 H16 ⊢
        obtain ⟨q16, hq16⟩ : ∃ k, q13 + 1 = k := ⟨_, rfl⟩
        rw [hq16] at H16 ⊢
        replace HZ : Hid (w6.heap.size < q16) := by show _ < _; omega
        clear hq16 hq13
        obtain ⟨nL, hnL⟩ : ∃ k, L.length = k := ⟨_, rfl⟩
        have HNL := Lib.hid hnL
        have hnl : nL ≤ 120 := by rw [← hnL]; exact HML.out.1
        clear hnL
        have HC0 : Hid (Chg (fun j => j = q16) w8 w8) := Chg.refl w8
        go_loopw [15, 17, 18] (fun s15 s17 _ wr => ∃ k : Nat, s17 = .int .i64 k ∧ k ≤ nL ∧ s15 = .int .i64 (wantE (L.take k) (r1, r2)) ∧ Hid (Blk wr q16 34 (wcells (wantC (L.take k) (r1, r2)))) ∧ Hid (Chg (fun j => j = q16) w8 wr)) (fun _ s17 _ _ => nL - (intOf s17).toNat)
        case atStart => exact ⟨0, rfl, by omega, (by rw [List.take_zero, (want_no (by simp [refsOf])).2]; rfl), (by rw [List.take_zero, (want_no (by simp [refsOf])).1]; exact H16), HC0⟩
        case round =>
          clear H16 HC0
          obtain ⟨k, rfl, hk, rfl, H16, HC⟩ := hrel
          have HB9 : Hid (Below w6.heap.size w6 wr) := HB8.out.trans (HC.out.below HB8.out.size (fun j hj => by rw [hj]; exact Nat.le_of_lt HZ.out))
          have HBO9 := Lib.hid (HBO6.out.below HB9.out)
          have HW9 : Hid (Below w0.heap.size w0 wr) := HW6.out.trans (HB9.out.mono HW6.out.size)
          obtain ⟨VL9, VW9, hbm9⟩ := HBO9.out.bm
          obtain ⟨AL, cL, AW, cW, hg9, hL9, hW9⟩ := hbm9.br
          have s0 : wr.cell? ⟨gs, 0, none⟩ = some (.slice AL nL cL) := by rw [← HNL.out]; exact hg9.cell 0
          by_cases hlk : k < nL
          · obtain ⟨x, hx⟩ : ∃ x, L[k]? = some x := ⟨_, List.getElem?_eq_getElem (by rw [HNL.out]; exact hlk)⟩
            obtain ⟨b, o, rfl, hbl, hcy⟩ := hL9.row.at_ (by rw [HNL.out]; omega) (by omega)
            have x0 : wr.cell? ⟨b, o + k * 5, none⟩ = some (.int .i64 x.a) := hcy _ _ (chsC_at hx 0 (by omega))
            have x1 : wr.cell? ⟨b, o + k * 5 + 1, none⟩ = some (.int .i64 x.s) := hcy _ _ (chsC_at hx 1 (by omega))
            have x2 : wr.cell? ⟨b, o + k * 5 + 2, none⟩ = some (.int .i64 x.st) := hcy _ _ (chsC_at hx 2 (by omega))
            have x3 : wr.cell? ⟨b, o + k * 5 + 3, none⟩ = some (.slice x.DA x.deps.length x.DC) := hcy _ _ (chsC_at hx 3 (by omega))
            have x4 : wr.cell? ⟨b, o + k * 5 + 4, none⟩ = some (.slice x.OA x.ops.length x.OC) := hcy _ _ (chsC_at hx 4 (by omega))
            have HXW := Lib.hid (want_snoc (r := (r1, r2)) hx HND.out)
            have HLK := Lib.hid hlk
            have HBL : Hid (b < wr.heap.size ∧ gs < wr.heap.size) := ⟨hbl, hg9.lt⟩
            have HCX : Hid (∀ V, Below wr.heap.size wr V → (V.cell? ⟨gs, 0, none⟩ = some (.slice (some ⟨b, o, none⟩) nL cL)) ∧ ∀ j v, x.cells[j]? = some v → j < 5 → V.cell? ⟨b, o + k * 5 + j, none⟩ = some v) := fun V hv => ⟨(World.cell?_of_block (hv.block _ hg9.lt)).trans s0, fun j v hj h5 => by
              have h3 := chsC_at hx j h5
              rw [hj] at h3
              have h4 := hcy _ _ h3
              rw [← Nat.add_assoc] at h4
              exact (World.cell?_of_block (hv.block _ hbl)).trans h4⟩
            clear hcy hx hbl hg9 hL9 hW9 hbm9
            go_upto_block 3 with fail
            go_cut [15] (fun s15 wc => s15 = .int .i64 (wantE (L.take (k + 1)) (r1, r2)) ∧ Hid (Blk wc q16 34 (wcells (wantC (L.take (k + 1)) (r1, r2)))) ∧ Hid (Chg (fun j => j = q16) w8 wc))
            case first =>
              go_wp2_with fail
              go_at_call 12
              refine (sref_any _ _ _ _ _ _ (by rfl) (by rfl) (by rfl)).mono ?_
              rintro e wa ⟨rfl, hb⟩
              go_upto_region 18 with fail
              have hba : Below wr.heap.size wr (wa.alloc (.cells #[.int .i64 x.a, .int .i64 x.s] 25)) := hb.alloc hb.size _
              have HQa := Lib.hid (Blk.new wa 25 #[.int .i64 x.a, .int .i64 x.s])
              have HBa := Lib.hid hba
              have H16a := Lib.hid (H16.out.keep (hba.block _ H16.out.lt))
              have HCa : Hid (Chg (fun j => j = q16) w8 (wa.alloc (.cells #[.int .i64 x.a, .int .i64 x.s] 25))) := HC.out.trans (Chg.of_below hba) fun _ _ h => h
              have HWa : Hid (Below w0.heap.size w0 (wa.alloc (.cells #[.int .i64 x.a, .int .i64 x.s] 25))) := HW9.out.trans (hba.mono HW9.out.size)
              clear hb hba H16 HC s0 x0 x1 x2 x3 x4 HB9 HBO9 HW9
              generalize wa.alloc (.cells #[.int .i64 x.a, .int .i64 x.s] 25) = V at HQa HBa H16a HCa HWa ⊢
              generalize wa.heap.size = qa at HQa ⊢
              have a1 : V.cell? ⟨qa, 0, none⟩ = some (.int .i64 x.a) := HQa.out.cell 0
              have a2 : V.cell? ⟨qa, 1, none⟩ = some (.int .i64 x.s) := HQa.out.cell 1
              have q1 : V.cell? ⟨q, 0, none⟩ = some (.int .i64 r1) := (HQ.out.keep (HWa.out.block _ HQ.out.lt)).cell 0
              have q2 : V.cell? ⟨q, 1, none⟩ = some (.int .i64 r2) := (HQ.out.keep (HWa.out.block _ HQ.out.lt)).cell 1
              have E := fun w => eq_ref x.a x.s r1 r2 w
              obtain ⟨eb, heb⟩ : ∃ b, decide ((x.a, x.s) = (r1, r2)) = b := ⟨_, rfl⟩
              have HEB := Lib.hid heb
              rw [heb] at E
              clear heb
              cases eb with
              | true =>
                have hxr : (x.a, x.s) = (r1, r2) := of_decide_eq_true HEB.out
                have HE0 : Hid (wantE (L.take (k + 1)) (r1, r2) = 0) := (HXW.out.1 hxr).2
                have HE1 : Hid (wantC (L.take (k + 1)) (r1, r2) = x) := (HXW.out.1 hxr).1
                have s0 := (HCX.out V HBa.out).1
                have hrg : V.rangeAt b (o + k * 5) [.int .i64 x.a, .int .i64 x.s, .int .i64 x.st, .slice x.DA x.deps.length x.DC, .slice x.OA x.ops.length x.OC] := fun j u hj => (HCX.out V HBa.out).2 j u hj (by have := (List.getElem?_eq_some_iff.1 hj).1; simpa using this)
                have HRG := Lib.hid hrg
                have H16b : Hid (Blk (V.setCells q16 0 [.int .i64 x.a, .int .i64 x.s, .int .i64 x.st, .slice x.DA x.deps.length x.DC, .slice x.OA x.ops.length x.OC]) q16 34 (wcells (wantC (L.take (k + 1)) (r1, r2)))) := by
                  show Blk _ _ _ _
                  rw [HE1.out]
                  exact H16a.out.set5 _ _ _ _ _
                have HCb : Hid (Chg (fun j => j = q16) w8 (V.setCells q16 0 [.int .i64 x.a, .int .i64 x.s, .int .i64 x.st, .slice x.DA x.deps.length x.DC, .slice x.OA x.ops.length x.OC])) := chg_setCells _ _ HCa.out
                clear hxr hrg
                go_upto_region 20 with fail
                go_wp2_with (first | refine wpList_load_mid rfl 34 (.tmp 97) rfl b (o + k * 5) rfl [.int .i64 x.a, .int .i64 x.s, .int .i64 x.st, .slice x.DA x.deps.length x.DC, .slice x.OA x.ops.length x.OC] _ HRG.out Tryz.underlying34 rfl info_ch ?_ | refine wpList_store_mid rfl 34 (.tmp 16) (.tmp 98) rfl q16 0 #[.int .i64 x.a, .int .i64 x.s, .int .i64 x.st, .slice x.DA x.deps.length x.DC, .slice x.OA x.ops.length x.OC] rfl rfl (Blk.there H16a.out rfl) info_ch (ch_one _ _ _ _ _ _ _ _ _) ?_)
                go_meet
                case rel => exact ⟨by rw [HE0.out]; rfl, H16b, HCb⟩
              | false =>
                have hxr : ¬ (x.a, x.s) = (r1, r2) := of_decide_eq_false HEB.out
                have HE0 : Hid (wantE (L.take (k + 1)) (r1, r2) = wantE (L.take k) (r1, r2)) := (HXW.out.2 hxr).2
                have HE1 : Hid (wantC (L.take (k + 1)) (r1, r2) = wantC (L.take k) (r1, r2)) := (HXW.out.2 hxr).1
                clear hxr
                go_wp2_with fail
                go_meet
                case rel => exact ⟨by rw [HE0.out], by show Blk _ _ _ _; rw [HE1.out]; exact H16a.out, HCa⟩
            case rest =>
              obtain ⟨rfl, H16b, HCb⟩ := hcut
              clear H16 HC HCX HXW x0 x1 x2 x3 x4 s0 HB9 HBO9 HW9
              go_wp2_with fail
              go_roundw
              case rel => exact ⟨k + 1, by go_num, by have := HLK.out; omega, rfl, H16b, HCb⟩
              case measure => have := HLK.out; simp [intOf]; omega
          · have HLT : Hid (L.take k = L) := List.take_of_length_le (by rw [HNL.out]; omega)
            rw [HLT.out] at H16 ⊢
            have hkn : k = nL := by omega
            clear hg9 hL9 hW9 hbm9
            obtain ⟨ke, hke⟩ : ∃ e, wantE L (r1, r2) = e := ⟨_, rfl⟩
            have HKE := Lib.hid hke
            rw [hke]
            have H13a : Hid (Blk wr q13 34 (wcells y)) := H13.out.keep (HC.out.block _ H13.out.lt (fun e => by have e : q13 = q16 := e; have := HZ.out; have := HQ13.out; omega))
            have HR9 := Lib.hid (reads_below HR6.out HB9.out)
            have HYI9 : Hid (ChIn (fun k => k < wr.heap.size) wr y) := (HYI.out.keep fun k hk => HB9.out.block k hk).more fun k hk => Nat.lt_of_lt_of_le hk HB9.out.size
            have C4 := told_same ke wr (HET.out.keep HW9.out)
            clear hke H13 HC HB8 HR6 HYI
            go_wp2_with fail
            go_at_call 13
            refine C4.mono ?_
            rintro e wa ⟨rfl, hb⟩
            have HBOa := Lib.hid (HBO9.out.below hb)
            have HWa : Hid (Below w0.heap.size w0 wa) := HW9.out.trans (hb.mono HW9.out.size)
            have H13b := Lib.hid (H13a.out.keep (hb.block _ H13a.out.lt))
            have H16b := Lib.hid (H16.out.keep (hb.block _ H16.out.lt))
            have HRa := Lib.hid (reads_below HR9.out hb)
            have HYIa : Hid (ChIn (fun k => k < wa.heap.size) wa y) := (HYI9.out.keep fun k hk => hb.block k hk).more fun k hk => Nat.lt_of_lt_of_le hk hb.size
            clear C4 hb HBO9 HW9 H13a H16 HR9 HYI9 HB9 s0
            obtain ⟨z, hz⟩ : ∃ z, wantC L (r1, r2) = z := ⟨_, rfl⟩
            have HZB : Hid (y.base = z.base) := by show _ = _; rw [← hz]; exact HYB.out
            have hzin : ChIn (fun k => k < wa.heap.size) wa z ∧ EncG z.a z.s z.st z.deps z.ops ∧ (ke = 0 → EncG y.a y.s y.st y.deps y.ops) := by
              obtain ⟨VLa, VWa, hbma⟩ := HBOa.out.bm
              obtain ⟨AL, cL, AW, cW, hga, hLa, hWa⟩ := hbma.br
              rw [← hz, ← HKE.out]
              unfold wantC wantE
              cases hf : findC L (r1, r2) with
              | none =>
                refine ⟨zC_in _ _, zC_good, fun h => ?_⟩
                rw [if_neg (findC_none.1 hf)] at h
                cases h
              | some x =>
                obtain ⟨hx, -⟩ := findC_some hf
                refine ⟨hLa.each x hx, good_encG (HGL.out x hx).1 (HGL.out x hx).2, fun _ => ?_⟩
                have hyx : y.base = x.base := by
                  have := HYB.out
                  unfold wantC at this
                  rw [hf] at this
                  exact this
                obtain ⟨-, e2, e3⟩ := base_same hyx
                exact good_encG ((base_parts hyx).2.2.2.2.trans (HGL.out x hx).1) (e3 (HGL.out x hx).2)
            rw [hz] at H16b
            have hyg : EncG y.a y.s y.st y.deps y.ops := by
              rcases wantE_two L (r1, r2) with h | h
              · exact hzin.2.2 (by rw [← HKE.out]; exact h)
              · rw [HYZ.out h]; exact zC_good
            have C5 := same_ch y z wa HYIa.out hzin.1 hyg hzin.2.1 HZB.out
            unfold ChD.v at C5
            clear hz hzin hyg
            have y0 : wa.cell? ⟨q13, 0, none⟩ = some (.int .i64 y.a) := H13b.out.cell 0
            have y1 : wa.cell? ⟨q13, 1, none⟩ = some (.int .i64 y.s) := H13b.out.cell 1
            have y2 : wa.cell? ⟨q13, 2, none⟩ = some (.int .i64 y.st) := H13b.out.cell 2
            have y3 : wa.cell? ⟨q13, 3, none⟩ = some (.slice y.DA y.deps.length y.DC) := H13b.out.cell 3
            have y4 : wa.cell? ⟨q13, 4, none⟩ = some (.slice y.OA y.ops.length y.OC) := H13b.out.cell 4
            have z0 : wa.cell? ⟨q16, 0, none⟩ = some (.int .i64 z.a) := H16b.out.cell 0
            have z1 : wa.cell? ⟨q16, 1, none⟩ = some (.int .i64 z.s) := H16b.out.cell 1
            have z2 : wa.cell? ⟨q16, 2, none⟩ = some (.int .i64 z.st) := H16b.out.cell 2
            have z3 : wa.cell? ⟨q16, 3, none⟩ = some (.slice z.DA z.deps.length z.DC) := H16b.out.cell 3
            have z4 : wa.cell? ⟨q16, 4, none⟩ = some (.slice z.OA z.ops.length z.OC) := H16b.out.cell 4
            go_wp2_with fail
            go_at_call 14
            refine C5.mono ?_
            rintro e wb ⟨rfl, hb⟩
            have HBOb := Lib.hid (HBOa.out.below hb)
            have HWb : Hid (Below w0.heap.size w0 wb) := HWa.out.trans (hb.mono HWa.out.size)
            have H13c := Lib.hid (H13b.out.keep (hb.block _ H13b.out.lt))
            have HRb := Lib.hid (reads_below HRa.out hb)
            clear C5 hb HBOa HWa H13b H16b HRa HYIa y0 y1 y2 y3 y4 z0 z1 z2 z3 z4
            go_upto_region 23 with fail
            go_cut [142] (fun s142 wc => s142 = .bool false ∧ wc = wb)
            case first =>
              rcases wantE_two L (r1, r2) with h | h
              · rw [HKE.out] at h
                subst h
                cases ha with
                | true =>
                  go_wp2_with fail
                  go_meet
                  case rel => exact ⟨rfl, rfl⟩
                | false =>
                  go_wp2_with fail
                  go_meet
                  case rel => exact ⟨rfl, rfl⟩
              · have hyz := HYZ.out h
                rw [HKE.out] at h
                subst h
                subst hyz
                have y0 : wb.cell? ⟨q13, 0, none⟩ = some (.int .i64 0) := H13c.out.cell 0
                have y1 : wb.cell? ⟨q13, 1, none⟩ = some (.int .i64 0) := H13c.out.cell 1
                have y2 : wb.cell? ⟨q13, 2, none⟩ = some (.int .i64 0) := H13c.out.cell 2
                have y3 : wb.cell? ⟨q13, 3, none⟩ = some (.slice none 0 0) := H13c.out.cell 3
                have y4 : wb.cell? ⟨q13, 4, none⟩ = some (.slice none 0 0) := H13c.out.cell 4
                cases ha with
                | true =>
                  go_wp2_with fail
                  go_meet
                  case rel => exact ⟨rfl, rfl⟩
                | false =>
                  go_wp2_with fail
                  go_meet
                  case rel => exact ⟨rfl, rfl⟩
            case rest =>
              obtain ⟨rfl, rfl⟩ := hcut
              clear H13c
              go_upto_region 27 with fail
              have hbr : Below wc.heap.size wc wc := Below.refl _ wc
              have HBR := Lib.hid hbr
              clear hbr
              go_loopw [12, 15, 21] (fun _ s15 s21 wr => ∃ k : Nat, s21 = .int .i64 k ∧ k ≤ nh ∧ s15 = .int .i64 (allE L (hs.take k)) ∧ Hid (Below wc.heap.size wc wr)) (fun _ _ s21 _ => nh - (intOf s21).toNat)
              case atStart => exact ⟨0, rfl, by omega, (by rw [List.take_zero]; rfl), HBR⟩
              case round =>
                clear HBR
                obtain ⟨k, rfl, hk, rfl, HBR⟩ := hrel
                have HWr : Hid (Below w0.heap.size w0 wr) := HWb.out.trans (HBR.out.mono HWb.out.size)
                have HRr := Lib.hid (reads_below HRb.out HBR.out)
                by_cases hlk : k < nh
                · obtain ⟨d, hd⟩ : ∃ d, hs[k]? = some d := ⟨_, List.getElem?_eq_getElem (by rw [HNH.out]; exact hlk)⟩
                  obtain ⟨b1, o1, rfl, hbl, hc1⟩ := HR.out.at_ (by omega) (by omega)
                  have x1 : wr.cell? ⟨b1, o1 + k * 2, none⟩ = some (.int .i64 d.1) := (World.cell?_of_block (HWr.out.block _ hbl)).trans (hc1 _ _ (refC_at hd).1)
                  have x2 : wr.cell? ⟨b1, o1 + k * 2 + 1, none⟩ = some (.int .i64 d.2) := (World.cell?_of_block (HWr.out.block _ hbl)).trans (hc1 _ _ (refC_at hd).2)
                  have HAS := Lib.hid (allE_snoc (L := L) hd)
                  have HLK := Lib.hid hlk
                  have C6 := sHas_any (refsP L) d (fun k => k < wr.heap.size) A3 c3 wr (by rw [HNR.out]; exact HRr.out) (fun _ h => h) (by have := HLR.out; omega)
                  rw [HNR.out] at C6
                  obtain ⟨ok, hok⟩ : ∃ b, decide (d ∈ refsP L) = b := ⟨_, rfl⟩
                  have HOK := Lib.hid hok
                  rw [hok] at C6
                  clear hd hbl hc1 hok
                  go_wp2_with fail
                  go_at_call 10
                  refine C6.mono ?_
                  rintro e w2 ⟨rfl, hb⟩
                  have HB2 : Hid (Below wc.heap.size wc w2) := HBR.out.trans (hb.mono HBR.out.size)
                  clear C6 hb x1 x2 HBR HWr HRr
                  cases ok with
                  | true =>
                    have HE : Hid (allE L (hs.take (k + 1)) = allE L (hs.take k)) := by show _ = _; rw [HAS.out, if_pos ((refsP_mem L d).1 (of_decide_eq_true HOK.out))]
                    clear HAS HOK
                    go_wp2_with fail
                    go_roundw
                    case rel => exact ⟨k + 1, by go_num, by have := HLK.out; omega, by rw [HE.out], HB2⟩
                    case measure => have := HLK.out; simp [intOf]; omega
                  | false =>
                    have HE : Hid (allE L (hs.take (k + 1)) = 6) := by show _ = _; rw [HAS.out, if_neg (fun h => of_decide_eq_false HOK.out ((refsP_mem L d).2 h))]
                    clear HAS HOK
                    go_wp2_with fail
                    go_roundw
                    case rel => exact ⟨k + 1, by go_num, by have := HLK.out; omega, by rw [HE.out]; rfl, HB2⟩
                    case measure => have := HLK.out; simp [intOf]; omega
                · have HLT2 : Hid (hs.take k = hs) := List.take_of_length_le (by rw [HNH.out]; omega)
                  rw [HLT2.out]
                  obtain ⟨ae, hae⟩ : ∃ e, allE L hs = e := ⟨_, rfl⟩
                  have HAE := Lib.hid hae
                  rw [hae]
                  have hkn : k = nh := by omega
                  have HBOr := Lib.hid (HBOb.out.below HBR.out)
                  clear hae HLT2
                  go_upto_if 158 with fail
                  go_cut [22] (fun s22 wd => ∃ (A : Option Addr) (c : Nat) (out : List Rf), s22 = .slice A out.length c ∧ Hid (Reads (fun k => k < wd.heap.size) wd 2 A out.length (refC out)) ∧ Hid (allE L hs = 0 → AscR out ∧ ∀ r, r ∈ out ↔ r ∈ behindP L hs) ∧ Hid (allE L hs = 6 → out = []) ∧ Hid (out.length ≤ 120) ∧ Hid (Below wr.heap.size wr wd))
                  case first =>
                    rcases allE_two L hs with h | h
                    · have h0 := h
                      rw [HAE.out] at h
                      subst h
                      obtain ⟨VLr, VWr, hbmr⟩ := HBOr.out.bm
                      obtain ⟨AL, cL, AW, cW, hgr, hLr, hWr⟩ := hbmr.br
                      have s0 : wr.cell? ⟨gs, 0, none⟩ = some (.slice AL L.length cL) := hgr.cell 0
                      have C6 := sBehind_any L hs AL cL H cH wr hLr (by rw [HNH.out]; exact reads_below HR.out HWr.out) HBOr.out.inv.bk.top HND.out (fun c hc => (err_ok (HGL.out c hc).1).2.2.2) HML.out.1 (by rw [HNH.out]; have := HHL.out; omega)
                      rw [HNH.out] at C6
                      have HA0 := Lib.hid h0
                      clear hgr hLr hWr hbmr h0 hlk hkn
                      go_wp2_with fail
                      go_at_call 15
                      refine C6.mono ?_
                      rintro e w2 ⟨v, out, rfl, ho, ha, hm, hl12, hb⟩
                      obtain ⟨A2, c2, rfl, -, -, hr2⟩ := Reads.of_own ho
                      have HR2 : Hid (Reads (fun k => k < w2.heap.size) w2 2 A2 out.length (refC out)) := hr2.more fun k hk => (own_lt ho hk).2
                      have HB2 := Lib.hid hb
                      have HP1 : Hid (allE L hs = 0 → AscR out ∧ ∀ r, r ∈ out ↔ r ∈ behindP L hs) := fun _ => ⟨ha, hm⟩
                      have HP2 : Hid (allE L hs = 6 → out = []) := fun e => by rw [HA0.out] at e; cases e
                      have HP3 : Hid (out.length ≤ 120) := hl12
                      clear C6 ho ha hm hl12 hb hr2 s0
                      go_wp2_with fail
                      go_meet
                      case rel => exact ⟨A2, c2, out, rfl, HR2, HP1, HP2, HP3, HB2⟩
                    · have h0 := h
                      rw [HAE.out] at h
                      subst h
                      have HA0 := Lib.hid h0
                      clear h0 hlk hkn
                      have HB2 : Hid (Below wr.heap.size wr wr) := Below.refl _ wr
                      have HP1 : Hid (allE L hs = 0 → AscR ([] : List Rf) ∧ ∀ r, r ∈ ([] : List Rf) ↔ r ∈ behindP L hs) := fun e => by rw [HA0.out] at e; cases e
                      have HP3 : Hid (([] : List Rf).length ≤ 120) := by show _ ≤ _; simp
                      go_wp2_with fail
                      go_meet
                      case rel => exact ⟨none, 0, [], rfl, Reads.none_, HP1, Lib.hid (fun _ => rfl), HP3, HB2⟩
                  case rest =>
                    obtain ⟨A2, c2, out, rfl, HR2, HP1, HP2, HP3, HB2⟩ := hcut
                    obtain ⟨no, hno⟩ : ∃ n, out.length = n := ⟨_, rfl⟩
                    have HNO := Lib.hid hno
                    rw [hno] at HR2 HP3 ⊢
                    have HBO2 := Lib.hid (HBOr.out.below HB2.out)
                    have HW2 : Hid (Below w0.heap.size w0 wc) := HWr.out.trans (HB2.out.mono HWr.out.size)
                    have C6 := behind_any X Wp hs H cH g bh bw bb wc HBO2.out.pbd.pb (by rw [HNH.out]; exact reads_below HR.out HW2.out) HRI.out (by rw [HNH.out]; have := HHL.out; omega) HIP.out.bk (by have := HML.out; omega)
                    rw [HNH.out] at C6
                    clear hno HBR HBOr HWr HRr HB2
                    go_wp2_with fail
                    go_at_call 16
                    refine C6.mono ?_
                    rintro e we ⟨hbe, hb⟩
                    obtain ⟨A4, c4, rfl, hr4⟩ := asks_behind hbe HLX.out HP1.out HP2.out
                    have HR4 := Lib.hid hr4
                    have HBO4 := Lib.hid (HBO2.out.below hb)
                    have HW4 : Hid (Below w0.heap.size w0 we) := HW2.out.trans (hb.mono HW2.out.size)
                    have HR24 := Lib.hid (reads_below HR2.out hb)
                    rw [HAE.out]
                    rw [HNO.out] at HR4 ⊢
                    have C7 := told_same ae we (HET.out.keep HW4.out)
                    clear C6 hbe hb hr4 HBO2 HW2 HR2 HP1 HP2
                    go_wp2_with fail
                    go_at_call 13
                    refine C7.mono ?_
                    rintro e wf ⟨rfl, hb⟩
                    have HBO5 := Lib.hid (HBO4.out.below hb)
                    have HW5 : Hid (Below w0.heap.size w0 wf) := HW4.out.trans (hb.mono HW4.out.size)
                    have HR5 := Lib.hid (reads_below HR4.out hb)
                    have HR25 := Lib.hid (reads_below HR24.out hb)
                    have C8 := sameRefs_any out out (fun k => k < wf.heap.size) (fun k => k < wf.heap.size) A4 A2 c4 c2 wf (by rw [HNO.out]; exact HR5.out) (by rw [HNO.out]; exact HR25.out) (by have := HP3.out; have := HNO.out; omega)
                    rw [decide_eq_true rfl, HNO.out] at C8
                    clear C7 hb HBO4 HW4 HR4 HR24
                    go_wp2_with fail
                    go_at_call 17
                    refine C8.mono ?_
                    rintro e wg ⟨rfl, m8, hm8⟩
                    have hb8 : Below wf.heap.size wf wg := by rw [hm8]; exact below_drewN (Below.refl _ wf) m8
                    have HBO6 := Lib.hid (HBO5.out.below hb8)
                    have HW6 : Hid (Below w0.heap.size w0 wg) := HW5.out.trans (hb8.mono HW5.out.size)
                    obtain ⟨VLr, VWr, hbmr⟩ := HBO6.out.bm
                    have C9 := sMissing_any L Wr hs H cH gs wg hbmr.br (by rw [HNH.out]; exact reads_below HR.out HW6.out) (by rw [HNH.out]; exact HHL.out) (by have := HML.out; omega) (by have := HML.out; omega) (fun c hc => (err_ok (HBO6.out.inv.good c hc).1).2.2.2)
                    rw [HNH.out] at C9
                    clear C8 hm8 hb8 HBO5 HW5 HR5 HR25 hbmr hlk hkn
                    go_wp2_with fail
                    go_at_call 18
                    refine C9.mono ?_
                    rintro e wh ⟨hsm, hb⟩
                    obtain ⟨A5, c5, rfl, hr5⟩ := smiss_out hsm
                    have HR5 := Lib.hid hr5
                    have HBO7 := Lib.hid (HBO6.out.below hb)
                    have HW7 : Hid (Below w0.heap.size w0 wh) := HW6.out.trans (hb.mono HW6.out.size)
                    have hlm : (missO L Wr hs).length ≤ 9223372036854775807 := by
                      unfold missO
                      split
                      · have h1 := missGo_len L Wr (missAll Wr hs)
                        have h2 := missAll_len (W := Wr) (hs := hs) (n := Wr.length) (Nat.le_refl _) (fun c hc => (err_ok (HBO6.out.inv.good c hc).1).2.2.2)
                        rw [List.take_of_length_le (Nat.le_refl _), HNH.out] at h2
                        have h3 := HML.out
                        have h4 := HHL.out
                        omega
                      · simp
                    have C10 := missing_any X Wp hs H cH g bh bw bb wh HBO7.out.pbd.pb (by rw [HNH.out]; exact reads_below HR.out HW7.out) (by rw [HNH.out]; exact HHL.out) HIP.out.nd (by have := HML.out; omega) (fun c hc => (HBO7.out.pbd.pb.inW c hc).more fun k hk => hk.1) (fun c hc => (HIP.out.good c hc).1)
                    rw [HNH.out] at C10
                    have HMO := Lib.hid (fun (e : Ending) (w' : World) (h : MissingR (X.map Prod.fst) Wp hs e w') => miss_out h HLX.out HBO7.out.sameW)
                    generalize missO L Wr hs = mo at HR5 HMO hlm ⊢
                    generalize missK hs = mk at HMO ⊢
                    obtain ⟨nm, hnm⟩ : ∃ n, mo.length = n := ⟨_, rfl⟩
                    have HNM := Lib.hid hnm
                    rw [hnm] at HR5 hlm ⊢
                    clear C9 hsm hb hr5 hnm HBO6 HW6
                    go_wp2_with fail
                    go_at_call 19
                    refine C10.mono ?_
                    rintro e wi ⟨hpm, hb⟩
                    obtain ⟨A6, c6, rfl, hr6⟩ := HMO.out e wi hpm
                    have HR6 := Lib.hid hr6
                    have HW8 : Hid (Below w0.heap.size w0 wi) := HW7.out.trans (hb.mono HW7.out.size)
                    have HR56 := Lib.hid (reads_below HR5.out hb)
                    rw [HNM.out] at HR6 ⊢
                    have C11 := told_same mk wi (HET.out.keep HW8.out)
                    clear C10 hpm hb hr6 HBO7 HW7 HR5 HMO
                    go_wp2_with fail
                    go_at_call 13
                    refine C11.mono ?_
                    rintro e wj ⟨rfl, hb⟩
                    have HW9 : Hid (Below w0.heap.size w0 wj) := HW8.out.trans (hb.mono HW8.out.size)
                    have C12 := sameRefs_any mo mo (fun k => k < wj.heap.size) (fun k => k < wj.heap.size) A5 A6 c5 c6 wj (by rw [HNM.out]; exact reads_below HR56.out hb) (by rw [HNM.out]; exact reads_below HR6.out hb) (by rw [HNM.out]; exact hlm)
                    rw [decide_eq_true rfl, HNM.out] at C12
                    clear C11 hb HR6 HR56 HW8
                    go_wp2_with fail
                    go_at_call 17
                    refine C12.mono ?_
                    rintro e wk ⟨rfl, m9, hm9⟩
                    have HWF : Hid (Below w.heap.size w wk) := HB0.out.trans (Below.mono (by rw [hm9]; exact below_drewN HW9.out m9 : Below w0.heap.size w0 wk) HB0.out.size)
                    clear C12 hm9 HW9
                    go_wp2_with fail
                    go_ret
                    exact ⟨rfl, HWF.out⟩
end Go.Proofs.YtclgfcjcpbiadaaGreatDoor
