/- The law DagTakes: walked. -/
import Derived.Test.YtclgfcjcpbiadaaGreatDoorDag14
import Derived.Test.YtclgfcjcpbiadaaGreatDoorM38
import Derived.Test.YtclgfcjcpbiadaaGreatDoorM35
import Derived.Test.YtclgfcjcpbiadaaGreatDoorAs
set_option linter.unusedVariables false
set_option linter.unusedSimpArgs false
namespace Go.Proofs.YtclgfcjcpbiadaaGreatDoor
open Go.ChangeShapes Go.WideShapes Go.ChangeAt Go.RowKit

theorem told_same (k : Nat) (w : World) (hE : ErrT w) : Calls Tryz.prog 13 #[errN k, .int .i64 k] w fun e w' => e = .returned (.bool true) ∧ Below w.heap.size w w' := by
  have := same_error k k w hE
  rwa [show ((k : Int) == (k : Int)) = true from by simp] at this
theorem step_same {XL Wp L Wr : List ChD} {c c' : ChD} (h1 : XL.map ChD.base = L.map ChD.base) (h2 : Wp.map ChD.base = Wr.map ChD.base) (h3 : c'.base = c.base) :
    (takeP XL Wp c').1.1.map ChD.base = (takeP L Wr c).1.1.map ChD.base ∧ (takeP XL Wp c').1.2.map ChD.base = (takeP L Wr c).1.2.map ChD.base ∧ (takeP XL Wp c').2 = (takeP L Wr c).2 := by
  have a := take_base XL Wp c'
  have b := take_base L Wr c
  rw [h1, h2, h3, b] at a
  simp only [Prod.mk.injEq] at a
  exact ⟨a.1.1.symm, a.1.2.symm, a.2.symm⟩
theorem allGo_mem (L : List ChD) : ∀ (n : Nat) (out : List ChD), ∀ c ∈ allGo L n out, c ∈ out ∨ c ∈ L
  | 0, out, c, h => .inl h
  | n + 1, out, c, h => by
    unfold allGo at h
    split at h
    · exact .inl h
    · split at h
      · exact .inl h
      · rename_i x hx
        rcases allGo_mem L n _ c h with h | h
        · rcases List.mem_append.1 h with h | h
          · exact .inl h
          · rw [List.mem_singleton.1 h]; exact .inr (List.mem_of_getElem? hx)
        · exact .inr h
theorem allP_mem {L : List ChD} {c : ChD} (h : c ∈ allP L) : c ∈ L := (allGo_mem L _ _ c h).elim (fun h => by cases h) id
theorem refsQ_len (W : List ChD) : (refsP W).length ≤ W.length := by
  have := nodup_le (aheadR_asc (refsP_asc W)).2 (fun q hq => (refsP_mem W q).1 hq)
  simpa [refsOf] using this
theorem headsQ_len (W : List ChD) : (headsP W).length ≤ W.length := by
  have := nodup_le (aheadR_asc (headsP_asc W)).2 (fun q hq => ((headsP_mem W q).1 hq).1)
  simpa [refsOf] using this
theorem allGo_len (L : List ChD) : ∀ (n : Nat) (out : List ChD), (allGo L n out).length ≤ n + out.length
  | 0, out => by simp [allGo]
  | n + 1, out => by
    unfold allGo
    split
    · omega
    · split
      · omega
      · rename_i x hx
        have := allGo_len L n (out ++ [x])
        simp only [List.length_append, List.length_cons, List.length_nil] at this
        omega
theorem allP_len {L Wr : List ChD} (h : Inv L Wr) : (allP L).length ≤ 1000000 := by
  have h1 := allGo_len L L.length []
  have h2 := h.most
  unfold allP
  simp only [List.length_nil] at h1
  omega
theorem good_base {Lr M : List ChD} (h : Lr.map ChD.base = M.map ChD.base) (hg : ∀ c ∈ M, c.err = 0 ∧ ∀ o ∈ c.ops, (Lit.int .i64 o.vn).wf = true) : ∀ c ∈ Lr, c.err = 0 ∧ ∀ o ∈ c.ops, (Lit.int .i64 o.vn).wf = true := fun c hc => by
  have h1 : c.base ∈ M.map ChD.base := by rw [← h]; exact List.mem_map_of_mem hc
  obtain ⟨y, hy, e⟩ := List.mem_map.1 h1
  obtain ⟨e1, _, e3⟩ := base_same (c := y) (c' := c) e.symm
  exact ⟨e1.trans (hg y hy).1, e3 (hg y hy).2⟩
/-- behind both books' Take -/
theorem Both.step {B : Nat} {D F F' : Nat → Prop} {w w1 w2 : World} {g bh bw bb gs : Nat} {X X' : List (ChD × Nat × List Rf)} {W W' L Wr L' Wr' : List ChD} {VL VW : Value} (h : Both B D F w g bh bw bb gs X W L Wr)
    (hb1 : BM D F' w1 gs L' Wr' VL VW) (hF' : ∀ k, F' k → F k ∨ w.heap.size ≤ k) (hch : Chg F w w1)
    (hpb : PB w2 g bh bw bb X' W') (hch2 : Chg (fun k => k = bh ∨ k = bw ∨ k = bb) w1 w2) (hfx : ∀ x ∈ X', x ∈ X ∨ w1.heap.size ≤ x.2.1) (hfy : ∀ y, y ∈ X'.map Prod.fst ∨ y ∈ W' → y ∈ X.map Prod.fst ∨ y ∈ W ∨ ChIn (fun k => w1.heap.size ≤ k) w2 y)
    (hi : Inv L' Wr') (hs : X'.map (fun x => x.1.base) = L'.map ChD.base) (hsW : W'.map ChD.base = Wr'.map ChD.base) : Both B D F' w2 g bh bw bb gs X' W' L' Wr' := by
  have hp1 : PBD (fun k => B ≤ k ∧ k < w1.heap.size ∧ ¬ F' k) w1 g bh bw bb X W :=
    (h.pbd.keep hch.size fun k hk _ => hch.block k hk.2.1 hk.2.2).more fun k hk => ⟨hk.1, Nat.lt_of_lt_of_le hk.2.1 hch.size, fun e => (hF' k e).elim hk.2.2 fun h => by have := hk.2.1; omega⟩
  have hF1 : ∀ k, F' k → B ≤ k := fun k hk => (hF' k hk).elim (h.hF k) fun h1 => Nat.le_trans h.size h1
  have hB1 : B ≤ w1.heap.size := Nat.le_trans h.size hch.size
  refine ⟨(hp1.take hpb hch2 hfx hfy).more fun k hk => ?_, ⟨VL, VW, hb1.keep hch2.size (fun k hk => ?_) fun k hk => ?_⟩, h.hD, hF1, Nat.le_trans hB1 hch2.size, hi, hs, hsW⟩
  · rcases hk with hk | hk
    · exact ⟨hk.1, Nat.lt_of_lt_of_le hk.2.1 hch2.size, hk.2.2⟩
    · exact ⟨Nat.le_trans hB1 hk.1, hk.2, fun e => by have := hb1.flt e; have := hk.1; omega⟩
  · refine hch2.block k (hb1.hD k hk).1 fun e => ?_
    have h1 := h.hD k hk
    have h2 := hp1.pg
    rcases e with e | e | e
    · have := h2.2.1.1; omega
    · have := h2.2.2.1.1; omega
    · have := h2.2.2.2.1; omega
  · refine hch2.block k (hb1.flt hk) fun e => ?_
    have h2 := hp1.pg
    rcases e with e | e | e
    · exact h2.2.1.2.2 (e ▸ hk)
    · exact h2.2.2.1.2.2 (e ▸ hk)
    · exact h2.2.2.2.2.2 (e ▸ hk)
set_option maxHeartbeats 16000000 in
set_option maxRecDepth 20000 in
theorem dagTakes_walk (La : List ChD) (A : Option Addr) (cA : Nat) (w : World) (hl : La.length ≤ 9223372036854775807) (hL : ChsIn (fun k => k < w.heap.size) w A La) (hw : ∀ c ∈ La, ∀ o ∈ c.ops, (Lit.int .i64 o.vn).wf = true) (hE : ErrT w) :
    Calls Tryz.prog 4 #[.slice A La.length cA] w fun e w' => e = .returned (.bool true) ∧ Below w.heap.size w w' := by
  obtain ⟨n, hn⟩ : ∃ n, La.length = n := ⟨_, rfl⟩
  have HN := Lib.hid hn
  have HL := Lib.hid hL
  have HV := Lib.hid hw
  have HET := Lib.hid hE
  rw [hn] at hl ⊢
  clear hn hL hw hE
  have C1 := new_any w
  go_enter Tryz.func4, Tryz.ntmps4
  go_wp2_with fail
  go_at_call 5
  refine C1.mono ?_
  rintro e w1 ⟨g, bh, bw, bb, rfl, hg1, hh1, hw1, hb1, hne, hsz, hbel⟩
  have HPB1 := Lib.hid (PB.nil hg1 hh1 hw1 hb1 hne)
  have HSZ := Lib.hid hsz
  have HW1 := Lib.hid hbel
  clear C1 hg1 hh1 hw1 hb1 hne hsz hbel
  go_upto_region 3 with fail
  have HG := Lib.hid (Blk.new w1 30 #[.slice none 0 0, .slice none 0 0])
  have hb2 : Below w1.heap.size w1 (w1.alloc (.cells #[.slice none 0 0, .slice none 0 0] 30)) := (Below.refl _ w1).alloc (Nat.le_refl _) _
  have HPB2 := Lib.hid (HPB1.out.below hb2)
  have HW2 : Hid (Below w.heap.size w (w1.alloc (.cells #[.slice none 0 0, .slice none 0 0] 30))) := HW1.out.trans (hb2.mono HW1.out.size)
  have HLT : Hid (g < w1.heap.size ∧ bh < w1.heap.size ∧ bw < w1.heap.size ∧ bb < w1.heap.size ∧ w.heap.size ≤ w1.heap.size) := ⟨HPB1.out.blk.lt, MapL.lt HPB1.out.mh, MapL.lt HPB1.out.mw, MapL.lt HPB1.out.mb, HW1.out.size⟩
  clear hb2 HPB1 HW1
  generalize w1.alloc (.cells #[.slice none 0 0, .slice none 0 0] 30) = w2 at HG HPB2 HW2 ⊢
  generalize w1.heap.size = gs at HG HLT ⊢
  have HBO : Hid (Both w.heap.size (fun k => k < w.heap.size) (fun k => k = gs) w2 g bh bw bb gs [] [] [] []) := by
    have hs := HG.out.lt
    have h1 := HLT.out
    have h2 := HSZ.out
    refine ⟨⟨HPB2.out, ⟨⟨h2.2.2.2, by omega, by omega⟩, ⟨h2.1, by omega, by omega⟩, ⟨h2.2.1, by omega, by omega⟩, ⟨h2.2.2.1, by omega, by omega⟩⟩, (fun x hx => by cases hx), (fun x hx => by cases hx)⟩, ⟨.slice none 0 0, .slice none 0 0, ⟨HG.out, own_nil _ _ _ _, own_nil _ _ _ _, (fun k hk => by cases hk), (fun k => ⟨.inl, fun h => h.elim id fun h => by rcases h with h | h <;> cases h⟩), (fun x hx => by cases hx), (fun x hx => by cases hx), fun k hk => ⟨by omega, fun e => by omega⟩⟩⟩, (fun k hk => hk), (fun k hk => by omega), by omega, Inv.nil, rfl, rfl⟩
  have HIP : Hid (Inv (([] : List (ChD × Nat × List Rf)).map Prod.fst) []) := Inv.nil
  clear HG HPB2 HLT HSZ
  go_upto_region 4 with fail
  go_loopw [5, 6, 7, 8, 9, 10, 11] (fun s5 _ _ _ _ _ _ wr => ∃ (i : Nat) (F : Nat → Prop) (X : List (ChD × Nat × List Rf)) (Wp L Wr : List ChD), s5 = .int .i64 i ∧ i ≤ n ∧ i ≤ 60 ∧ Hid (Inv (X.map Prod.fst) Wp) ∧ Hid (Both w.heap.size (fun k => k < w.heap.size) F wr g bh bw bb gs X Wp L Wr) ∧ Hid (Below w.heap.size w wr)) (fun s5 _ _ _ _ _ _ _ => 60 - (intOf s5).toNat)
  case atStart => exact ⟨0, _, [], [], [], [], rfl, by omega, by omega, HIP, HBO, HW2⟩
  case round =>
    clear HIP HBO HW2
    obtain ⟨i, F, X, Wp, L, Wr, rfl, hi, hi60, HIP, HBO, HW⟩ := hrel
    go_upto_region 4 with fail
    go_cut [28] (fun s28 wc => s28 = .bool (decide (i < n ∧ i < 60)) ∧ wc = wr)
    case first =>
      by_cases h1 : i < n
      · by_cases h2 : i < 60
        · have HD : Hid (decide (i < n ∧ i < 60) = true) := decide_eq_true ⟨h1, h2⟩
          have HD6 : Hid (decide ((i : Int) < 60) = true) := decide_eq_true (by omega)
          go_wp2_with fail
          go_meet
          case rel => exact ⟨by rw [HD.out, HD6.out], rfl⟩
        · have HD : Hid (decide (i < n ∧ i < 60) = false) := decide_eq_false fun h => h2 h.2
          have HD6 : Hid (decide ((i : Int) < 60) = false) := decide_eq_false (by omega)
          go_wp2_with fail
          go_meet
          case rel => exact ⟨by rw [HD.out, HD6.out], rfl⟩
      · have HD : Hid (decide (i < n ∧ i < 60) = false) := decide_eq_false fun h => h1 h.1
        go_wp2_with fail
        go_meet
        case rel => exact ⟨by rw [HD.out], rfl⟩
    case rest =>
      obtain ⟨rfl, rfl⟩ := hcut
      obtain ⟨gd, hgd⟩ : ∃ b, decide (i < n ∧ i < 60) = b := ⟨_, rfl⟩
      have HGD := Lib.hid hgd
      rw [hgd]
      clear hgd
      cases gd with
      | true =>
        have hlt6 : i < n ∧ i < 60 := of_decide_eq_true (show decide (i < n ∧ i < 60) = true from HGD.out)
        have HLT6 := Lib.hid hlt6
        have hlt := hlt6.1
        clear hlt6
        obtain ⟨c, hc⟩ : ∃ c, La[i]? = some c := ⟨_, List.getElem?_eq_getElem (by rw [HN.out]; exact hlt)⟩
        have HCM := Lib.hid (List.mem_of_getElem? hc)
        have hrow := reads_below HL.out.row HW.out
        obtain ⟨b1, o1, hA, hbl, hc1⟩ := HL.out.row.at_ (by rw [HN.out]; omega) (by omega)
        obtain ⟨VL, VW, hbm⟩ := HBO.out.bm
        have HCI : Hid (∀ V, Below w.heap.size w V → ChIn (fun k => k < w.heap.size) V c) := fun V hv => (HL.out.each c HCM.out).keep fun k hk => hv.block k hk
        have HCX : Hid (∀ V, Below w.heap.size w V → ∀ j v, c.cells[j]? = some v → j < 5 → V.cell? ⟨b1, o1 + i * 5 + j, none⟩ = some v) := fun V hv j v hj h5 => by
          have h3 := chsC_at hc j h5
          rw [hj] at h3
          have h4 := hc1 _ _ h3
          rw [← Nat.add_assoc] at h4
          exact (World.cell?_of_block (hv.block _ hbl)).trans h4
        subst hA
        clear hc hrow hbl hc1
        have x0 : wc.cell? ⟨b1, o1 + i * 5, none⟩ = some (.int .i64 c.a) := HCX.out wc HW.out 0 _ rfl (by omega)
        have x1 : wc.cell? ⟨b1, o1 + i * 5 + 1, none⟩ = some (.int .i64 c.s) := HCX.out wc HW.out 1 _ rfl (by omega)
        have x2 : wc.cell? ⟨b1, o1 + i * 5 + 2, none⟩ = some (.int .i64 c.st) := HCX.out wc HW.out 2 _ rfl (by omega)
        have x3 : wc.cell? ⟨b1, o1 + i * 5 + 3, none⟩ = some (.slice c.DA c.deps.length c.DC) := HCX.out wc HW.out 3 _ rfl (by omega)
        have x4 : wc.cell? ⟨b1, o1 + i * 5 + 4, none⟩ = some (.slice c.OA c.ops.length c.OC) := HCX.out wc HW.out 4 _ rfl (by omega)
        have C2 := stake_any L Wr c (fun k => k < w.heap.size) F VL VW gs wc hbm HBO.out.inv (HCI.out wc HW.out) (HV.out c HCM.out)
        unfold ChD.v at C2
        clear hbm
        go_wp2_with fail
        go_at_call 6
        refine C2.mono ?_
        rintro e w3 ⟨rfl, F', VL', VW', hbm3, hF3, hch3⟩
        have HB3 := Lib.hid hbm3
        have HF3 := Lib.hid hF3
        have HC3 := Lib.hid hch3
        have HW3 : Hid (Below w.heap.size w w3) := HW.out.trans (hch3.below HW.out.size fun k hk => HBO.out.hF k hk)
        have HP3 : Hid (PB w3 g bh bw bb X Wp) := (HBO.out.pbd.keep hch3.size fun k hk _ => hch3.block k hk.2.1 hk.2.2).pb
        clear C2 hbm3 hF3 hch3 x0 x1 x2 x3 x4
        have x0 : w3.cell? ⟨b1, o1 + i * 5, none⟩ = some (.int .i64 c.a) := HCX.out w3 HW3.out 0 _ rfl (by omega)
        have x1 : w3.cell? ⟨b1, o1 + i * 5 + 1, none⟩ = some (.int .i64 c.s) := HCX.out w3 HW3.out 1 _ rfl (by omega)
        have x2 : w3.cell? ⟨b1, o1 + i * 5 + 2, none⟩ = some (.int .i64 c.st) := HCX.out w3 HW3.out 2 _ rfl (by omega)
        have x3 : w3.cell? ⟨b1, o1 + i * 5 + 3, none⟩ = some (.slice c.DA c.deps.length c.DC) := HCX.out w3 HW3.out 3 _ rfl (by omega)
        have x4 : w3.cell? ⟨b1, o1 + i * 5 + 4, none⟩ = some (.slice c.OA c.ops.length c.OC) := HCX.out w3 HW3.out 4 _ rfl (by omega)
        have C3 := take_any X Wp c g bh bw bb w3 HP3.out HIP.out ((HCI.out w3 HW3.out).more fun k hk => Nat.lt_of_lt_of_le hk HW3.out.size) (HV.out c HCM.out)
        unfold ChD.v at C3
        go_wp2_with fail
        go_at_call 7
        refine C3.mono ?_
        rintro e w4 ⟨c', X', hcb, rfl, hpb4, hx4, hch4, hfx4, hfy4⟩
        have hst := step_same (XL := X.map Prod.fst) (Wp := Wp) (L := L) (Wr := Wr) (c := c) (c' := c') (by rw [← mapb]; exact HBO.out.same) HBO.out.sameW hcb
        have hip := takeP_inv HIP.out ((base_same hcb).2.2 (HV.out c HCM.out))
        have hir := takeP_inv HBO.out.inv (HV.out c HCM.out)
        rw [hst.2.2]
        rw [← hx4] at hip hfy4
        have HBO4 := Lib.hid (HBO.out.step HB3.out HF3.out HC3.out hpb4 hch4 hfx4 hfy4 hir (by rw [mapb, hx4]; exact hst.1) hst.2.1)
        have HIP4 := Lib.hid hip
        have HW4 : Hid (Below w.heap.size w w4) := HW3.out.trans (hch4.below HW3.out.size fun k hk => by
          have h2 := HBO.out.pbd.pg
          rcases hk with e | e | e
          · rw [e]; exact h2.2.1.1
          · rw [e]; exact h2.2.2.1.1
          · rw [e]; exact h2.2.2.2.1)
        clear C3 hcb hpb4 hx4 hch4 hfx4 hfy4 hst hip hir HB3 HF3 HC3 HW3 HP3 HBO HIP HW x0 x1 x2 x3 x4
        generalize (takeP (X.map Prod.fst) Wp c').1.2 = Wp' at HBO4 HIP4
        generalize (takeP L Wr c).1.1 = L' at HBO4
        generalize (takeP L Wr c).1.2 = Wr' at HBO4
        generalize (takeP L Wr c).2 = ke
        have C4 := told_same ke w4 (HET.out.keep HW4.out)
        go_wp2_with fail
        go_at_call 13
        refine C4.mono ?_
        rintro e w5 ⟨rfl, hb⟩
        have HBO5 := Lib.hid (HBO4.out.below hb)
        have HW5 : Hid (Below w.heap.size w w5) := HW4.out.trans (hb.mono HW4.out.size)
        clear C4 hb HBO4 HW4
        have C5 := waiting_any Wp' g bh bw bb w5 HBO5.out.pbd.pb.blk HBO5.out.pbd.pb.mw HIP4.out.nd (by have := HIP4.out.most; omega)
        go_wp2_with fail
        go_at_call 20
        refine C5.mono ?_
        rintro e w6 ⟨A6, c6, rfl, hr6, hb⟩
        have HR6 := Lib.hid hr6
        have HBO6 := Lib.hid (HBO5.out.below hb)
        have HW6 : Hid (Below w.heap.size w w6) := HW5.out.trans (hb.mono HW5.out.size)
        clear C5 hr6 hb HBO5 HW5
        obtain ⟨VL6, VW6, hbm6⟩ := HBO6.out.bm
        obtain ⟨AL, cL, AW, cW, hg6, hL6, hW6⟩ := hbm6.br
        have s1 : w6.cell? ⟨gs, 1, none⟩ = some (.slice AW Wr'.length cW) := hg6.cell 1
        have C6 := srefs_any Wr' (fun k => k < w6.heap.size) AW cW w6 hW6.row (fun _ h => h) (by have := HBO6.out.inv.most; omega)
        clear hbm6 hg6 hL6 hW6
        go_wp2_with fail
        go_at_call 8
        refine C6.mono ?_
        rintro e w7 ⟨v7, rfl, ho7, hb⟩
        obtain ⟨A7, c7, hv7, -, -, hr7⟩ := Reads.of_own ho7
        subst hv7
        have HEQ : Hid (refsP Wp' = refsP Wr') := by show _ = _; rw [← refsP_base Wp', ← refsP_base Wr', HBO6.out.sameW]
        have C7 := sameRefs_any (refsP Wp') (refsP Wr') (fun k => k < w7.heap.size) _ A6 A7 c6 c7 w7 (reads_below HR6.out hb) hr7 (by have h1 := refsQ_len Wp'; have h2 := HIP4.out.most; omega)
        rw [decide_eq_true HEQ.out] at C7
        have HBO7 := Lib.hid (HBO6.out.below hb)
        have HW7 : Hid (Below w.heap.size w w7) := HW6.out.trans (hb.mono HW6.out.size)
        clear C6 ho7 hr7 hb HBO6 HW6 s1 HR6
        go_wp2_with fail
        go_at_call 17
        refine C7.mono ?_
        rintro e w8 ⟨rfl, m8, hm8⟩
        have hb8 : Below w7.heap.size w7 w8 := by rw [hm8]; exact below_drewN (Below.refl _ w7) m8
        have HBO8 := Lib.hid (HBO7.out.below hb8)
        have HW8 : Hid (Below w.heap.size w w8) := HW7.out.trans (hb8.mono HW7.out.size)
        clear C7 hm8 hb8 HBO7 HW7
        go_wp2_with fail
        go_roundw
        case rel => exact ⟨i + 1, F', X', Wp', L', Wr', by go_num, by have := HLT6.out; omega, by have := HLT6.out; omega, HIP4, HBO8, HW8⟩
        case measure => have := HLT6.out; simp [intOf]; omega
      | false =>
        have HLX : Hid ((X.map Prod.fst).map ChD.base = L.map ChD.base) := by show _ = _; rw [← mapb]; exact HBO.out.same
        have HGL : Hid (∀ c ∈ L, c.err = 0 ∧ ∀ o ∈ c.ops, (Lit.int .i64 o.vn).wf = true) := HBO.out.inv.bk.err
        have C2 := all_any (X.map Prod.fst) g bh (.map (some bw)) (.map (some bb)) wc HBO.out.pbd.pb.hb HIP.out.bk (by have := HIP.out.most; omega) (fun c hc => by
          obtain ⟨x, hx, rfl⟩ := List.mem_map.1 hc
          exact (HBO.out.pbd.pb.inL x hx).more fun k hk => hk.1)
        go_wp2_with fail
        go_at_call 21
        refine C2.mono ?_
        rintro e w3 ⟨A3, c3, Lr, rfl, hlr, hin3, hb⟩
        have HLR : Hid (Lr.map ChD.base = (allP L).map ChD.base) := by show _ = _; rw [hlr, ← allP_base, HLX.out, allP_base]
        have HIN3 := Lib.hid hin3
        have HBO3 := Lib.hid (HBO.out.below hb)
        have HW3 : Hid (Below w.heap.size w w3) := HW.out.trans (hb.mono HW.out.size)
        clear C2 hlr hin3 hb HBO HW
        obtain ⟨VL3, VW3, hbm3⟩ := HBO3.out.bm
        have C3 := sall_any L Wr gs w3 hbm3.br HBO3.out.inv.bk (by have := HBO3.out.inv.most; omega)
        clear hbm3
        go_wp2_with fail
        go_at_call 22
        refine C3.mono ?_
        rintro e w4 ⟨v4, rfl, ho4, hb⟩
        have HBO4 := Lib.hid (HBO3.out.below hb)
        have HW4 : Hid (Below w.heap.size w w4) := HW3.out.trans (hb.mono HW3.out.size)
        have hin4 := HIN3.out.below hb
        obtain ⟨VL4, VW4, hbm4⟩ := HBO4.out.bm
        obtain ⟨AL, cL, AW, cW, hg4, hL4, hW4⟩ := hbm4.br
        obtain ⟨A4, c4, hv4, -, -, hr4⟩ := Reads.of_own ho4
        have hal : ChsIn (fun k => k < w4.heap.size) w4 A4 (allP L) := ⟨hr4.more fun k hk => (own_lt ho4 hk).2, fun c hc => hL4.each c (allP_mem hc)⟩
        have hga := good_base HLR.out (fun c hc => HGL.out c (allP_mem hc))
        have hlen : Lr.length ≤ 1000000 := by
          have h1 := congrArg List.length HLR.out
          have h2 : (allP L).length ≤ 1000000 := allP_len HBO4.out.inv
          simp only [List.length_map] at h1
          omega
        have C4 := sameChs_any Lr (allP L) A3 A4 c3 c4 w4 hin4 hal HLR.out (fun c hc => good_encG (hga c hc).1 (hga c hc).2) (fun c hc => good_encG (HGL.out c (allP_mem hc)).1 (HGL.out c (allP_mem hc)).2) hlen
        subst hv4
        clear C3 hb HBO3 HW3 hin4 hbm4 hg4 hL4 hW4 hr4 hal hga hlen ho4 HIN3
        go_wp2_with fail
        go_at_call 23
        refine C4.mono ?_
        rintro e w5 ⟨rfl, hb⟩
        have HBO5 := Lib.hid (HBO4.out.below hb)
        have HW5 : Hid (Below w.heap.size w w5) := HW4.out.trans (hb.mono HW4.out.size)
        clear C4 hb HBO4 HW4
        have C5 := heads_any (X.map Prod.fst) g bh (.map (some bw)) (.map (some bb)) w5 HBO5.out.pbd.pb.hb HIP.out.bk.nodup (by have := HIP.out.most; omega) (fun c hc => by
          obtain ⟨x, hx, rfl⟩ := List.mem_map.1 hc
          exact (HBO5.out.pbd.pb.inL x hx).more fun k hk => hk.1) (fun c hc => (HIP.out.bk.err c hc).1)
        go_wp2_with fail
        go_at_call 24
        refine C5.mono ?_
        rintro e w6 ⟨A6, c6, rfl, hr6, hb⟩
        have HR6 := Lib.hid hr6
        have HBO6 := Lib.hid (HBO5.out.below hb)
        have HW6 : Hid (Below w.heap.size w w6) := HW5.out.trans (hb.mono HW5.out.size)
        clear C5 hr6 hb HBO5 HW5
        obtain ⟨VL6, VW6, hbm6⟩ := HBO6.out.bm
        have C6 := sheads_any L Wr gs w6 hbm6.br (by have := HBO6.out.inv.most; omega)
        clear hbm6
        go_wp2_with fail
        go_at_call 25
        refine C6.mono ?_
        rintro e w7 ⟨v7, rfl, ho7, hb⟩
        obtain ⟨A7, c7, hv7, -, -, hr7⟩ := Reads.of_own ho7
        subst hv7
        have HEQ : Hid (headsP (X.map Prod.fst) = headsP L) := by show _ = _; rw [← headsP_base (X.map Prod.fst), ← headsP_base L, HLX.out]
        have C7 := sameRefs_any (headsP (X.map Prod.fst)) (headsP L) (fun k => k < w7.heap.size) _ A6 A7 c6 c7 w7 (reads_below HR6.out hb) hr7 (by have h1 := headsQ_len (X.map Prod.fst); have h2 := HIP.out.most; omega)
        rw [decide_eq_true HEQ.out] at C7
        have HW7 : Hid (Below w.heap.size w w7) := HW6.out.trans (hb.mono HW6.out.size)
        clear C6 ho7 hr7 hb HBO6 HW6 HR6
        go_wp2_with fail
        go_at_call 17
        refine C7.mono ?_
        rintro e w8 ⟨rfl, m8, hm8⟩
        have HW8 : Hid (Below w.heap.size w w8) := by rw [hm8]; exact below_drewN HW7.out m8
        clear C7 hm8 HW7
        go_wp2_with fail
        go_ret
        exact ⟨rfl, HW8.out⟩
end Go.Proofs.YtclgfcjcpbiadaaGreatDoor
