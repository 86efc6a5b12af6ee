/- Contracts of the program's books: Change. -/
import Derived.Test.YtclgfcjcpbiadaaGreatDoorDagTk
import Derived.Deep.DeepCutAuto
namespace Go.Proofs.YtclgfcjcpbiadaaGreatDoor
open Go.ChangeShapes Go.WideShapes Go.ChangeAt Go.RowKit

/-- what Change answers -/
def ChangeR (L : List ChD) (r : Rf) (e : Ending) (w' : World) : Prop := match findC L r with
  | some x => ∃ c' : ChD, e = .returned (.tuple #[c'.v, .nilIface]) ∧ c'.base = x.base ∧ ChIn (fun k => k < w'.heap.size) w' c'
  | none => e = .returned (.tuple #[zeroCh, errN 6])
theorem ChangeR.no {L : List ChD} {r : Rf} {w' : World} (h : findC L r = none) : ChangeR L r (.returned (.tuple #[zeroCh, errN 6])) w' := by unfold ChangeR; rw [h]
theorem ChangeR.yes {L : List ChD} {r : Rf} {w' : World} {x c' : ChD} (h : findC L r = some x) (hb : c'.base = x.base) (hc : ChIn (fun k => k < w'.heap.size) w' c') : ChangeR L r (.returned (.tuple #[c'.v, .nilIface])) w' := by unfold ChangeR; rw [h]; exact ⟨c', rfl, hb, hc⟩
set_option maxHeartbeats 4000000 in
set_option maxRecDepth 20000 in
theorem change_any (L : List ChD) (r1 r2 : Int) (hr : I64R (r1, r2)) (g bh : Nat) (V2 V3 : Value) (w : World) (hB : HB w g bh V2 V3 L) (hin : ∀ c ∈ L, ChIn (fun k => k < w.heap.size) w c) (he : ∀ c ∈ L, c.err = 0) :
    Calls Tryz.prog 11 #[.pointer (some ⟨g, 0, none⟩), .agg #[.int .i64 r1, .int .i64 r2]] w fun e w' =>
      ChangeR L (r1, r2) e w' ∧ Below w.heap.size w w' := by
  have HBB := Lib.hid hB
  have HIN := Lib.hid hin
  have HE := Lib.hid he
  have HR := Lib.hid hr
  clear hB hin he hr
  have hQ := Blk.new w 25 #[.int .i64 r1, .int .i64 r2]
  have hb1 : Below w.heap.size w (w.alloc (.cells #[.int .i64 r1, .int .i64 r2] 25)) := (Below.refl _ w).alloc (Nat.le_refl _) _
  have hz1 : (w.alloc (.cells #[.int .i64 r1, .int .i64 r2] 25)).heap.size = w.heap.size + 1 := by simp
  generalize hV1 : w.alloc (.cells #[.int .i64 r1, .int .i64 r2] 25) = V1 at hQ hb1 hz1
  have hb2 : Below V1.heap.size V1 (V1.alloc (.cells #[.int .i64 0, .int .i64 0, .int .i64 0, .slice none 0 0, .slice none 0 0] 34)) := (Below.refl _ V1).alloc (Nat.le_refl _) _
  have HQ4 := Lib.hid (Blk.new V1 34 #[.int .i64 0, .int .i64 0, .int .i64 0, .slice none 0 0, .slice none 0 0])
  have HQ := Lib.hid (hQ.keep (hb2.block _ hQ.lt))
  have HW : Hid (Below w.heap.size w (V1.alloc (.cells #[.int .i64 0, .int .i64 0, .int .i64 0, .slice none 0 0, .slice none 0 0] 34))) := hb1.trans (hb2.mono hb1.size)
  have HNE : Hid (w.heap.size < V1.heap.size) := by show _ < _; omega
  clear hQ hb1 hz1 hb2
  have hres : Tryz.f11.results = #[.cell 4 34, .tmp 5] := by kernel_rfl
  go_enter Tryz.func11, Tryz.ntmps11
  go_upto_region 1 with fail
  generalize V1.alloc (.cells #[.int .i64 0, .int .i64 0, .int .i64 0, .slice none 0 0, .slice none 0 0] 34) = w3 at HQ4 HQ HW ⊢
  generalize V1.heap.size = q4 at HQ4 HNE ⊢
  obtain ⟨qr, hqr⟩ : ∃ q, w.heap.size = q := ⟨_, rfl⟩
  have HQR := Lib.hid hqr
  have HB3 := Lib.hid (HBB.out.below HW.out)
  rw [hqr] at HQ HNE ⊢
  clear hqr
  obtain ⟨xa, xs, xst, xA, xn, xC, xA', xn', xC', hlv⟩ := lookV_cells L (r1, r2)
  obtain ⟨ok, hok⟩ : ∃ ok, decide ((r1, r2) ∈ refsOf L) = ok := ⟨_, rfl⟩
  have HLV := Lib.hid hlv
  have HOK := Lib.hid hok
  have q0 : w3.cell? ⟨qr, 0, none⟩ = some (.int .i64 r1) := HQ.out.cell 0
  have q1 : w3.cell? ⟨qr, 1, none⟩ = some (.int .i64 r2) := HQ.out.cell 1
  have g0 : w3.cell? ⟨g, 0, none⟩ = some (.map (some bh)) := HB3.out.blk.cell 0
  have KS : ∀ V : World, Below w3.heap.size w3 V → V.cell? ⟨qr, 0, none⟩ = some (.int .i64 r1) ∧ V.cell? ⟨qr, 1, none⟩ = some (.int .i64 r2) ∧ V.cell? ⟨g, 0, none⟩ = some (.map (some bh)) ∧ (Instr.lookup 57 (.map (some bh)) (.agg #[.int .i64 r1, .int .i64 r2]) true).run Tryz.prog V = .ok (.tuple #[.agg #[.int .i64 xa, .int .i64 xs, .int .i64 xst, .slice xA xn xC, .slice xA' xn' xC'], .bool ok]) V := fun V hv => by
    have hm : HasL V bh L := MapL.keep HB3.out.mh (hv.block _ (MapL.lt HB3.out.mh))
    have h1 := HasL.lookT hm HR.out HLV.out HOK.out
    exact ⟨(World.cell?_of_block (hv.block _ HQ.out.lt)).trans q0, (World.cell?_of_block (hv.block _ HQ.out.lt)).trans q1, (World.cell?_of_block (hv.block _ HB3.out.blk.lt)).trans g0, h1⟩
  have K0 := KS w3.drew (Below.refl _ w3).drew
  have K1 := fun o => KS (w3.drew.alloc o) ((Below.refl _ w3).drew.alloc (Nat.le_refl _) o)
  clear KS q0 q1 g0 hlv hok
  go_cut [6, 7] (fun s6 s7 wc => s6 = .pointer (some ⟨w3.heap.size, 0, none⟩) ∧ s7 = .bool ok ∧ wc = (w3.alloc (.cells #[.int .i64 xa, .int .i64 xs, .int .i64 xst, .slice xA xn xC, .slice xA' xn' xC'] 34)).drew)
  case first =>
    go_region_held3 (fun w' => w'.cell? ⟨qr, 0, none⟩ = some (.int .i64 r1) ∧ w'.cell? ⟨qr, 1, none⟩ = some (.int .i64 r2) ∧ w'.cell? ⟨g, 0, none⟩ = some (.map (some bh)) ∧ (Instr.lookup 57 (.map (some bh)) (.agg #[.int .i64 r1, .int .i64 r2]) true).run Tryz.prog w' = .ok (.tuple #[.agg #[.int .i64 xa, .int .i64 xs, .int .i64 xst, .slice xA xn xC, .slice xA' xn' xC'], .bool ok]) w') (first | exact K0 | exact K1 _ | go_keep) (fail)
    all_goals
      clear K0 K1
      go_wp2_with fail
      go_meet
      case rel => exact ⟨rfl, rfl, rfl⟩
  case rest =>
    obtain ⟨rfl, rfl, rfl⟩ := hcut
    clear K0 K1
    have hb9 : Below w3.heap.size w3 (w3.alloc (.cells #[.int .i64 xa, .int .i64 xs, .int .i64 xst, .slice xA xn xC, .slice xA' xn' xC'] 34)).drew := ((Below.refl _ w3).alloc (Nat.le_refl _) _).drew
    have H6 : Hid (Blk (w3.alloc (.cells #[.int .i64 xa, .int .i64 xs, .int .i64 xst, .slice xA xn xC, .slice xA' xn' xC'] 34)).drew w3.heap.size 34 #[.int .i64 xa, .int .i64 xs, .int .i64 xst, .slice xA xn xC, .slice xA' xn' xC']) := Blk.new w3 _ _
    have HQ44 := Lib.hid (HQ4.out.keep (hb9.block _ HQ4.out.lt))
    have HW4 : Hid (Below w.heap.size w (w3.alloc (.cells #[.int .i64 xa, .int .i64 xs, .int .i64 xst, .slice xA xn xC, .slice xA' xn' xC'] 34)).drew) := HW.out.trans (hb9.mono HW.out.size)
    clear hb9 HQ4 HQ HW HB3
    generalize (w3.alloc (.cells #[.int .i64 xa, .int .i64 xs, .int .i64 xst, .slice xA xn xC, .slice xA' xn' xC'] 34)).drew = w4 at H6 HQ44 HW4 ⊢
    generalize w3.heap.size = q6 at H6 ⊢
    cases ok with
    | false =>
      have HFN : Hid (findC L (r1, r2) = none) := findC_none.2 (of_decide_eq_false HOK.out)
      have HW5 : Hid (Below w.heap.size w (w4.setCells q4 0 [.int .i64 0, .int .i64 0, .int .i64 0, .slice none 0 0, .slice none 0 0])) := Below.set5 (g := q4) HW4.out (by have := HNE.out; have := HQR.out; omega) _ _ _ _ _
      have HQ5 : Hid (Blk (w4.setCells q4 0 [.int .i64 0, .int .i64 0, .int .i64 0, .slice none 0 0, .slice none 0 0]) q4 34 #[.int .i64 0, .int .i64 0, .int .i64 0, .slice none 0 0, .slice none 0 0]) := HQ44.out.set5 _ _ _ _ _
      go_wp2_with (refine wpList_store_mid rfl 34 (.tmp 4) (.tmp 19) rfl q4 0 #[.int .i64 0, .int .i64 0, .int .i64 0, .slice none 0 0, .slice none 0 0] rfl rfl (Blk.there HQ44.out rfl) info_ch (ch_one _ _ _ _ _ _ _ _ _) ?_)
      have z0 : (w4.setCells q4 0 [.int .i64 0, .int .i64 0, .int .i64 0, .slice none 0 0, .slice none 0 0]).cell? ⟨q4, 0, none⟩ = some (.int .i64 0) := HQ5.out.cell 0
      have z1 : (w4.setCells q4 0 [.int .i64 0, .int .i64 0, .int .i64 0, .slice none 0 0, .slice none 0 0]).cell? ⟨q4, 1, none⟩ = some (.int .i64 0) := HQ5.out.cell 1
      have z2 : (w4.setCells q4 0 [.int .i64 0, .int .i64 0, .int .i64 0, .slice none 0 0, .slice none 0 0]).cell? ⟨q4, 2, none⟩ = some (.int .i64 0) := HQ5.out.cell 2
      have z3 : (w4.setCells q4 0 [.int .i64 0, .int .i64 0, .int .i64 0, .slice none 0 0, .slice none 0 0]).cell? ⟨q4, 3, none⟩ = some (.slice none 0 0) := HQ5.out.cell 3
      have z4 : (w4.setCells q4 0 [.int .i64 0, .int .i64 0, .int .i64 0, .slice none 0 0, .slice none 0 0]).cell? ⟨q4, 4, none⟩ = some (.slice none 0 0) := HQ5.out.cell 4
      clear HQ5 HQ44 H6
      refine bodyPost_ret (v := .tuple #[zeroCh, errN 6]) ?_ rfl ?_
      · simp only [results, hres]
        go_simp
        exact ⟨rfl, rfl⟩
      · exact ⟨ChangeR.no HFN.out, HW5.out⟩
    | true =>
      obtain ⟨x, hx⟩ : ∃ x, findC L (r1, r2) = some x := by
        cases h : findC L (r1, r2) with
        | some x => exact ⟨x, rfl⟩
        | none => exact absurd (of_decide_eq_true HOK.out) (findC_none.1 h)
      have HFX := Lib.hid hx
      have HXL := Lib.hid (findC_some hx).1
      have hdv : x.v = .agg #[.int .i64 xa, .int .i64 xs, .int .i64 xst, .slice xA xn xC, .slice xA' xn' xC'] := by
        have := HLV.out
        unfold lookV at this
        rw [hx] at this
        exact this
      clear hx
      have hco := err_ok (HE.out x HXL.out)
      have C4 := clone_any x w4 (((HIN.out x HXL.out).keep fun k hk => HW4.out.block k hk).more fun k hk => Nat.lt_of_lt_of_le hk HW4.out.size) (by have := hco.2.2.2; omega) (by have := hco.2.2.1; omega) (fun o ho => by have := err_ll (HE.out x HXL.out) o ho; omega)
      rw [hdv] at C4
      unfold ChD.v at C4
      clear hdv hco
      go_wp2_with (refine wpList_load_mid rfl 34 (.tmp 6) rfl q6 0 rfl [.int .i64 xa, .int .i64 xs, .int .i64 xst, .slice xA xn xC, .slice xA' xn' xC'] _ (Blk.range H6.out) Tryz.underlying34 rfl info_ch ?_)
      go_at_call 35
      refine C4.mono ?_
      rintro e w5 ⟨c', rfl, hcb, hci, hb⟩
      have HCB := Lib.hid hcb
      have HCN : Hid (ChIn (fun k => w4.heap.size ≤ k ∧ k < w5.heap.size) w5 c') := hci
      have HQ5 := Lib.hid (HQ44.out.keep (hb.block _ HQ44.out.lt))
      have HW5 : Hid (Below w.heap.size w w5) := HW4.out.trans (hb.mono HW4.out.size)
      have HQL : Hid (q4 < w4.heap.size) := HQ44.out.lt
      clear C4 hcb hci hb HQ44 HW4 H6
      have hch : Chg (fun k => k = q4) w5 (w5.setCells q4 0 [.int .i64 c'.a, .int .i64 c'.s, .int .i64 c'.st, .slice c'.DA c'.deps.length c'.DC, .slice c'.OA c'.ops.length c'.OC]) := chg_setCells _ _ (Chg.refl w5)
      have HQ6 : Hid (Blk (w5.setCells q4 0 [.int .i64 c'.a, .int .i64 c'.s, .int .i64 c'.st, .slice c'.DA c'.deps.length c'.DC, .slice c'.OA c'.ops.length c'.OC]) q4 34 #[.int .i64 c'.a, .int .i64 c'.s, .int .i64 c'.st, .slice c'.DA c'.deps.length c'.DC, .slice c'.OA c'.ops.length c'.OC]) := HQ5.out.set5 _ _ _ _ _
      have HW6 : Hid (Below w.heap.size w (w5.setCells q4 0 [.int .i64 c'.a, .int .i64 c'.s, .int .i64 c'.st, .slice c'.DA c'.deps.length c'.DC, .slice c'.OA c'.ops.length c'.OC])) := Below.set5 (g := q4) HW5.out (by have := HNE.out; have := HQR.out; omega) _ _ _ _ _
      have HC6 : Hid (ChIn (fun k => k < (w5.setCells q4 0 [.int .i64 c'.a, .int .i64 c'.s, .int .i64 c'.st, .slice c'.DA c'.deps.length c'.DC, .slice c'.OA c'.ops.length c'.OC]).heap.size) (w5.setCells q4 0 [.int .i64 c'.a, .int .i64 c'.s, .int .i64 c'.st, .slice c'.DA c'.deps.length c'.DC, .slice c'.OA c'.ops.length c'.OC]) c') := (HCN.out.keep fun k hk => hch.block k hk.2 (fun e => by have e : k = q4 := e; have := HQL.out; have := hk.1; omega)).more fun k hk => Nat.lt_of_lt_of_le hk.2 hch.size
      clear hch
      go_wp2_with (refine wpList_store_mid rfl 34 (.tmp 4) (.tmp 22) rfl q4 0 #[.int .i64 c'.a, .int .i64 c'.s, .int .i64 c'.st, .slice c'.DA c'.deps.length c'.DC, .slice c'.OA c'.ops.length c'.OC] rfl rfl (Blk.there HQ5.out rfl) info_ch (ch_one _ _ _ _ _ _ _ _ _) ?_)
      have z0 : (w5.setCells q4 0 [.int .i64 c'.a, .int .i64 c'.s, .int .i64 c'.st, .slice c'.DA c'.deps.length c'.DC, .slice c'.OA c'.ops.length c'.OC]).cell? ⟨q4, 0, none⟩ = some (.int .i64 c'.a) := HQ6.out.cell 0
      have z1 : (w5.setCells q4 0 [.int .i64 c'.a, .int .i64 c'.s, .int .i64 c'.st, .slice c'.DA c'.deps.length c'.DC, .slice c'.OA c'.ops.length c'.OC]).cell? ⟨q4, 1, none⟩ = some (.int .i64 c'.s) := HQ6.out.cell 1
      have z2 : (w5.setCells q4 0 [.int .i64 c'.a, .int .i64 c'.s, .int .i64 c'.st, .slice c'.DA c'.deps.length c'.DC, .slice c'.OA c'.ops.length c'.OC]).cell? ⟨q4, 2, none⟩ = some (.int .i64 c'.st) := HQ6.out.cell 2
      have z3 : (w5.setCells q4 0 [.int .i64 c'.a, .int .i64 c'.s, .int .i64 c'.st, .slice c'.DA c'.deps.length c'.DC, .slice c'.OA c'.ops.length c'.OC]).cell? ⟨q4, 3, none⟩ = some (.slice c'.DA c'.deps.length c'.DC) := HQ6.out.cell 3
      have z4 : (w5.setCells q4 0 [.int .i64 c'.a, .int .i64 c'.s, .int .i64 c'.st, .slice c'.DA c'.deps.length c'.DC, .slice c'.OA c'.ops.length c'.OC]).cell? ⟨q4, 4, none⟩ = some (.slice c'.OA c'.ops.length c'.OC) := HQ6.out.cell 4
      clear HQ5 HQ6
      refine bodyPost_ret (v := .tuple #[.agg #[.int .i64 c'.a, .int .i64 c'.s, .int .i64 c'.st, .slice c'.DA c'.deps.length c'.DC, .slice c'.OA c'.ops.length c'.OC], .nilIface]) ?_ rfl ?_
      · simp only [results, hres]
        go_simp
      · exact ⟨ChangeR.yes HFX.out HCB.out HC6.out, HW6.out⟩
end Go.Proofs.YtclgfcjcpbiadaaGreatDoor
