/- Contracts of the program's books: what Missing asks of each ref. -/
import Derived.Test.YtclgfcjcpbiadaaGreatDoorDag21
set_option linter.unusedVariables false
set_option linter.unusedSimpArgs false
namespace Go.Proofs.YtclgfcjcpbiadaaGreatDoor
open Go.ChangeShapes Go.WideShapes Go.ChangeAt Go.RowKit

/-- what one look leaves of the map -/
def Looked (w' : World) (mk : Nat) (L W : List ChD) (S : List Rf) (r : Rf) : Prop := ∃ S', ZM w' mk S' ∧ (∀ x, x ∈ S' ↔ x ∈ S ∨ x = r ∧ x ∉ refsOf L ∧ x ∉ refsOf W) ∧ S'.length ≤ S.length + 1
theorem Looked.same {w' : World} {mk : Nat} {L W : List ChD} {S : List Rf} {r : Rf} (h : ZM w' mk S) (hr : r ∈ refsOf L ∨ r ∈ refsOf W) : Looked w' mk L W S r :=
  ⟨S, h, fun x => ⟨.inl, fun h => h.elim id fun ⟨e, h1, h2⟩ => by subst e; exact (hr.elim h1 h2).elim⟩, Nat.le_succ _⟩
theorem Looked.more {w' : World} {mk : Nat} {L W : List ChD} {S S' : List Rf} {r : Rf} (h : ZM w' mk S') (hm : ∀ x, x ∈ S' ↔ x ∈ S ∨ x = r) (hl : S'.length ≤ S.length + 1) (h1 : r ∉ refsOf L) (h2 : r ∉ refsOf W) : Looked w' mk L W S r :=
  ⟨S', h, fun x => by
    rw [hm x]
    constructor
    · rintro (h | rfl)
      · exact .inl h
      · exact .inr ⟨rfl, h1, h2⟩
    · rintro (h | ⟨h, -, -⟩)
      · exact .inl h
      · exact .inr h, hl⟩
set_option maxHeartbeats 8000000 in
set_option maxRecDepth 20000 in
theorem look1_any (X : List (ChD × Nat × List Rf)) (W : List ChD) (S : List Rf) (r1 r2 : Int) (hr : I64R (r1, r2)) (g bh bw bb q qm mk : Nat) (w : World) (hB : PB w g bh bw bb X W) (hq : w.cell? ⟨q, 0, none⟩ = some (.pointer (some ⟨g, 0, none⟩))) (hql : q < w.heap.size)
    (hm : w.cell? ⟨qm, 0, none⟩ = some (.map (some mk))) (hml : qm < w.heap.size) (hS : ZM w mk S) (hn : S.length < maxLen) :
    Calls Tryz.prog 44 (#[.agg #[.int .i64 r1, .int .i64 r2]] ++ #[.pointer (some ⟨q, 0, none⟩), .pointer (some ⟨qm, 0, none⟩)]) w fun e w' => e = .returned (.tuple #[]) ∧ Looked w' mk (X.map Prod.fst) W S (r1, r2) ∧ Chg (fun k => k = mk) w w' := by
  have HR := Lib.hid hr
  have HN := Lib.hid hn
  have HQ := Lib.hid (Blk.new w 25 #[.int .i64 r1, .int .i64 r2])
  have hb1 : Below w.heap.size w (w.alloc (.cells #[.int .i64 r1, .int .i64 r2] 25)) := (Below.refl _ w).alloc (Nat.le_refl _) _
  have HB3 := Lib.hid (hB.below hb1)
  have HS3 := Lib.hid (hS.keep (hb1.block _ (MapL.lt hS)))
  have HC3 : Hid (Chg (fun k => k = mk) w (w.alloc (.cells #[.int .i64 r1, .int .i64 r2] 25))) := Chg.of_below hb1
  have HQP : Hid ((w.alloc (.cells #[.int .i64 r1, .int .i64 r2] 25)).cell? ⟨q, 0, none⟩ = some (.pointer (some ⟨g, 0, none⟩)) ∧ q < (w.alloc (.cells #[.int .i64 r1, .int .i64 r2] 25)).heap.size) := ⟨(World.cell?_of_block (hb1.block _ hql)).trans hq, Nat.lt_of_lt_of_le hql hb1.size⟩
  have HQM : Hid ((w.alloc (.cells #[.int .i64 r1, .int .i64 r2] 25)).cell? ⟨qm, 0, none⟩ = some (.map (some mk)) ∧ qm < (w.alloc (.cells #[.int .i64 r1, .int .i64 r2] 25)).heap.size) := ⟨(World.cell?_of_block (hb1.block _ hml)).trans hm, Nat.lt_of_lt_of_le hml hb1.size⟩
  clear hB hS hb1 hq hql hm hml hr hn
  show Calls _ _ #[.agg #[.int .i64 r1, .int .i64 r2], .pointer (some ⟨q, 0, none⟩), .pointer (some ⟨qm, 0, none⟩)] _ _
  go_enter Tryz.func44, Tryz.ntmps44
  go_upto_region 1 with fail
  generalize w.alloc (.cells #[.int .i64 r1, .int .i64 r2] 25) = w3 at HQ HB3 HS3 HC3 HQP HQM ⊢
  obtain ⟨qr, hqr⟩ : ∃ q, w.heap.size = q := ⟨_, rfl⟩
  rw [hqr] at HQ ⊢
  clear hqr
  obtain ⟨xa, xs, xst, xA, xn, xC, xA', xn', xC', hlv⟩ := lookV_cells W (r1, r2)
  obtain ⟨ok, hok⟩ : ∃ ok, decide ((r1, r2) ∈ refsOf W) = ok := ⟨_, rfl⟩
  have HLV := Lib.hid hlv
  have HOK := Lib.hid hok
  have KS : ∀ V : World, Below w3.heap.size w3 V → V.cell? ⟨q, 0, none⟩ = some (.pointer (some ⟨g, 0, none⟩)) ∧ V.cell? ⟨qr, 0, none⟩ = some (.int .i64 r1) ∧ V.cell? ⟨qr, 1, none⟩ = some (.int .i64 r2) ∧ V.cell? ⟨g, 1, none⟩ = some (.map (some bw)) ∧ (Instr.lookup 57 (.map (some bw)) (.agg #[.int .i64 r1, .int .i64 r2]) true).run Tryz.prog V = .ok (.tuple #[.agg #[.int .i64 xa, .int .i64 xs, .int .i64 xst, .slice xA xn xC, .slice xA' xn' xC'], .bool ok]) V := fun V hv => by
    have hm : HasL V bw W := MapL.keep HB3.out.mw (hv.block _ (MapL.lt HB3.out.mw))
    have h1 := HasL.lookT hm HR.out HLV.out HOK.out
    exact ⟨(World.cell?_of_block (hv.block _ HQP.out.2)).trans HQP.out.1, (World.cell?_of_block (hv.block _ HQ.out.lt)).trans (HQ.out.cell 0), (World.cell?_of_block (hv.block _ HQ.out.lt)).trans (HQ.out.cell 1), (World.cell?_of_block (hv.block _ HB3.out.blk.lt)).trans (HB3.out.blk.cell 1), h1⟩
  have K0 := KS w3.drew (Below.refl _ w3).drew
  have K1 := fun o => KS (w3.drew.alloc o) ((Below.refl _ w3).drew.alloc (Nat.le_refl _) o)
  clear KS hlv hok
  go_cut [4, 5] (fun s4 s5 wc => s5 = .bool ok ∧ wc = (w3.alloc (.cells #[.int .i64 xa, .int .i64 xs, .int .i64 xst, .slice xA xn xC, .slice xA' xn' xC'] 34)).drew)
  case first =>
    go_region_held3 (fun w' => w'.cell? ⟨q, 0, none⟩ = some (.pointer (some ⟨g, 0, none⟩)) ∧ w'.cell? ⟨qr, 0, none⟩ = some (.int .i64 r1) ∧ w'.cell? ⟨qr, 1, none⟩ = some (.int .i64 r2) ∧ w'.cell? ⟨g, 1, none⟩ = some (.map (some bw)) ∧ (Instr.lookup 57 (.map (some bw)) (.agg #[.int .i64 r1, .int .i64 r2]) true).run Tryz.prog w' = .ok (.tuple #[.agg #[.int .i64 xa, .int .i64 xs, .int .i64 xst, .slice xA xn xC, .slice xA' xn' xC'], .bool ok]) w') (first | exact K0 | exact K1 _ | go_keep) (fail)
    all_goals
      clear K0 K1
      go_wp2_with fail
      go_meet
      case rel => exact ⟨rfl, rfl⟩
  case rest =>
    obtain ⟨rfl, rfl⟩ := hcut
    clear K0 K1
    have hb9 : Below w3.heap.size w3 (w3.alloc (.cells #[.int .i64 xa, .int .i64 xs, .int .i64 xst, .slice xA xn xC, .slice xA' xn' xC'] 34)).drew := ((Below.refl _ w3).alloc (Nat.le_refl _) _).drew
    have HQ4 := Lib.hid (HQ.out.keep (hb9.block _ HQ.out.lt))
    have HB4 := Lib.hid (HB3.out.below hb9)
    have HS4 := Lib.hid (HS3.out.keep (hb9.block _ (MapL.lt HS3.out)))
    have HC4 : Hid (Chg (fun k => k = mk) w (w3.alloc (.cells #[.int .i64 xa, .int .i64 xs, .int .i64 xst, .slice xA xn xC, .slice xA' xn' xC'] 34)).drew) := HC3.out.trans (Chg.of_below hb9) fun _ _ h => h
    have q4 := (World.cell?_of_block (hb9.block _ HQP.out.2)).trans HQP.out.1
    have HQM4 : Hid ((w3.alloc (.cells #[.int .i64 xa, .int .i64 xs, .int .i64 xst, .slice xA xn xC, .slice xA' xn' xC'] 34)).drew.cell? ⟨qm, 0, none⟩ = some (.map (some mk)) ∧ qm < (w3.alloc (.cells #[.int .i64 xa, .int .i64 xs, .int .i64 xst, .slice xA xn xC, .slice xA' xn' xC'] 34)).drew.heap.size) := ⟨(World.cell?_of_block (hb9.block _ HQM.out.2)).trans HQM.out.1, Nat.lt_of_lt_of_le HQM.out.2 hb9.size⟩
    clear hb9 HQ HB3 HS3 HC3 HQP HQM HLV
    generalize (w3.alloc (.cells #[.int .i64 xa, .int .i64 xs, .int .i64 xst, .slice xA xn xC, .slice xA' xn' xC'] 34)).drew = w4 at HQ4 HB4 HS4 HC4 q4 HQM4 ⊢
    cases ok with
    | true =>
      have HW : Hid ((r1, r2) ∈ refsOf W) := Lib.hid (of_decide_eq_true HOK.out)
      clear q4
      go_wp2_with fail
      refine bodyPost_end (results_none rfl _ _ _) rfl ⟨rfl, Looked.same HS4.out (.inr HW.out), HC4.out⟩
    | false =>
      have HW : Hid ((r1, r2) ∉ refsOf W) := Lib.hid (of_decide_eq_false HOK.out)
      have r1c : w4.cell? ⟨qr, 0, none⟩ = some (.int .i64 r1) := HQ4.out.cell 0
      have r2c : w4.cell? ⟨qr, 1, none⟩ = some (.int .i64 r2) := HQ4.out.cell 1
      have C1 := has_any (X.map Prod.fst) (r1, r2) HR.out g bh (.map (some bw)) (.map (some bb)) w4 HB4.out.blk HB4.out.mh
      obtain ⟨ha, hha⟩ : ∃ b, decide ((r1, r2) ∈ refsOf (X.map Prod.fst)) = b := ⟨_, rfl⟩
      have HHA := Lib.hid hha
      rw [hha] at C1
      clear hha
      go_wp2_with fail
      go_at_call 9
      refine C1.mono ?_
      rintro e w5 ⟨rfl, hb⟩
      have HQ5 := Lib.hid (HQ4.out.keep (hb.block _ HQ4.out.lt))
      have HS5 := Lib.hid (HS4.out.keep (hb.block _ (MapL.lt HS4.out)))
      have HC5 : Hid (Chg (fun k => k = mk) w w5) := HC4.out.trans (Chg.of_below hb) fun _ _ h => h
      have m5 : w5.cell? ⟨qm, 0, none⟩ = some (.map (some mk)) := (World.cell?_of_block (hb.block _ HQM4.out.2)).trans HQM4.out.1
      clear C1 hb r1c r2c q4 HQ4 HS4 HC4 HQM4 HB4
      cases ha with
      | true =>
        have HL : Hid ((r1, r2) ∈ refsOf (X.map Prod.fst)) := Lib.hid (of_decide_eq_true HHA.out)
        clear m5
        go_wp2_with fail
        refine bodyPost_end (results_none rfl _ _ _) rfl ⟨rfl, Looked.same HS5.out (.inl HL.out), HC5.out⟩
      | false =>
        have HL : Hid ((r1, r2) ∉ refsOf (X.map Prod.fst)) := Lib.hid (of_decide_eq_false HHA.out)
        have r1c : w5.cell? ⟨qr, 0, none⟩ = some (.int .i64 r1) := HQ5.out.cell 0
        have r2c : w5.cell? ⟨qr, 1, none⟩ = some (.int .i64 r2) := HQ5.out.cell 1
        have hst := HS5.out.add HR.out HN.out
        go_wp2_with (refine wpL_store _ rfl (.tmp 23) (.tmp 24) (.tmp 25) 57 (.inl rfl) mk (.agg #[.int .i64 r1, .int .i64 r2]) zeroCh rfl rfl rfl _ hst ?_; rintro w6 ⟨⟨S2, hs6, hm6, hl6⟩, ht6⟩)
        have hg6 := ht6.grown
        have HC6 := Lib.hid (HC5.out.grown hg6 (fun q hq => by cases hq; exact .inl rfl))
        have HLK : Hid (Looked w6 mk (X.map Prod.fst) W S (r1, r2)) := Looked.more hs6 hm6 hl6 HL.out HW.out
        clear hst hs6 hm6 hl6 ht6 hg6 m5 r1c r2c
        try simp only [Act.put, List.setIfInBounds_toArray, List.set_cons_zero, List.set_cons_succ]
        go_wp2_with fail
        refine bodyPost_end (results_none rfl _ _ _) rfl ⟨rfl, HLK.out, HC6.out⟩
end Go.Proofs.YtclgfcjcpbiadaaGreatDoor
