/- ChangeBack: the law's walk. -/
import Derived.Test.YtoolpppbbphbjaaBackP
import Derived.Test.YtoolpppbbphbjaaDec
import Derived.Test.YtoolpppbbphbjaaSame
namespace Go.Proofs.Ytoolpppbbphbjaa
open Go.ChangeShapes Go.WideShapes Go.ChangeAt Go.RowKit

def oneOp : OpD := ⟨1, 0, 0, ⟨#[97]⟩, 0, 0, false, 2, 5, ⟨#[]⟩, 0, 0, none, 0, []⟩
theorem one_zero : chgE 1 1 1 [] [oneOp] = 0 := by kernel_rfl
theorem one_len : (encL 1 1 1 [] [oneOp]).length = 17 := by kernel_rfl
theorem one_good : EncG 1 1 1 [] [oneOp] := (chg_good one_zero (by intro o ho; rw [List.mem_singleton.1 ho]; rfl)).1
theorem rdOp_wf (l : List UInt8) (s : Nat × Bool) : (Lit.int .i64 (rdOp l s).1.vn).wf = true := by
  have h : ∀ at_ bad, -9223372036854775808 ≤ (rdInt l at_ bad).1 ∧ (rdInt l at_ bad).1 ≤ 9223372036854775807 := fun _ _ => rdInt_bd
  simp only [rdOp, Lit.wf, IntKind.min, IntKind.max, IntKind.signed, IntKind.bits]
  simpa using h _ _
theorem rdOps_wf (l : List UInt8) (s : Nat × Bool) : ∀ n, ∀ o ∈ (rdOps l s n).1, (Lit.int .i64 o.vn).wf = true
  | 0, o, h => by simp [rdOps] at h
  | n + 1, o, h => by
    rw [rdOps] at h
    rcases List.mem_append.1 h with h | h
    · exact rdOps_wf l s n o h
    · obtain rfl : o = (rdOp l (rdOps l s n).2).1 := by simpa using h
      exact rdOp_wf _ _
theorem rdAll_wf (l : List UInt8) {os : List OpD} (h : os.map base = (rdAll l).ops) : ∀ o ∈ os, (Lit.int .i64 o.vn).wf = true := by
  intro o ho
  have h1 : base o ∈ (rdAll l).ops := by rw [← h]; exact List.mem_map_of_mem ho
  have h2 : (Lit.int .i64 (base o).vn).wf = true := rdOps_wf l _ _ (base o) h1
  exact h2
/-- what Decode answers at a good change's bytes: the change -/
theorem decPost_yes {a s st : Int} {deps : List Rf} {ops : List OpD} {l : List UInt8} {noV yesV : Value} {e : Ending} {w' : World} (h : chgE a s st deps ops = 0) (hv : ∀ o ∈ ops, (Lit.int .i64 o.vn).wf = true) (more : List UInt8) (hl : l = encL a s st deps ops ++ more)
    (hp : DecPost (rdAll l) noV yesV e w') : ∃ DA DC OA OC os, os.map base = ops.map base ∧ ChM w' deps DA os OA ∧
      e = .returned (.tuple #[.agg #[.int .i64 a, .int .i64 s, .int .i64 st, .slice DA deps.length DC, .slice OA os.length OC], .int .i64 (encL a s st deps ops).length, yesV]) := by
  have h1 := (chg_read h hv 0).2
  have h2 := read_back h hv more
  rw [hl, h2] at hp
  have e1 : ((a.toNat : Nat) : Int) = a := Int.toNat_of_nonneg h1.1
  have e2 : ((s.toNat : Nat) : Int) = s := Int.toNat_of_nonneg h1.2.1
  have e3 : ((st.toNat : Nat) : Int) = st := Int.toNat_of_nonneg h1.2.2
  have h3 : chgE a s st deps (ops.map base) = 0 := (chgE_base (base_base ops)).trans h
  rcases hp with ⟨hno, _⟩ | ⟨_, _, DA, DC, OA, OC, os, hos, hcm, he⟩
  · rcases hno with hno | hno
    · cases hno
    · simp only [e1, e2, e3] at hno
      exact absurd h3 hno
  · simp only [e1, e2, e3] at he
    exact ⟨DA, DC, OA, OC, os, hos, hcm, he⟩
/-- .. with its last byte missing: there is none -/
theorem decPost_cut {a s st : Int} {deps : List Rf} {ops : List OpD} {noV yesV : Value} {e : Ending} {w' : World} (h : chgE a s st deps ops = 0) (hv : ∀ o ∈ ops, (Lit.int .i64 o.vn).wf = true) {k : Nat} (hk : k < (encL a s st deps ops).length)
    (hp : DecPost (rdAll ((encL a s st deps ops).take k)) noV yesV e w') : e = .returned (.tuple #[.agg #[.int .i64 0, .int .i64 0, .int .i64 0, .slice none 0 0, .slice none 0 0], .int .i64 0, noV]) := by
  have h1 := read_cut h hv hk
  rcases hp with ⟨_, he⟩ | ⟨hb, _⟩
  · exact he
  · rw [h1] at hb; cases hb
/-- .. at any bytes: none, or one that is written as these bytes -/
theorem decPost_any {l : List UInt8} {noV yesV : Value} {e : Ending} {w' : World} (hp : DecPost (rdAll l) noV yesV e w') :
    e = .returned (.tuple #[.agg #[.int .i64 0, .int .i64 0, .int .i64 0, .slice none 0 0, .slice none 0 0], .int .i64 0, noV]) ∨
    ∃ (a s st n : Nat) (deps : List Rf) (os : List OpD) (DA : Option Addr) (DC : Nat) (OA : Option Addr) (OC : Nat), chgE a s st deps os = 0 ∧ EncG a s st deps os ∧ ChM w' deps DA os OA ∧ n ≤ l.length ∧ encL a s st deps os = l.take n ∧
      e = .returned (.tuple #[.agg #[.int .i64 a, .int .i64 s, .int .i64 st, .slice DA deps.length DC, .slice OA os.length OC], .int .i64 n, yesV]) := by
  rcases hp with ⟨_, he⟩ | ⟨hb, hc, DA, DC, OA, OC, os, hos, hcm, he⟩
  · exact .inl he
  · obtain ⟨h1, h2⟩ := read_form hb
    have hbb : os.map base = (rdAll l).ops.map base := hos.trans (ops_base hos).symm
    have e1 := (chgE_base (a := (rdAll l).a) (s := (rdAll l).s) (st := (rdAll l).st) (deps := (rdAll l).deps) hbb).trans hc
    exact .inr ⟨(rdAll l).a, (rdAll l).s, (rdAll l).st, (rdAll l).at_, (rdAll l).deps, os, DA, DC, OA, OC, e1, (chg_good e1 (rdAll_wf l hos)).1, hcm, h1, (encL_base hbb).trans h2, he⟩

theorem encL_pos (a s st : Int) (deps : List Rf) (ops : List OpD) : 1 ≤ (encL a s st deps ops).length := by
  have h := putN_length a.toNat
  simp only [encL, numsL_cons, List.length_append]
  omega
theorem encL_len {a s st : Int} {deps : List Rf} {ops : List OpD} (hG : EncG a s st deps ops) : (encL a s st deps ops).length ≤ 100000 := by
  have h1 := pairs_len deps
  have h2 := ops_len ops hG.o
  have h3 := hG.dl
  have h4 := hG.ol
  have h5 := numsL_le (l := [a, s, st, (deps.length : Int)]) (n := 4) rfl
  have h6 := numsL_le (l := [(ops.length : Int)]) (n := 1) rfl
  simp only [encL, List.length_append]
  omega
theorem base_wf {x y : List OpD} (h : x.map base = y.map base) (hv : ∀ o ∈ y, (Lit.int .i64 o.vn).wf = true) : ∀ o ∈ x, (Lit.int .i64 o.vn).wf = true := by
  intro o ho
  have h1 : base o ∈ y.map base := by rw [← h]; exact List.mem_map_of_mem ho
  obtain ⟨o2, h2, h3⟩ := List.mem_map.1 h1
  have h4 : o2.vn = o.vn := by simpa [base] using congrArg OpD.vn h3
  rw [← h4]; exact hv o2 h2
def ChV (a s st : Int) (deps : List Rf) (DA : Option Addr) (DC : Nat) (ops : List OpD) (OA : Option Addr) (OC : Nat) : Value := .agg #[.int .i64 a, .int .i64 s, .int .i64 st, .slice DA deps.length DC, .slice OA ops.length OC]
set_option maxHeartbeats 8000000 in
set_option maxRecDepth 20000 in
theorem changeBack_walk (a s st : Int) (deps : List Rf) (DA : Option Addr) (dn DC : Nat) (ops : List OpD) (OA : Option Addr) (m OC : Nat) (bl : List UInt8) (A1 : Option Addr) (c1 : Nat) (w : World)
    (hC : ChM w deps DA ops OA) (hdn : deps.length = dn) (hm : ops.length = m) (hv : ∀ o ∈ ops, (Lit.int .i64 o.vn).wf = true)
    (hr : Reads (fun k => k < w.heap.size) w 1 A1 bl.length (bytesC bl)) (hcap : bl.length ≤ c1) (hsm : bl.length ≤ 4000000) :
    Calls Try.prog 3 #[.agg #[.int .i64 a, .int .i64 s, .int .i64 st, .slice DA dn DC, .slice OA m OC], .slice A1 bl.length c1] w fun e w' => e = .returned (.bool true) ∧ Below w.heap.size w w' := by
  have HC := Lib.hid hC
  have HV := Lib.hid hv
  have HR := Lib.hid hr
  have HM := Lib.hid hm
  have HN := Lib.hid hdn
  clear hC hv hr hm hdn
  go_enter Try.func3, Try.ntmps3
  go_wp2_with fail
  have HBW := Lib.hid (Blk.new w 25 #[.int .i64 a, .int .i64 s, .int .i64 st, .slice DA dn DC, .slice OA m OC])
  generalize hw1 : w.alloc (.cells #[.int .i64 a, .int .i64 s, .int .i64 st, .slice DA dn DC, .slice OA m OC] 25) = w1 at HBW ⊢
  have HB1 : Hid (Below w.heap.size w w1) := by rw [← hw1]; exact (Below.refl _ w).alloc (Nat.le_refl _) _
  have hs1 : w1.heap.size = w.heap.size + 1 := by rw [← hw1]; simp
  clear hw1
  have HBO := Lib.hid (Blk.new w1 33 #[.int .i64 1, .int .i64 0, .int .i64 0, .string ⟨#[97]⟩, .int .i64 0, .int .i64 0, .bool false, .int .i64 2, .int .i64 5, .string ⟨#[]⟩, .int .i64 0, .int .i64 0, .slice none 0 0])
  rw [hs1] at HBO
  generalize hw2 : w1.alloc (.cells #[.int .i64 1, .int .i64 0, .int .i64 0, .string ⟨#[97]⟩, .int .i64 0, .int .i64 0, .bool false, .int .i64 2, .int .i64 5, .string ⟨#[]⟩, .int .i64 0, .int .i64 0, .slice none 0 0] 33) = w2 at HBO ⊢
  have HB2 : Hid (Below w.heap.size w w2) := by rw [← hw2]; exact HB1.out.alloc HB1.out.size _
  have hs2 : w2.heap.size = w.heap.size + 1 + 1 := by rw [← hw2, World.size_alloc, hs1]
  replace HBW : Hid (Blk w2 w.heap.size 25 #[.int .i64 a, .int .i64 s, .int .i64 st, .slice DA dn DC, .slice OA m OC]) := by rw [← hw2]; exact HBW.out.keep (Below.heap_alloc _ _ _ HBW.out.lt)
  clear hw2
  generalize hw3 : w2.alloc (.cells #[.int .i64 1, .int .i64 1, .int .i64 1, .slice none 0 0, .slice (some ⟨w.heap.size + 1, 0, none⟩) 1 1] 25) = w3
  have HB3 : Hid (Below w.heap.size w w3) := by rw [← hw3]; exact HB2.out.alloc HB2.out.size _
  replace HBW : Hid (Blk w3 w.heap.size 25 #[.int .i64 a, .int .i64 s, .int .i64 st, .slice DA dn DC, .slice OA m OC]) := by rw [← hw3]; exact HBW.out.keep (Below.heap_alloc _ _ _ HBW.out.lt)
  replace HBO : Hid (Blk w3 (w.heap.size + 1) 33 (opC oneOp).toArray) := by rw [← hw3]; exact HBO.out.keep (Below.heap_alloc _ _ _ HBO.out.lt)
  have hCM : ChM w3 [] none [oneOp] (some ⟨w.heap.size + 1, 0, none⟩) := by
    have h1 := (one_reads HBO.out (n := 13) rfl).more (fun x (hx : x = w.heap.size + 1) => (show x < w3.heap.size by rw [hx]; exact HBO.out.lt))
    refine ⟨Reads.none_, by decide, ?_, by decide, fun o ho => ?_⟩
    · exact h1
    · rw [List.mem_singleton.1 ho]; exact ⟨Reads.none_, by decide⟩
  have R1 := enc_any 1 1 1 [] none 0 0 [oneOp] (some ⟨w.heap.size + 1, 0, none⟩) 1 1 w3 hCM rfl rfl one_zero one_good
  clear hCM HBO hs1 hs2 hw3
  go_wp2_with fail
  go_at_call 4
  refine R1.mono ?_
  rintro e w4 ⟨v4, rfl, ho, hb⟩
  obtain ⟨A4, C4, hv4, _, _, _⟩ := Reads.of_own ho
  rw [one_len] at hv4
  subst hv4
  replace HBW := Lib.hid (HBW.out.keep (hb.block _ HBW.out.lt))
  have HB4 : Hid (Below w.heap.size w w4) := HB3.out.trans (hb.mono HB3.out.size)
  have hlt4 := HBW.out.lt
  clear R1 ho hb HB3 HB2 HB1
  obtain ⟨d0, d1, d2, d3, d4⟩ := blk5 HBW.out
  by_cases hz : chgE a s st deps ops = 0
  · have hG := (chg_good hz HV.out).1
    have HG := Lib.hid hG
    have HZ := Lib.hid hz
    have R2 := enc_any a s st deps DA dn DC ops OA m OC w4 (HC.out.keep HB4.out) HN.out HM.out hz hG
    have hlen := encL_len hG
    have hpos := encL_pos a s st deps ops
    have hcut := fun (noV yesV : Value) (e : Ending) (w' : World) => decPost_cut (noV := noV) (yesV := yesV) (e := e) (w' := w') hz HV.out (k := (encL a s st deps ops).length - 1) (by omega)
    have hyes := fun (noV yesV : Value) (e : Ending) (w' : World) => decPost_yes (noV := noV) (yesV := yesV) (e := e) (w' := w') hz HV.out bl rfl
    have HSA := Lib.hid (fun (W : World) (os : List OpD) (OA2 : Option Addr) (DA2 : Option Addr) (DC2 OC2 : Nat) (hb2 : os.map base = ops.map base) (hcm : ChM W deps DA2 os OA2) (hb : Below w.heap.size w W) =>
      same_change a s st deps DA dn DC ops OA m OC deps DA2 deps.length DC2 os OA2 os.length OC2 W (HC.out.keep hb) hcm HN.out HM.out rfl rfl hG ((chg_good ((chgE_base hb2).trans hz) (base_wf hb2 HV.out)).1) (encL_base hb2.symm))
    clear hG hz
    generalize encL a s st deps ops = el at *
    go_wp2_with fail
    go_at_call 4
    refine R2.mono ?_
    rintro e w5 ⟨v5, rfl, ho5, hb⟩
    have hs45 := hb.size
    obtain ⟨A5, C5, hv5, hC5, hC5m, hr5⟩ := Reads.of_own ho5
    subst hv5
    replace HBW := Lib.hid (HBW.out.keep (hb.block _ HBW.out.lt))
    have HB5 : Hid (Below w.heap.size w w5) := HB4.out.trans (hb.mono HB4.out.size)
    clear R2 hb
    have R3 := fun h1 h2 h3 h4 => dec_any (l := el.take (el.length - 1)) (A := A5) (c := C5) (w := w5) (D := fun k => k < w5.heap.size) h1 h2 h3 h4
    have e1 : (bytesC el).take ((el.length - 1) * 1) = bytesC (el.take (el.length - 1)) := by simp [bytesC, List.map_take]
    have e2 : (el.take (el.length - 1)).length = el.length - 1 := by rw [List.length_take, Nat.min_eq_left (by omega)]
    have h5 := hr5.take (k := el.length - 1) (by omega)
    rw [e1] at h5
    rw [e2] at R3
    replace R3 := R3 (h5.more (fun x hx => (own_lt ho5 hx).2)) (fun _ h => h) (by omega) (by omega)
    go_wp2_with fail
    go_at_call 5
    refine R3.mono ?_
    rintro e w6 ⟨hp, hb⟩
    replace HBW := Lib.hid (HBW.out.keep (hb.block _ HBW.out.lt))
    have HB6 : Hid (Below w.heap.size w w6) := HB5.out.trans (hb.mono HB5.out.size)
    have ho6 := own_below ho5 hb
    have hb6 : w4.heap.size ≤ w6.heap.size := Nat.le_trans hs45 hb.size
    obtain rfl := hcut _ _ _ _ hp
    clear R3 hb hp hr5 h5 e1 e2 hcut
    have HB7 := Lib.hid (HB6.out.alloc HB6.out.size (.cells #[.int .i64 0, .int .i64 0, .int .i64 0, .slice none 0 0, .slice none 0 0] 25))
    have HR7 := Lib.hid (HR.out.keep (Below.keeps HB7.out))
    have ho7 := ho6.alloc (.cells #[.int .i64 0, .int .i64 0, .int .i64 0, .slice none 0 0, .slice none 0 0] 25)
    replace HBW := Lib.hid (HBW.out.keep (Below.heap_alloc w6 (.cells #[.int .i64 0, .int .i64 0, .int .i64 0, .slice none 0 0, .slice none 0 0] 25) _ HBW.out.lt))
    have hs7 : w4.heap.size ≤ (w6.alloc (.cells #[.int .i64 0, .int .i64 0, .int .i64 0, .slice none 0 0, .slice none 0 0] 25)).heap.size := by rw [World.size_alloc]; omega
    obtain ⟨i0, hi, hz0, hz1, hz2⟩ := info_parts infoByte
    clear ho5 ho6 hb6 hs45
    go_wp2_with (at_builtin; refine wpList_append_any _ rfl (.tmp 55) (.tmp 56) _ rfl (w4.heap.size) 5 i0 _ 1 1 Try.underlying26 hi hz0 hz1 hz2 rfl (by omega) (.slice A5 el.length C5) (el.length) (bytesC el) rfl (ho7) _ (A1) (bl.length) (c1) (bytesC bl) rfl (HR7.out) (bytesC_one _) ?c1 ?c2 ?c3 ?_)
    try case c1 => simp only [maxLen]; omega
    try case c2 => omega
    try case c3 => exact hs7
    intro v8 w8 ho8 hg8 hat8
    have HB8 : Hid (Below w.heap.size w w8) := HB7.out.grown hg8 HB7.out.size (fun g hg => Nat.le_trans HB4.out.size (own_lt ho7 hg).1)
    replace HBW : Hid (Blk w8 w.heap.size 25 #[.int .i64 a, .int .i64 s, .int .i64 st, .slice DA dn DC, .slice OA m OC]) := HBW.out.grown hg8 (fun e => by have := (own_lt ho7 e).1; omega)
    rw [← bytesC_append] at ho8
    obtain ⟨A8, C8, hv8, hc8, _, hr8⟩ := Reads.of_own ho8
    subst hv8
    have hR8 : Reads (fun k => k < w8.heap.size) w8 1 A8 (el ++ bl).length (bytesC (el ++ bl)) := by
      rw [List.length_append]; exact hr8.more (fun x hx => (own_lt ho8 hx).2)
    have R5 := dec_any hR8 (c := C8) (fun _ h => h) (by rw [List.length_append]; exact hc8) (by rw [List.length_append]; omega)
    rw [List.length_append] at R5
    clear ho7 ho8 hg8 hat8 hr8 hR8 hs7
    obtain ⟨d0, d1, d2, d3, d4⟩ := blk5 HBW.out
    go_wp2_with fail
    go_at_call 5
    refine R5.mono ?_
    rintro e w9 ⟨hp, hb⟩
    replace HBW := Lib.hid (HBW.out.keep (hb.block _ HBW.out.lt))
    have HB9 : Hid (Below w.heap.size w w9) := HB8.out.trans (hb.mono HB8.out.size)
    obtain ⟨DA2, DC2, OA2, OC2, os2, hbs, hcm, rfl⟩ := hyes _ _ _ _ hp
    clear R5 hb hp hyes
    have HB10 := Lib.hid (HB9.out.alloc HB9.out.size (.cells #[.int .i64 a, .int .i64 s, .int .i64 st, .slice DA2 deps.length DC2, .slice OA2 os2.length OC2] 25))
    have S1 := HSA.out _ os2 OA2 DA2 DC2 OC2 hbs (hcm.keep ((Below.refl _ w9).alloc (Nat.le_refl _) (.cells #[.int .i64 a, .int .i64 s, .int .i64 st, .slice DA2 deps.length DC2, .slice OA2 os2.length OC2] 25))) HB10.out
    obtain ⟨d0, d1, d2, d3, d4⟩ := blk5 (HBW.out.keep (Below.heap_alloc w9 (.cells #[.int .i64 a, .int .i64 s, .int .i64 st, .slice DA2 deps.length DC2, .slice OA2 os2.length OC2] 25) _ HBW.out.lt))
    clear hcm HSA hbs
    go_wp2_with fail
    go_at_call 6
    refine S1.mono ?_
    rintro e w11 ⟨rfl, hb⟩
    have HB11 : Hid (Below w.heap.size w w11) := HB10.out.trans (hb.mono HB10.out.size)
    clear S1 hb
    have R3 := dec_any (reads_below HR.out HB11.out) (fun _ h => h) hcap (by omega)
    go_wp2_with fail
    go_at_call 5
    refine R3.mono ?_
    rintro e wa ⟨hp, hb⟩
    have HBa : Hid (Below w.heap.size w wa) := HB11.out.trans (hb.mono HB11.out.size)
    clear R3 hb
    rcases decPost_any hp with rfl | ⟨a', s', st', n', deps', os', DA', DC', OA', OC', hz', hG', hcm', hn', he', rfl⟩
    · have HBb := Lib.hid (HBa.out.alloc HBa.out.size (.cells #[.int .i64 0, .int .i64 0, .int .i64 0, .slice none 0 0, .slice none 0 0] 25))
      go_wp2_with fail
      go_ret
      exact ⟨rfl, HBb.out⟩
    · have HBb := Lib.hid (HBa.out.alloc HBa.out.size (.cells #[.int .i64 a', .int .i64 s', .int .i64 st', .slice DA' deps'.length DC', .slice OA' os'.length OC'] 25))
      have R4 := enc_any a' s' st' deps' DA' deps'.length DC' os' OA' os'.length OC' _ (hcm'.keep ((Below.refl _ wa).alloc (Nat.le_refl _) (.cells #[.int .i64 a', .int .i64 s', .int .i64 st', .slice DA' deps'.length DC', .slice OA' os'.length OC'] 25))) rfl rfl hz' hG'
      have HE' := Lib.hid he'
      clear he' hz' hG' hcm' hp
      go_wp2_with fail
      go_at_call 4
      refine R4.mono ?_
      rintro e wb ⟨vb, rfl, ho, hb⟩
      have HBc : Hid (Below w.heap.size w wb) := HBb.out.trans (hb.mono HBb.out.size)
      rw [HE'.out] at ho
      obtain ⟨Ab, Cb, hvb, _, _, hrb⟩ := Reads.of_own ho
      subst hvb
      have e2 : (bl.take n').length = n' := by rw [List.length_take, Nat.min_eq_left hn']
      have cv1 : ∀ x, (convert 26 9 (.slice Ab n' Cb)).run Try.prog (wb.drewN x) = .ok (.string ⟨(bl.take n').toArray⟩) (wb.drewN x) := by
        intro x
        have h2 := conv_reads (l := bl.take n') (D := fun k => (Value.slice Ab (bl.take n').length Cb).ownBlock = some k) (A := Ab) (c := Cb) (w := wb.drewN x) hrb
        rw [e2] at h2
        exact h2
      have cv2 : ∀ x, (convert 26 9 (.slice A1 n' c1)).run Try.prog (wb.drewN x) = .ok (.string ⟨(bl.take n').toArray⟩) (wb.drewN x) := by
        intro x
        have h1 := (reads_below HR.out HBc.out).take hn'
        have e1 : (bytesC bl).take (n' * 1) = bytesC (bl.take n') := by simp [bytesC, List.map_take]
        rw [e1] at h1
        have h2 : Reads (fun k => k < wb.heap.size) (wb.drewN x) 1 A1 (bl.take n').length (bytesC (bl.take n')) := by rw [e2]; exact h1
        replace h2 := conv_reads (c := c1) h2
        rw [e2] at h2
        exact h2
      have hle : n' ≤ c1 := by omega
      clear R4 ho hrb hb HBa e2
      go_wp2_with fail
      go_quiet (fail)
      go_wp2_with fail
      go_ret
      exact ⟨rfl, below_drewN HBc.out _⟩
  · have R2 := encBad_any a s st deps DA dn DC ops OA m OC w4 (HC.out.keep HB4.out) HN.out HM.out _ rfl hz
    go_wp2_with fail
    go_at_call 4
    refine R2.mono ?_
    rintro e w5 ⟨rfl, hb⟩
    have HB5 : Hid (Below w.heap.size w w5) := HB4.out.trans (hb.mono HB4.out.size)
    clear R2 hb
    have R3 := dec_any (reads_below HR.out HB5.out) (fun _ h => h) hcap (by omega)
    go_wp2_with fail
    go_at_call 5
    refine R3.mono ?_
    rintro e wa ⟨hp, hb⟩
    have HBa : Hid (Below w.heap.size w wa) := HB5.out.trans (hb.mono HB5.out.size)
    clear R3 hb
    rcases decPost_any hp with rfl | ⟨a', s', st', n', deps', os', DA', DC', OA', OC', hz', hG', hcm', hn', he', rfl⟩
    · have HBb := Lib.hid (HBa.out.alloc HBa.out.size (.cells #[.int .i64 0, .int .i64 0, .int .i64 0, .slice none 0 0, .slice none 0 0] 25))
      go_wp2_with fail
      go_ret
      exact ⟨rfl, HBb.out⟩
    · have HBb := Lib.hid (HBa.out.alloc HBa.out.size (.cells #[.int .i64 a', .int .i64 s', .int .i64 st', .slice DA' deps'.length DC', .slice OA' os'.length OC'] 25))
      have R4 := enc_any a' s' st' deps' DA' deps'.length DC' os' OA' os'.length OC' _ (hcm'.keep ((Below.refl _ wa).alloc (Nat.le_refl _) (.cells #[.int .i64 a', .int .i64 s', .int .i64 st', .slice DA' deps'.length DC', .slice OA' os'.length OC'] 25))) rfl rfl hz' hG'
      have HE' := Lib.hid he'
      clear he' hz' hG' hcm' hp
      go_wp2_with fail
      go_at_call 4
      refine R4.mono ?_
      rintro e wb ⟨vb, rfl, ho, hb⟩
      have HBc : Hid (Below w.heap.size w wb) := HBb.out.trans (hb.mono HBb.out.size)
      rw [HE'.out] at ho
      obtain ⟨Ab, Cb, hvb, _, _, hrb⟩ := Reads.of_own ho
      subst hvb
      have e2 : (bl.take n').length = n' := by rw [List.length_take, Nat.min_eq_left hn']
      have cv1 : ∀ x, (convert 26 9 (.slice Ab n' Cb)).run Try.prog (wb.drewN x) = .ok (.string ⟨(bl.take n').toArray⟩) (wb.drewN x) := by
        intro x
        have h2 := conv_reads (l := bl.take n') (D := fun k => (Value.slice Ab (bl.take n').length Cb).ownBlock = some k) (A := Ab) (c := Cb) (w := wb.drewN x) hrb
        rw [e2] at h2
        exact h2
      have cv2 : ∀ x, (convert 26 9 (.slice A1 n' c1)).run Try.prog (wb.drewN x) = .ok (.string ⟨(bl.take n').toArray⟩) (wb.drewN x) := by
        intro x
        have h1 := (reads_below HR.out HBc.out).take hn'
        have e1 : (bytesC bl).take (n' * 1) = bytesC (bl.take n') := by simp [bytesC, List.map_take]
        rw [e1] at h1
        have h2 : Reads (fun k => k < wb.heap.size) (wb.drewN x) 1 A1 (bl.take n').length (bytesC (bl.take n')) := by rw [e2]; exact h1
        replace h2 := conv_reads (c := c1) h2
        rw [e2] at h2
        exact h2
      have hle : n' ≤ c1 := by omega
      clear R4 ho hrb hb HBa e2
      go_wp2_with fail
      go_quiet (fail)
      go_wp2_with fail
      go_ret
      exact ⟨rfl, below_drewN HBc.out _⟩
end Go.Proofs.Ytoolpppbbphbjaa
