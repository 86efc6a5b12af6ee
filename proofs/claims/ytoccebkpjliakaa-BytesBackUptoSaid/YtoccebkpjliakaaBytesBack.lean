/- BytesBack: the law's walk. -/
import Derived.Test.YtoccebkpjliakaaBytesQ
import Derived.Test.YtoccebkpjliakaaUnpack2
import Derived.Test.YtoccebkpjliakaaBytes8
import Derived.Test.YtoccebkpjliakaaOpenS
import Derived.Laws.IdiomStrings
import Derived.Laws.BytesArg
namespace Go.Proofs.Ytoccebkpjliakaa
open Go.ChangeShapes Go.WideShapes Go.ChangeAt Go.RowKit

/-- too many numbers are not packed -/
theorem pack_no (A : Option Addr) (n c : Nat) (w : World) (hn : 400 < n) (hl : n ≤ 2000000) :
    Calls Try.prog 22 #[.slice A n c] w fun e w' => e = .returned (.tuple #[.slice none 0 0, .iface 23 (.int .i64 4)]) ∧ w = w' := by
  have hd4 : decide ((400 : Int) < (n : Int)) = true := by simp; omega
  go_enter Try.func22, Try.ntmps22
  go_wp2_with fail
  go_ret2
  exact ⟨rfl, rfl⟩

/-- the bytes a slice holds, as a string -/
theorem conv_reads {l : List UInt8} {D : Nat → Prop} {A : Option Addr} {c : Nat} {w : World} (hr : Reads D w 1 A l.length (bytesC l)) :
    (convert 42 9 (.slice A l.length c)).run Try.prog w = .ok (.string ⟨l.toArray⟩) w := by
  rcases Nat.eq_zero_or_pos l.length with h0 | h0
  · have : l = [] := List.length_eq_zero_iff.1 h0
    subst this
    rw [run_convert_bytes_string w 42 9 5 A _ c Try.underlying42 Try.underlying5 Try.underlying9]
    cases A with
    | none => simp [Conv.bytesToString]; rfl
    | some a =>
      have := run_convert_bytes_back (P := Try.prog) w 42 9 5 a c [] Try.underlying42 Try.underlying5 Try.underlying9 (fun j hj => by simp at hj)
      rw [run_convert_bytes_string w 42 9 5 (some a) _ c Try.underlying42 Try.underlying5 Try.underlying9] at this
      exact this
  · obtain ⟨ad, rfl, _, hc⟩ := hr.2 h0
    refine run_convert_bytes_back w 42 9 5 ad c l Try.underlying42 Try.underlying5 Try.underlying9 (fun j hj => ?_)
    exact hc j _ (by simp [bytesC, List.getElem?_eq_getElem hj])

theorem flagsG_le : ∀ (l : List Bool) (now : Bool) (c : Int), (flagsG now c l).length ≤ l.length + 1
  | [], _, _ => by simp [flagsG]
  | x :: l, now, c => by
    simp only [flagsG]
    split
    · have := flagsG_le l now (c + 1); simp; omega
    · have := flagsG_le l x 1; simp; omega
theorem flagsL_le (l : List Bool) (h : l.length ≤ 1048576) : (flagsL l).length ≤ 2000000 := by
  cases l with
  | nil => simp [flagsL]
  | cons x l => have := flagsG_le (x :: l) false 0; simp only [flagsL]; omega
theorem put300 : putN 300 = [172, 2] := by decide

set_option maxRecDepth 20000 in
set_option maxHeartbeats 8000000 in
theorem back_walk (n : Nat) (hn : Hid (n < 2 ^ 64)) (k : Int) (hk : (Lit.int .i64 k).wf = true) (l : List Int) (hI : Hid (∀ x ∈ l, I64 x)) (f : List Bool) (b : List UInt8) (Al Af Ab : Option Addr) (cl cf cb : Nat) (w : World)
    (hl : l.length ≤ 1048576) (hf : f.length ≤ 1048576) (hb : b.length ≤ 1048576) (hcb : b.length ≤ cb)
    (HRl : Hid (Reads (· < w.heap.size) w 1 Al l.length (intsC l))) (HRf : Hid (Reads (· < w.heap.size) w 1 Af f.length (boolsC f))) (HRb : Hid (Reads (· < w.heap.size) w 1 Ab b.length (bytesC b))) :
    Calls Try.prog 6 #[.int .u64 n, .int .i64 k, .slice Al l.length cl, .slice Af f.length cf, .slice Ab b.length cb] w fun e w' => e = .returned (.bool true) ∧ Below w.heap.size w w' := by
  obtain ⟨i0, hi, hz0, hz1, hz2⟩ := info_parts infoByte
  have HK := Lib.hid hk
  clear hk
  go_enter Try.func6, Try.ntmps6
  go_wp2_with fail
  refine (put_sl 300 (by show _ < 2 ^ 64; omega) w).mono ?_
  rintro e w1 ⟨A1, c1, rfl, ho1, hb1⟩
  rw [put300] at ho1 ⊢
  obtain ⟨b1, o1, hA1, _, hcell⟩ := (own_reads ho1).at_ (by simp) (by omega)
  have hc0 : w1.cell? ⟨b1, o1, none⟩ = some (.int .u8 172) := hcell 0 (.int .u8 172) rfl
  have hc1 := hcell 1 (.int .u8 2) rfl
  subst hA1
  clear hcell ho1
  have HB1 := Lib.hid hb1
  clear hb1
  go_wp2_with fail
  clear hc0 hc1
  refine (put_sl n hn w1).mono ?_
  rintro e w2 ⟨A2, c2, rfl, ho2, hb2⟩
  have HB2 : Hid (Below w.heap.size w w2) := HB1.out.trans (hb2.mono HB1.out.size)
  have hl2 := putN_length n
  have HR2 := Lib.hid (HRb.out.keep (Below.keeps HB2.out))
  have hs2 := ho2
  have hbs : w1.heap.size ≤ w2.heap.size := hb2.size
  clear hb2
  go_wp2_with (at_builtin; refine wpList_append_any _ rfl (.tmp 46) (.tmp 47) _ rfl (w1.heap.size) 5 i0 _ 1 1 Try.underlying42 hi hz0 hz1 hz2 rfl (by omega) (.slice A2 (putN n).length c2) ((putN n).length) (bytesC (putN n)) rfl (ho2) _ (Ab) (b.length) (cb) (bytesC b) rfl (HR2.out) (bytesC_one _) ?c1 ?c2 ?c3 ?_)
  try case c1 => simp only [maxLen]; omega
  try case c2 => omega
  try case c3 => exact hbs
  intro v3 w3 ho3 hg3 hat3
  have HB3 : Hid (Below w.heap.size w w3) := HB2.out.grown hg3 HB2.out.size (fun g hg => Nat.le_trans HB1.out.size (own_lt ho2 hg).1)
  rw [← bytesC_append] at ho3
  obtain ⟨A3, c3, hv3, _, _, hr3⟩ := Reads.of_own ho3
  subst hv3
  have HG3 : Hid (∀ D A c w, Reads D w 1 A ((putN n).length + b.length) (bytesC (putN n ++ b)) → Calls Try.prog 16 #[.slice A ((putN n).length + b.length) c] w fun e w' => e = .returned (.tuple #[.int .u64 n, .int .i64 (putN n).length, .nilIface]) ∧ w' = w) := by
    intro D A c w hr
    have := get_len (putN n ++ b) ((putN n).length + b.length) (by simp) D A c w hr (by simp only [maxLen]; omega)
    rw [getN_putN n b hn.out] at this
    exact this
  have HR3 := Lib.hid hr3
  clear hs2 ho2 ho3 hr3 hg3 hat3 hbs HR2
  generalize (putN n).length = p at hl2 HR3 HG3 ⊢
  go_wp2_with fail
  refine (HG3.out _ A3 c3 w3 HR3.out).mono ?_
  rintro e w3 ⟨rfl, rfl⟩
  go_wp2_with fail
  refine (putS_sl k HK.out w3).mono ?_
  rintro e w4 ⟨A4, c4, rfl, ho4, hb4⟩
  have HB4 : Hid (Below w.heap.size w w4) := HB3.out.trans (hb4.mono HB3.out.size)
  have hl4 : 1 ≤ (putS k).length ∧ (putS k).length ≤ 10 := putN_length (zz k)
  have HR4 := Lib.hid (HRb.out.keep (Below.keeps HB4.out))
  have hs4 := ho4
  have hbs : w3.heap.size ≤ w4.heap.size := hb4.size
  clear hb4 HR3 HG3 hl2
  go_wp2_with (at_builtin; refine wpList_append_any _ rfl (.tmp 73) (.tmp 74) _ rfl (w3.heap.size) 5 i0 _ 1 1 Try.underlying42 hi hz0 hz1 hz2 rfl (by omega) (.slice A4 (putS k).length c4) ((putS k).length) (bytesC (putS k)) rfl (ho4) _ (Ab) (b.length) (cb) (bytesC b) rfl (HR4.out) (bytesC_one _) ?c1 ?c2 ?c3 ?_)
  try case c1 => simp only [maxLen]; omega
  try case c2 => omega
  try case c3 => exact hbs
  intro v5 w5 ho5 hg5 hat5
  have HB5 : Hid (Below w.heap.size w w5) := HB4.out.grown hg5 HB4.out.size (fun g hg => Nat.le_trans HB3.out.size (own_lt ho4 hg).1)
  rw [← bytesC_append] at ho5
  obtain ⟨A5, c5, hv5, _, _, hr5⟩ := Reads.of_own ho5
  subst hv5
  have HG5 : Hid (∀ D A c w, Reads D w 1 A ((putS k).length + b.length) (bytesC (putS k ++ b)) → Calls Try.prog 18 #[.slice A ((putS k).length + b.length) c] w fun e w' => e = .returned (.tuple #[.int .i64 k, .int .i64 (putS k).length, .nilIface]) ∧ w' = w) := by
    intro D A c w hr
    have := getS_len (putS k ++ b) ((putS k).length + b.length) (by simp) D A c w hr (by simp only [maxLen]; omega)
    rw [getS, putS, getN_putN (zz k) b (zz_lt (wf_i64_bd HK.out)), Option.map_some, unzz_zz] at this
    exact this
  have HR5 := Lib.hid hr5
  clear hs4 ho4 ho5 hr5 hg5 hat5 hbs HR4
  generalize (putS k).length = p' at hl4 HR5 HG5 ⊢
  go_wp2_with fail
  refine (HG5.out _ A5 c5 w5 HR5.out).mono ?_
  rintro e w5 ⟨rfl, rfl⟩
  have HX := Lib.hid (sums_deltas l 0 hI.out)
  go_wp2_with fail
  refine (deltas_any l (· < w.heap.size) Al cl w5 (HRl.out.keep (Below.keeps HB5.out)) (fun k hk => Nat.lt_of_lt_of_le hk HB5.out.size) (by omega)).mono ?_
  rintro e w6 ⟨v6, rfl, ho6, hb6⟩
  have HB6 : Hid (Below w.heap.size w w6) := HB5.out.trans (hb6.mono HB5.out.size)
  obtain ⟨A6, c6, hv6, _, _, hr6⟩ := Reads.of_own ho6
  subst hv6
  have HR6 := Lib.hid hr6
  have HD6 : Hid (∀ k, (Value.slice A6 (deltasF 0 l).length c6).ownBlock = some k → k < w6.heap.size) := fun k hk => (own_lt ho6 hk).2
  clear hb6 ho6 hr6 HG5 HR5 hl4
  go_wp2_with fail
  refine (sums_any (deltasF 0 l) _ A6 c6 w6 HR6.out HD6.out (by rw [deltasF_length]; omega)).mono ?_
  rintro e w7 ⟨v7, rfl, ho7, hb7⟩
  have HB7 : Hid (Below w.heap.size w w7) := HB6.out.trans (hb7.mono HB6.out.size)
  rw [HX.out] at ho7
  obtain ⟨A7, c7, hv7, _, _, hr7⟩ := Reads.of_own ho7
  subst hv7
  have HR7 := Lib.hid hr7
  have HD7 : Hid (∀ k, (Value.slice A7 l.length c7).ownBlock = some k → k < w7.heap.size) := fun k hk => (own_lt ho7 hk).2
  clear hb7 ho7 hr7 HX HR6 HD6
  go_wp2_with fail
  refine (ints_yes l _ (· < w.heap.size) A7 Al c7 cl w7 HR7.out (HRl.out.keep (Below.keeps HB7.out)) HD7.out (fun k hk => Nat.lt_of_lt_of_le hk HB7.out.size) (by omega)).mono ?_
  rintro e w8 ⟨rfl, hb8⟩
  have HB8 : Hid (Below w.heap.size w w8) := HB7.out.trans (hb8.mono HB7.out.size)
  clear hb8 HR7 HD7
  go_wp2_with fail
  have h400 : l.length ≤ 400 ∨ 400 < l.length := by omega
  rcases h400 with h400 | h400
  rotate_left
  focus
    refine (pack_no Al l.length cl w8 h400 (by omega)).mono ?_
    rintro e w8 ⟨rfl, rfl⟩
    go_wp2_with fail
  rotate_left 2
  focus
    refine (pack_any l (fun x hx => by
      have := deltasF_bd l 0 x hx
      simpa [Lit.wf, IntKind.min, IntKind.max, IntKind.signed, IntKind.bits, I64] using this) (· < w.heap.size) Al cl w8 (HRl.out.keep (Below.keeps HB8.out)) (fun k hk => Nat.lt_of_lt_of_le hk HB8.out.size) h400).mono ?_
    rintro e w9 ⟨⟨v9, rfl, ho9⟩, hb9⟩
    have HB9 : Hid (Below w.heap.size w w9) := HB8.out.trans (hb9.mono HB8.out.size)
    have hpk : (packL l).length ≤ 8010 := by
      have h1 := putN_length l.length
      have h2 := piecesB_length (runsL (deltasF 0 l))
      have h3 := runsL_length (deltasF 0 l)
      rw [deltasF_length] at h3
      simp only [packL, List.length_append]; omega
    obtain ⟨A9, c9, hv9, _, _, hr9⟩ := Reads.of_own ho9
    subst hv9
    have hbs : w8.heap.size ≤ w9.heap.size := hb9.size
    have HR9 := Lib.hid (HRb.out.keep (Below.keeps HB9.out))
    have hs9 := ho9
    clear hb9 hr9
    go_wp2_with (at_builtin; refine wpList_append_any _ rfl (.tmp 115) (.tmp 116) _ rfl (w8.heap.size) 5 i0 _ 1 1 Try.underlying42 hi hz0 hz1 hz2 rfl (by omega) (.slice A9 (packL l).length c9) ((packL l).length) (bytesC (packL l)) rfl (ho9) _ (Ab) (b.length) (cb) (bytesC b) rfl (HR9.out) (bytesC_one _) ?c1 ?c2 ?c3 ?_)
    try case c1 => simp only [maxLen]; omega
    try case c2 => omega
    try case c3 => exact hbs
    intro v10 w10 ho10 hg10 hat10
    have HB10 : Hid (Below w.heap.size w w10) := HB9.out.grown hg10 HB9.out.size (fun g hg => Nat.le_trans HB8.out.size (own_lt ho9 hg).1)
    rw [← bytesC_append] at ho10
    obtain ⟨A10, c10, hv10, hc10, _, hr10⟩ := Reads.of_own ho10
    subst hv10
    have HG10 : Hid (∀ D A c w, Reads D w 1 A ((packL l).length + b.length) (bytesC (packL l ++ b)) → (∀ k, D k → k < w.heap.size) → (packL l).length + b.length ≤ c → Calls Try.prog 23 #[.slice A ((packL l).length + b.length) c] w fun e w' => (∃ A' c', e = .returned (.tuple #[.slice A' l.length c', .int .i64 (packL l).length, .nilIface]) ∧ Reads (· < w'.heap.size) w' 1 A' l.length (intsC l)) ∧ Below w.heap.size w w') := by
      intro D A c w hr hD hc
      have hlen : (packL l ++ b).length = (packL l).length + b.length := by simp
      have := unpack_any (packL l ++ b) D A c w (by rw [hlen]; exact hr) hD (by rw [hlen]; omega) (by rw [hlen]; exact hc)
      rw [hlen, unpack_pack h400 hI.out] at this
      refine this.mono ?_
      rintro e w' ⟨⟨v, rfl, ho⟩, hb⟩
      obtain ⟨A', c', hv, _, _, hr'⟩ := Reads.of_own ho
      subst hv
      exact ⟨⟨A', c', rfl, hr'.more fun k hk => (own_lt ho hk).2⟩, hb⟩
    have HR10 := Lib.hid hr10
    have HD10 : Hid (∀ k, (Value.slice A10 ((packL l).length + b.length) c10).ownBlock = some k → k < w10.heap.size) := fun k hk => (own_lt ho10 hk).2
    clear hs9 ho9 ho10 hr10 hg10 hat10 hbs HR9
    generalize (packL l).length = p at hpk HR10 HG10 HD10 hc10 ⊢
    go_wp2_with fail
    refine (HG10.out _ A10 c10 w10 HR10.out HD10.out hc10).mono ?_
    rintro e w11 ⟨⟨A11, c11, rfl, hr11⟩, hb11⟩
    have HB11 : Hid (Below w.heap.size w w11) := HB10.out.trans (hb11.mono HB10.out.size)
    have HR11 := Lib.hid hr11
    clear hb11 hr11 HG10 HD10 HR10
    go_wp2_with fail
    refine (ints_yes l _ (· < w.heap.size) A11 Al c11 cl w11 HR11.out (HRl.out.keep (Below.keeps HB11.out)) (fun k hk => hk) (fun k hk => Nat.lt_of_lt_of_le hk HB11.out.size) (by omega)).mono ?_
    rintro e w12 ⟨rfl, hb12⟩
    have HB12 : Hid (Below w.heap.size w w12) := HB11.out.trans (hb12.mono HB11.out.size)
    clear hb12 HR11
    go_wp2_with fail
    refine (runs_any l (· < w.heap.size) Al cl w12 (HRl.out.keep (Below.keeps HB12.out)) (fun k hk => Nat.lt_of_lt_of_le hk HB12.out.size) (by omega)).mono ?_
    rintro e w13 ⟨v13, rfl, ho13, hb13⟩
    have HB13 : Hid (Below w.heap.size w w13) := HB12.out.trans (hb13.mono HB12.out.size)
    obtain ⟨A13, c13, hv13, _, _, hr13⟩ := Reads.of_own ho13
    subst hv13
    have HR13 := Lib.hid hr13
    have HD13 : Hid (∀ k, (Value.slice A13 (runsL l).length c13).ownBlock = some k → k < w13.heap.size) := fun k hk => (own_lt ho13 hk).2
    have HS13 := Lib.hid (spread_runs l h400)
    have HL13 : Hid ((runsL l).length ≤ 2000000) := by have := runsL_length l; show _ ≤ _; omega
    clear hb13 ho13 hr13
    go_wp2_with fail
    refine (spread_any (runsL l) _ A13 c13 w13 HR13.out HD13.out HL13.out).mono ?_
    rw [HS13.out]
    rintro e w14 ⟨⟨v14, rfl, ho14⟩, hb14⟩
    have HB14 : Hid (Below w.heap.size w w14) := HB13.out.trans (hb14.mono HB13.out.size)
    obtain ⟨A14, c14, hv14, _, _, hr14⟩ := Reads.of_own ho14
    subst hv14
    have HR14 := Lib.hid hr14
    have HD14 : Hid (∀ k, (Value.slice A14 l.length c14).ownBlock = some k → k < w14.heap.size) := fun k hk => (own_lt ho14 hk).2
    clear hb14 ho14 hr14 HR13 HD13 HS13 HL13
    go_wp2_with fail
    refine (ints_yes l _ (· < w.heap.size) A14 Al c14 cl w14 HR14.out (HRl.out.keep (Below.keeps HB14.out)) HD14.out (fun k hk => Nat.lt_of_lt_of_le hk HB14.out.size) (by omega)).mono ?_
    rintro e w8 ⟨rfl, hb15⟩
    have HB8 : Hid (Below w.heap.size w w8) := HB14.out.trans (hb15.mono HB14.out.size)
    clear hb15 HR14 HD14
    go_wp2_with fail
  all_goals
    first
    | go_at_call 23
    | go_at_call 27
      have hf4 : f.length ≤ 400 := by omega
      refine (flags_any f (· < w.heap.size) Af cf w8 (HRf.out.keep (Below.keeps HB8.out)) (fun k hk => Nat.lt_of_lt_of_le hk HB8.out.size) (by omega)).mono ?_
      rintro e w20 ⟨v20, rfl, ho20, hb20⟩
      have HB20 : Hid (Below w.heap.size w w20) := HB8.out.trans (hb20.mono HB8.out.size)
      obtain ⟨A20, c20, hv20, _, _, hr20⟩ := Reads.of_own ho20
      subst hv20
      have HR20 := Lib.hid hr20
      have HD20 : Hid (∀ k, (Value.slice A20 (flagsL f).length c20).ownBlock = some k → k < w20.heap.size) := fun k hk => (own_lt ho20 hk).2
      have HF20 := Lib.hid (unflag_flags f hf4)
      have HL20 : Hid ((flagsL f).length ≤ 2000000) := flagsL_le f (by omega)
      clear hb20 ho20 hr20
      go_wp2_with fail
      refine (unflag_any (flagsL f) _ A20 c20 w20 HR20.out HD20.out HL20.out).mono ?_
      rw [HF20.out]
      rintro e w21 ⟨⟨v21, rfl, ho21⟩, hb21⟩
      have HB21 : Hid (Below w.heap.size w w21) := HB20.out.trans (hb21.mono HB20.out.size)
      obtain ⟨A21, c21, hv21, _, _, hr21⟩ := Reads.of_own ho21
      subst hv21
      have HR21 := Lib.hid (hr21.more fun k hk => (own_lt ho21 hk).2)
      clear hb21 ho21 hr21 HR20 HD20 HF20 HL20
      go_wp2_with fail
      go_loopw [25] (fun i wr => ∃ k : Nat, k ≤ f.length ∧ i = .int .i64 k ∧ Hid (Below w21.heap.size w21 wr)) (fun i _ => f.length - (intOf i).toNat)
      case atStart => exact ⟨0, by omega, rfl, Below.refl _ _⟩
      obtain ⟨k, hk, rfl, HBk⟩ := hrel
      have HRk := Lib.hid (HR21.out.keep (Below.keeps HBk.out))
      have HRf' := Lib.hid (HRf.out.keep (Below.keeps (HB21.out.trans (HBk.out.mono HB21.out.size))))
      have HB8 : Hid (Below w.heap.size w wr) := HB21.out.trans (HBk.out.mono HB21.out.size)
      by_cases hlt : k < f.length
      focus
        obtain ⟨b1, o1, hA1, _, hcell1⟩ := HRk.out.at_ (by omega) (by omega)
        obtain ⟨b2, o2, hA2, _, hcell2⟩ := HRf'.out.at_ (by omega) (by omega)
        obtain ⟨x, hx⟩ := get_lt hlt
        have hc1 := hcell1 k _ (bools_at hx)
        have hc2 := hcell2 k _ (bools_at hx)
        subst hA1 hA2
        clear hcell1 hcell2 hx
        go_wp2_with fail
        go_quiet (fail)
        go_wp2_with fail
        exact ⟨⟨k + 1, by omega, by go_num, Lib.hid (below_drewN HBk.out _)⟩, by simp [intOf]; omega⟩
      go_wp2_with fail
      obtain ⟨w8, hw8⟩ : ∃ w8, w8 = wr := ⟨_, rfl⟩
      subst hw8
      clear HRk HRf' HBk hlt
  all_goals
    have HUB := Lib.hid (unpack_any b (· < w.heap.size) Ab cb w8 (HRb.out.keep (Below.keeps HB8.out)) (fun k hk => Nat.lt_of_lt_of_le hk HB8.out.size) (by omega) hcb)
    cases hu : unpackL b with
    | none =>
      rw [hu] at HUB
      refine HUB.out.mono ?_
      rintro e w30 ⟨rfl, hb30⟩
      have HB30 : Hid (Below w.heap.size w w30) := HB8.out.trans (hb30.mono HB8.out.size)
      clear HUB hu hb30
      go_wp2_with fail
      go_ret
      exact ⟨rfl, HB30.out⟩
    | some x =>
      obtain ⟨got, at_⟩ := x
      have hok := unpackL_ok hu
      rw [hu] at HUB
      refine HUB.out.mono ?_
      rintro e w30 ⟨⟨v30, rfl, ho30⟩, hb30⟩
      have HB30 : Hid (Below w.heap.size w w30) := HB8.out.trans (hb30.mono HB8.out.size)
      obtain ⟨A30, c30, hv30, _, _, hr30⟩ := Reads.of_own ho30
      subst hv30
      obtain ⟨hg1, hg2, hg3, hg4⟩ := hok
      have HR30 := Lib.hid (hr30.more fun k hk => (own_lt ho30 hk).2)
      have HG3 := Lib.hid hg3
      have HG4 := Lib.hid hg4
      clear HUB hu hb30 hg3 hg4 hr30 ho30
      go_wp2_with fail
      refine (pack_any got (fun x hx => by
        have := deltasF_bd got 0 x hx
        simpa [Lit.wf, IntKind.min, IntKind.max, IntKind.signed, IntKind.bits, I64] using this) _ A30 c30 w30 HR30.out (fun k hk => hk) hg1).mono ?_
      rintro e w31 ⟨⟨v31, rfl, ho31⟩, hb31⟩
      have HB31 : Hid (Below w.heap.size w w31) := HB30.out.trans (hb31.mono HB30.out.size)
      obtain ⟨A31, c31, hv31, _, _, hr31⟩ := Reads.of_own ho31
      subst hv31
      have hcv1 : ∀ x, (convert 42 9 (.slice A31 (packL got).length c31)).run Try.prog (w31.drewN x) = .ok (.string ⟨(packL got).toArray⟩) (w31.drewN x) := fun x => conv_reads (l := packL got) (D := fun k => (Value.slice A31 (packL got).length c31).ownBlock = some k) (A := A31) (c := c31) (w := w31.drewN x) hr31
      have hat : at_ = (b.take at_).length := by simp; omega
      have hrb : Reads (· < w.heap.size) w31 1 Ab at_ (bytesC (b.take at_)) := by
        have := (HRb.out.keep (Below.keeps HB31.out)).take hg2
        rw [Nat.mul_one] at this
        simpa [bytesC, List.map_take] using this
      have hcv2 : ∀ x, (convert 42 9 (.slice Ab at_ cb)).run Try.prog (w31.drewN x) = .ok (.string ⟨(packL got).toArray⟩) (w31.drewN x) := by
        intro x
        rw [HG3.out]
        have := conv_reads (l := b.take at_) (D := (· < w.heap.size)) (A := Ab) (c := cb) (w := w31.drewN x) (by rw [← hat]; exact hrb)
        rw [← hat] at this
        exact this
      have hle : at_ ≤ cb := by omega
      clear hb31 ho31 hr31 hrb HR30 HG3 HG4 hat
      go_wp2_with fail
      go_quiet (fail)
      go_wp2_with fail
      go_ret
      exact ⟨rfl, below_drewN HB31.out _⟩
end Go.Proofs.Ytoccebkpjliakaa
