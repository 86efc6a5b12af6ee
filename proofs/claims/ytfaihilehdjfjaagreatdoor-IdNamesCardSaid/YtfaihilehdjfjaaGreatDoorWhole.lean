/- Contracts: the document's Whole: a number of digits. -/
import Derived.Test.YtfaihilehdjfjaaGreatDoorParsP
import Derived.Test.YtfaihilehdjfjaaGreatDoorStrN
import Derived.Test.YtfaihilehdjfjaaGreatDoorFrame
import Derived.OwnWalk
namespace Go.Proofs.YtfaihilehdjfjaaGreatDoor
open Go.ChangeShapes Go.WideShapes Go.ChangeAt Go.RowKit

theorem ten_pow_le {k : Nat} (h : k ≤ 7) : 10 ^ k ≤ 10000000 := by
  have : (10 : Nat) ^ k ≤ 10 ^ 7 := Nat.pow_le_pow_right (by omega) h
  simpa using this
theorem dec_step {l : List UInt8} {k n : Nat} {c : UInt8} (h : Lib.decFrom 0 (l.take k) = some n) (hc : l[k]? = some c) (h1 : 48 ≤ c.toNat) (h2 : c.toNat ≤ 57) :
    Lib.decFrom 0 (l.take (k + 1)) = some (n * 10 + (c.toNat - 48)) :=
  Lib.decFrom_take l k 0 n c _ h hc (by unfold Lib.digitVal; rw [if_pos ⟨h1, h2⟩])
theorem dec_bad : ∀ (l : List UInt8) (acc k : Nat) (c : UInt8), l[k]? = some c → (c.toNat < 48 ∨ 57 < c.toNat) → Lib.decFrom acc l = none
  | [], _, _, _, h, _ => by simp at h
  | b :: r, acc, 0, c, h, hx => by
    simp at h
    subst h
    simp [Lib.decFrom, Lib.digitVal, show ¬ (48 ≤ b.toNat ∧ b.toNat ≤ 57) from by omega]
  | b :: r, acc, k + 1, c, h, hx => by
    simp only [Lib.decFrom]
    cases Lib.digitVal b with
    | none => rfl
    | some d => exact dec_bad r _ k c (by simpa using h) hx

set_option maxRecDepth 100000 in
set_option maxHeartbeats 4000000 in
theorem whole_any (l : List UInt8) (m : Nat) (hm : m ≤ 7) (hl : l.length ≤ 9223372036854775807) (w : World) :
    Calls Tryz.prog 20 #[.string ⟨l.toArray⟩, .int .i64 m] w fun e w' => e = .returned (.int .i64 (wholeL l m)) ∧ w' = w := by
  rcases Nat.eq_zero_or_pos l.length with h0 | h0
  · have : l = [] := List.length_eq_zero_iff.1 h0
    subst this
    go_enter Tryz.func20, Tryz.ntmps20
    go_wp2_with fail
    go_ret
    exact ⟨rfl, rfl⟩
  obtain ⟨q, hq0⟩ := get_lt h0
  have hem : l.isEmpty = false := by cases l <;> simp at h0 ⊢
  have hne : ¬ l = [] := by rintro rfl; simp at h0
  have hq1 : ∀ h, (⟨l.toArray⟩ : ByteArray)[0]'h = q := fun h => str_at hq0 h
  have hhd : l.head? = some q := by cases l <;> simp at hq0 ⊢; exact hq0
  by_cases hlong : m < l.length
  · have HV : Hid (wholeL l m = -1) := by show wholeL l m = -1; rw [wholeL, if_neg hne, if_pos hlong]
    clear hq1 hhd hne
    generalize hN : l.length = n at *
    rcases Nat.lt_or_ge 1 n with h1 | h1
    all_goals
      go_enter Tryz.func20, Tryz.ntmps20
      go_wp2_with fail
      go_ret
      exact ⟨ret_int HV.out.symm, rfl⟩
  by_cases hz : q.toNat = 48 ∧ 1 < l.length
  · have HV : Hid (wholeL l m = -1) := by
      show wholeL l m = -1
      rw [wholeL, if_neg hne, if_neg hlong, if_pos ⟨by rw [hhd]; exact congrArg some (UInt8.toNat_inj.1 hz.1), hz.2⟩]
    have hz2 := hz.2
    have dq : ((q.toNat : Int) == 48) = true := by simp; omega
    clear hhd hne hz
    go_enter Tryz.func20, Tryz.ntmps20
    go_wp2_with fail
    go_ret
    exact ⟨ret_int HV.out.symm, rfl⟩
  have HV : Hid (wholeL l m = match Lib.decFrom 0 l with | some n => (n : Int) | none => -1) := by
    show wholeL l m = _
    have h3 : ¬ (l.head? = some 48 ∧ 1 < l.length) := by
      rintro ⟨h1, h2⟩
      rw [hhd] at h1
      exact hz ⟨by rw [Option.some.inj h1]; rfl, h2⟩
    rw [wholeL, if_neg hne, if_neg hlong, if_neg h3]
    rfl
  have HL7 : Hid (l.length ≤ 7) := by show _ ≤ _; omega
  clear hhd hne
  by_cases hq : q.toNat = 48
  case' pos =>
    have dq : ((q.toNat : Int) == 48) = true := by simp; omega
    have hl1 : ¬ 1 < l.length := by omega
  case' neg =>
    have dq : ((q.toNat : Int) == 48) = false := by simp; omega
  all_goals
    clear hz hq
    go_enter Tryz.func20, Tryz.ntmps20
    go_wp2_with fail
    clear dq hq1 hem
    try clear hl1
    go_loopw [5, 6] (fun v i wr => ∃ k n : Nat, k ≤ l.length ∧ v = .int .i64 n ∧ i = .int .i64 k ∧ Hid (Lib.decFrom 0 (l.take k) = some n) ∧ wr = w) (fun _ i _ => l.length - (intOf i).toNat)
    case atStart => exact ⟨0, 0, by omega, rfl, rfl, by show _ = _; simp [Lib.decFrom], rfl⟩
    case round =>
      obtain ⟨k, n, hk, rfl, rfl, HD, rfl⟩ := hrel
      by_cases hlt : k < l.length
      · obtain ⟨c, hc⟩ := get_lt hlt
        have hck : ∀ h, (⟨l.toArray⟩ : ByteArray)[k]'h = c := fun h => str_at hc h
        by_cases hx : c.toNat < 48 ∨ 57 < c.toNat
        · have HN : Hid (wholeL l m = -1) := by
            show _ = _
            rw [HV.out, dec_bad l 0 k c hc hx]
          rcases hx with hx | hx
          · have d1 : decide ((c.toNat : Int) < 48) = true := by simp; omega
            clear hc hx
            go_wp2_with fail
            go_ret
            exact ⟨ret_int HN.out.symm, rfl⟩
          · have d1 : decide ((c.toNat : Int) < 48) = false := by simp; omega
            have d2 : decide (57 < (c.toNat : Int)) = true := by simp; omega
            clear hc hx
            go_wp2_with fail
            go_ret
            exact ⟨ret_int HN.out.symm, rfl⟩
        · have d1 : decide ((c.toNat : Int) < 48) = false := by simp; omega
          have d2 : decide (57 < (c.toNat : Int)) = false := by simp; omega
          have HS := Lib.hid (dec_step HD.out hc (by omega) (by omega))
          have hb := decFrom_lt _ _ _ HS.out
          have hp := ten_pow_le (k := (l.take (k + 1)).length) (by have := HL7.out; simp only [List.length_take]; omega)
          have x1 : IntKind.i64.wrap ((n : Int) * 10) = (n : Int) * 10 := IntWalk.i64_in _ (by omega)
          have x2 : IntKind.i64.wrap ((n : Int) * 10 + (c.toNat : Int)) = (n : Int) * 10 + (c.toNat : Int) := IntWalk.i64_in _ (by omega)
          have x3 : IntKind.i64.wrap ((n : Int) * 10 + (c.toNat : Int) - 48) = (n : Int) * 10 + (c.toNat : Int) - 48 := IntWalk.i64_in _ (by omega)
          have x4 : IntKind.i64.wrap (c.toNat : Int) = (c.toNat : Int) := IntWalk.i64_in _ (by omega)
          have x5 : IntKind.i64.wrap ((k : Int) + 1) = (k : Int) + 1 := IntWalk.i64_in _ (by omega)
          have HX : Hid (48 ≤ c.toNat) := by show _ ≤ _; omega
          clear hc hx hb hp
          go_wp2_with fail
          exact ⟨⟨k + 1, n * 10 + (c.toNat - 48), by omega, by have := HX.out; go_num, by go_num, HS, trivial⟩, by simp [intOf]; omega⟩
      · have hkl : k = l.length := by omega
        have HN : Hid (wholeL l m = n) := by
          show _ = _
          have := HD.out
          rw [hkl, List.take_length] at this
          rw [HV.out, this]
        clear hkl
        go_wp2_with fail
        go_ret
        exact ⟨ret_int HN.out.symm, rfl⟩
end Go.Proofs.YtfaihilehdjfjaaGreatDoor
