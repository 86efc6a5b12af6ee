/- Contracts: id.digits, id.Parse. -/
import Derived.Test.YtfaihilehdjfjaaGreatDoorCut
import Derived.Test.YtfaihilehdjfjaaGreatDoorWhole
import Derived.Test.YtfaihilehdjfjaaGreatDoorRefPars
import Derived.Test.YtfaihilehdjfjaaGreatDoorShelfI
import Derived.Lib.SlTrimSet
import Derived.Lib.SmallJoins
namespace Go.Proofs.YtfaihilehdjfjaaGreatDoor
open Go.ChangeShapes Go.WideShapes Go.ChangeAt Go.RowKit

def decS : List UInt8 := [48, 49, 50, 51, 52, 53, 54, 55, 56, 57]
theorem decS_iff (c : UInt8) : decS.contains c = decide (48 ≤ c.toNat ∧ c.toNat ≤ 57) := by
  have h : ∀ c : Fin 256, decS.contains (UInt8.ofNat c.val) = decide (48 ≤ c.val ∧ c.val ≤ 57) := by decide +kernel
  have := h ⟨c.toNat, c.toNat_lt⟩
  simpa using this
theorem dec_all : ∀ (l : List UInt8) (acc : Nat), (∀ c ∈ l, 48 ≤ c.toNat ∧ c.toNat ≤ 57) → ∃ n, Lib.decFrom acc l = some n
  | [], acc, _ => ⟨acc, rfl⟩
  | b :: r, acc, h => by
    have hb := h b (by simp)
    obtain ⟨n, hn⟩ := dec_all r (acc * 10 + (b.toNat - 48)) fun c hc => h c (by simp [hc])
    exact ⟨n, by simp only [Lib.decFrom, Lib.digitVal, if_pos hb]; exact hn⟩
theorem dec_none {l : List UInt8} {c : UInt8} (hc : c ∈ l) (h : ¬ (48 ≤ c.toNat ∧ c.toNat ≤ 57)) : Lib.decFrom 0 l = none := by
  obtain ⟨k, hk⟩ := List.getElem?_of_mem hc
  exact dec_bad l 0 k c hk (by omega)
theorem dw_head {α : Type} {p : α → Bool} : ∀ {l : List α} {x : α} {r : List α}, l.dropWhile p = x :: r → p x = false
  | [], _, _, h => by simp at h
  | a :: l, x, r, h => by
    rw [List.dropWhile_cons] at h
    split at h
    · exact dw_head h
    · rename_i hn
      rw [List.cons.injEq] at h
      rw [← h.1]
      simpa using hn
theorem dw_nil {α : Type} {p : α → Bool} : ∀ {l : List α}, l.dropWhile p = [] ↔ ∀ x ∈ l, p x = true
  | [] => by simp
  | a :: l => by
    rw [List.dropWhile_cons]
    split
    · rename_i h
      rw [dw_nil]
      simp [h]
    · rename_i h
      simp [h]
theorem trim_nil {l : List UInt8} : Lib.trimS l decS = [] ↔ ∀ c ∈ l, 48 ≤ c.toNat ∧ c.toNat ≤ 57 := by
  unfold Lib.trimS Lib.trimLeftS Lib.trimRightS
  rw [dw_nil]
  constructor
  · intro h c hc
    have hall : ∀ c ∈ l.reverse, decS.contains c = true := by
      cases hd : l.reverse.dropWhile (fun x => decS.contains x) with
      | nil => exact fun c hc => dw_nil.1 hd c hc
      | cons x r =>
        have h1 := dw_head hd
        have h2 := h x (by rw [hd]; simp)
        rw [h1] at h2
        cases h2
    have := hall c (by simpa using hc)
    rw [decS_iff] at this
    exact of_decide_eq_true this
  · intro h c hc
    rw [decS_iff]
    refine decide_eq_true (h c ?_)
    rw [List.mem_reverse] at hc
    have := (List.dropWhile_sublist (fun x => decS.contains x) (l := l.reverse)).subset hc
    simpa using this
theorem digL_atoi {l : List UInt8} (h0 : l ≠ []) (h : ∀ c ∈ l, 48 ≤ c.toNat ∧ c.toNat ≤ 57) (h48 : l.head? ≠ some 48) (h7 : l.length ≤ 7) : Lib.atoi l = some (digL l) := by
  obtain ⟨n, hn⟩ := dec_all l 0 h
  have hd : digL l = n := by
    rw [digL, if_neg h0, if_neg h48, if_neg (by omega), hn]
  rw [hd]
  match l, h0, h with
  | b :: r, _, h =>
    have hb := h b (by simp)
    have h1 : (b == 45) = false := by simp; rintro rfl; simp at hb
    have h2 : (b == 43) = false := by simp; rintro rfl; simp at hb
    simp [Lib.atoi, h1, h2, Lib.decNat, hn]
theorem trimD_any (l : List UInt8) (hl : l.length ≤ 9223372036854775807) (w : World) :
    Calls Tryz.prog 32 #[.string ⟨l.toArray⟩, .string ⟨#[48, 49, 50, 51, 52, 53, 54, 55, 56, 57]⟩] w fun e w' => e = .returned (.string ⟨(Lib.trimS l decS).toArray⟩) ∧ Below w.heap.size w w' :=
  Any.strings_Trim_laid Tryz.trimRef (by kernel_rfl) ⟨l.toArray⟩ ⟨#[48, 49, 50, 51, 52, 53, 54, 55, 56, 57]⟩ w (by simpa [ByteArray.size] using hl) (by decide) (Go.Proofs.ascii_of_all (by decide))
theorem atoiD_any (l : List UInt8) (n : Int) (hl : l.length ≤ 7) (h : Lib.atoi l = some n) (w : World) :
    Calls Tryz.prog 33 #[.string ⟨l.toArray⟩] w fun e w' => e = .returned (.tuple #[.int .i64 n, .nilIface]) ∧ Below w.heap.size w w' := by
  refine (Any.strconv_Atoi Tryz.atoiRef ⟨l.toArray⟩ n (by simp [ByteArray.size]; omega) h w).mono ?_
  rintro e w' ⟨rfl, t, rfl⟩
  exact ⟨rfl, Go.Joins.below_bytesWorld _ _ _ _ (Nat.le_refl _)⟩
set_option maxRecDepth 100000 in
set_option maxHeartbeats 4000000 in
theorem digits'_any (l : List UInt8) (hl : l.length ≤ 9223372036854775807) (w : World) :
    Calls Tryz.prog 22 #[.string ⟨l.toArray⟩] w fun e w' => e = .returned (.int .i64 (digL l)) ∧ Below w.heap.size w w' := by
  rcases Nat.eq_zero_or_pos l.length with h0 | h0
  · have : l = [] := List.length_eq_zero_iff.1 h0
    subst this
    go_enter Tryz.func22, Tryz.ntmps22
    go_wp2_with fail
    go_ret
    exact ⟨rfl, Below.refl _ _⟩
  obtain ⟨q, hq0⟩ := get_lt h0
  have hem : l.isEmpty = false := by cases l <;> simp at h0 ⊢
  have hne : ¬ l = [] := by rintro rfl; simp at h0
  have hq1 : ∀ h, (⟨l.toArray⟩ : ByteArray)[0]'h = q := fun h => str_at hq0 h
  have hhd : l.head? = some q := by cases l <;> simp at hq0 ⊢; exact hq0
  by_cases hq : q.toNat = 48
  · have dq : ((q.toNat : Int) == 48) = true := by simp; omega
    have HV : Hid (digL l = 0) := by show _ = _; rw [digL, if_neg hne, if_pos (by rw [hhd]; exact congrArg some (UInt8.toNat_inj.1 hq))]
    clear hne hhd hq
    go_enter Tryz.func22, Tryz.ntmps22
    go_wp2_with fail
    go_ret
    exact ⟨ret_int HV.out.symm, Below.refl _ _⟩
  have dq : ((q.toNat : Int) == 48) = false := by simp; omega
  have h48 : l.head? ≠ some 48 := by rw [hhd]; intro h; exact hq (by rw [Option.some.inj h]; rfl)
  by_cases hlong : 7 < l.length
  · have HV : Hid (digL l = 0) := by show _ = _; rw [digL, if_neg hne, if_neg h48, if_pos hlong]
    clear hne hhd hq h48
    go_enter Tryz.func22, Tryz.ntmps22
    go_wp2_with fail
    go_ret
    exact ⟨ret_int HV.out.symm, Below.refl _ _⟩
  have TR := trimD_any l hl w
  have d7 : decide (7 < (l.length : Int)) = false := decide_eq_false (by omega)
  by_cases hd : Lib.trimS l decS = []
  · have HA := Lib.hid (digL_atoi hne (trim_nil.1 hd) h48 (by omega))
    rw [hd] at TR
    have AT := fun w => atoiD_any l (digL l) (by omega) HA.out w
    generalize digL l = n at *
    clear hne hhd hq h48 HA hd
    go_enter Tryz.func22, Tryz.ntmps22
    go_wp2_with fail
    go_at_call 32
    refine TR.mono ?_
    rintro e w1 ⟨rfl, hb1⟩
    have HB1 := Lib.hid hb1
    clear hb1 TR
    go_wp2_with fail
    go_at_call 33
    refine (AT _).mono ?_
    rintro e w2 ⟨rfl, hb2⟩
    have HB2 := Lib.hid (HB1.out.trans (hb2.mono HB1.out.size))
    clear hb2 AT
    go_wp2_with fail
    go_ret
    exact ⟨rfl, HB2.out⟩
  · have HV : Hid (digL l = 0) := by
      show _ = _
      have : ∃ c ∈ l, ¬ (48 ≤ c.toNat ∧ c.toNat ≤ 57) := by
        rw [trim_nil] at hd
        simpa using hd
      obtain ⟨c, hc, hx⟩ := this
      rw [digL, if_neg hne, if_neg h48, if_neg hlong, dec_none hc hx]
    have hte : (Lib.trimS l decS).isEmpty = false := by cases h : Lib.trimS l decS <;> simp_all
    clear hne hhd hq h48
    generalize Lib.trimS l decS = t at *
    go_enter Tryz.func22, Tryz.ntmps22
    go_wp2_with fail
    go_at_call 32
    refine TR.mono ?_
    rintro e w1 ⟨rfl, hb1⟩
    have HB1 := Lib.hid hb1
    clear hb1 TR
    go_wp2_with fail
    go_ret
    exact ⟨ret_int HV.out.symm, HB1.out⟩
end Go.Proofs.YtfaihilehdjfjaaGreatDoor
