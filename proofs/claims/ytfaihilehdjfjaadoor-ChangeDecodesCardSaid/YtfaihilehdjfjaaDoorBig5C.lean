/- Contracts: package commonbookbig: length, IsUint64, Uint64. -/
import Derived.Test.YtfaihilehdjfjaaDoorBig4C
namespace Go.Proofs.YtfaihilehdjfjaaDoor
open Go.ChangeShapes Go.WideShapes Go.ChangeAt Go.RowKit

/-- how many binary digits a word has -/
def bitsW (n : Nat) : Nat := if h : n = 0 then 0 else bitsW (n / 2) + 1
termination_by n
decreasing_by omega
theorem bitsW_zero : bitsW 0 = 0 := by rw [bitsW]; simp
theorem bitsW_pos {n : Nat} (h : n ≠ 0) : bitsW n = bitsW (n / 2) + 1 := by rw [bitsW]; simp [h]
theorem bitsW_le {n k : Nat} : bitsW n ≤ k ↔ n < 2 ^ k := by
  induction k generalizing n with
  | zero =>
    constructor
    · intro h
      by_cases h0 : n = 0
      · subst h0; decide
      · rw [bitsW_pos h0] at h; omega
    · intro h
      have : n = 0 := by simpa using h
      subst this; rw [bitsW_zero]; omega
  | succ k ih =>
    by_cases h0 : n = 0
    · subst h0; rw [bitsW_zero]; constructor
      · intro _; exact Nat.two_pow_pos _
      · intro _; omega
    · rw [bitsW_pos h0, Nat.pow_succ]
      have := ih (n := n / 2)
      constructor
      · intro h; have := this.1 (by omega); omega
      · intro h; have := this.2 (by omega); omega

set_option maxRecDepth 20000 in
set_option maxHeartbeats 2000000 in
theorem length_any (l : List Nat) (hok : Hid (okW l)) (D : Nat → Prop) (A : Option Addr) (n c : Nat) (hn : l.length = n) (hl : n ≤ 1000000) (w : World) (hr : Reads D w 1 A n (u32C l)) :
    Calls Tryd.prog 163 #[.slice A n c] w fun e w' => (∃ k : Nat, e = .returned (.int .i64 k) ∧ (l = [] → k = 0) ∧ ∀ x, l.getLast? = some x → k = (n - 1) * 32 + bitsW x) ∧ w = w' := by
  subst hn
  go_enter Tryd.func163, Tryd.ntmps163
  rcases Nat.eq_zero_or_pos l.length with h0 | h0
  · have : l = [] := List.length_eq_zero_iff.1 h0
    subst this
    go_wp2_with fail
    go_ret
    exact ⟨rfl, rfl⟩
  · obtain ⟨j, hj⟩ : ∃ j, l.length = j + 1 := ⟨l.length - 1, by omega⟩
    obtain ⟨x, hx⟩ := get_lt (l := l) (k := j) (by omega)
    obtain ⟨b, off, hA, _, hcell⟩ := hr.at_ (by omega) (by omega)
    have hcj := hcell j _ (u32_at hx)
    have hx4 : x < 4294967296 := ok_get hok.out hx
    have hlast : l.getLast? = some x := by rw [List.getLast?_eq_getElem?, hj]; exact hx
    have HL := Lib.hid hlast
    have hn1 : ((l.length : Int) == 0) = false := by rw [beq_eq_false_iff_ne]; omega
    have hne : l ≠ [] := by rintro rfl; simp at h0
    have HJ := Lib.hid hj
    have hj1 : (l.length : Int) - 1 = (j : Int) := by omega
    have hjl : j < l.length := by omega
    subst hA
    clear hcell hx hlast hr hj h0
    go_wp2_with fail
    go_loopw [3, 4] (fun s3 s4 wr => ∃ k y : Nat, s3 = .int .i64 k ∧ s4 = .int .u32 y ∧ y < 4294967296 ∧ Hid (k + bitsW y = bitsW x) ∧ k ≤ 32 ∧ w = wr) (fun _ s4 _ => (intOf s4).toNat)
    case atStart => exact ⟨0, x, rfl, rfl, hx4, by show _ = _; omega, by omega, rfl⟩
    obtain ⟨k, y, rfl, rfl, hy4, HY, hk, rfl⟩ := hrel
    by_cases hy0 : y = 0
    · subst hy0
      have HK : Hid (k = bitsW x) := by have := HY.out; rw [bitsW_zero] at this; exact this
      go_wp2_with fail
      go_ret
      exact ⟨⟨j * 32 + k, by first | rfl | (congr 2; simp), fun e => absurd e hne, fun x' hx' => by
        rw [HL.out] at hx'; injection hx' with e; rw [← e, HK.out, HJ.out]; rfl⟩, rfl⟩
    · obtain ⟨z, hz⟩ : ∃ z, z = y / 2 := ⟨_, rfl⟩
      have hz2 : (y : Int) / 2 = (z : Int) := by omega
      have hyz : ((y : Int) != 0) = true := by simp; omega
      have HY2 : Hid (k + 1 + bitsW z = bitsW x) := by have := HY.out; rw [bitsW_pos hy0, ← hz] at this; show _ = _; omega
      have hk1 : k + 1 ≤ 32 := by
        have h1 : bitsW x ≤ 32 := bitsW_le.2 hx4
        have := HY2.out; omega
      have hzy : z < y := by omega
      clear hz
      go_wp2_with fail
      exact ⟨⟨k + 1, z, by go_num, rfl, by omega, HY2, hk1, by trivial⟩, by simp [intOf]; omega⟩

theorem wd_last_ne (n x : Nat) (h : (wd n).getLast? = some x) : x ≠ 0 := by
  induction n using Nat.strongRecOn with
  | _ n ih =>
    by_cases h0 : n = 0
    · subst h0; rw [wd_zero] at h; simp at h
    · rw [wd_pos h0] at h
      by_cases h1 : n / 4294967296 = 0
      · rw [h1, wd_zero] at h
        simp at h
        omega
      · rw [wd_pos h1] at h
        rw [List.getLast?_cons_cons] at h
        exact ih (n / 4294967296) (by omega) (by rw [wd_pos h1]; exact h)
theorem wd_two (n : Nat) : (wd n).length ≤ 2 ↔ n < 18446744073709551616 := by
  constructor
  · intro h
    have h1 := val_lt (ok_wd n)
    rw [val_wd] at h1
    have : 4294967296 ^ (wd n).length ≤ 4294967296 ^ 2 := Nat.pow_le_pow_right (by omega) h
    omega
  · intro h
    exact wd_len (by omega)
theorem len_64 (n k : Nat) (h0 : wd n = [] → k = 0) (h1 : ∀ x, (wd n).getLast? = some x → k = ((wd n).length - 1) * 32 + bitsW x) : decide ((k : Int) ≤ 64) = decide (n < 18446744073709551616) := by
  rw [decide_eq_decide, ← wd_two]
  cases hl : (wd n).getLast? with
  | none =>
    have e : wd n = [] := List.getLast?_eq_none_iff.1 hl
    rw [h0 e, e]; simp
  | some x =>
    have e := h1 x hl
    have hx0 := wd_last_ne n x hl
    have hx4 : x < 4294967296 := ok_wd n x (List.mem_of_getLast? hl)
    have hb : bitsW x ≤ 32 := bitsW_le.2 hx4
    have hb1 : 1 ≤ bitsW x := by rw [bitsW_pos hx0]; omega
    constructor
    · intro h; omega
    · intro h; omega

set_option maxRecDepth 20000 in
set_option maxHeartbeats 2000000 in
theorem isU64_any (x n : Nat) (D : Nat → Prop) (w : World) (hx : IsInt w x n D) (hn : (wd n).length ≤ 1000000) :
    Calls Tryd.prog 146 #[.pointer (some ⟨x, 0, none⟩)] w fun e w' => e = .returned (.bool (decide (n < 18446744073709551616))) ∧ w = w' := by
  obtain ⟨A1, c1, hb1, hl1, hr1⟩ := hx
  have x0 : w.cell? ⟨x, 0, none⟩ = some (.bool false) := hb1.cell 0
  have x1 : w.cell? ⟨x, 1, none⟩ = some (.slice A1 (wd n).length c1) := hb1.cell 1
  have HC := Lib.hid (length_any (wd n) (Lib.hid (ok_wd n)) D A1 (wd n).length c1 rfl hn w hr1)
  clear hr1 hb1
  go_enter Tryd.func146, Tryd.ntmps146
  go_wp2_with fail
  refine HC.out.mono ?_
  rintro e w1 ⟨⟨k, rfl, h0, h1⟩, rfl⟩
  have hk := len_64 n k h0 h1
  clear h0 h1
  go_wp2_with fail
  go_ret
  exact ⟨rfl, rfl⟩

theorem or_words (a b : Nat) (ha : a < 4294967296) (hb : b < 4294967296) : bits .or .u64 (a : Int) (((b * 4294967296 : Nat)) : Int) = ((a + 4294967296 * b : Nat) : Int) := by
  rw [u64_or_nat _ _ (by omega) (by omega)]
  have h := Nat.two_pow_add_eq_or_of_lt (i := 32) (b := a) (by omega) b
  rw [Nat.or_comm, Nat.mul_comm b]
  rw [show (4294967296 : Nat) = 2 ^ 32 from rfl, ← h]
  congr 1
  omega

set_option maxRecDepth 20000 in
set_option maxHeartbeats 2000000 in
theorem u64_any (x n : Nat) (D : Nat → Prop) (w : World) (hx : IsInt w x n D) (hn : n < 18446744073709551616) :
    Calls Tryd.prog 147 #[.pointer (some ⟨x, 0, none⟩)] w fun e w' => e = .returned (.int .u64 n) ∧ w = w' := by
  obtain ⟨A1, c1, hb1, hl1, hr1⟩ := hx
  have x1 : w.cell? ⟨x, 1, none⟩ = some (.slice A1 (wd n).length c1) := hb1.cell 1
  have hlen := (wd_two n).2 hn
  have hok := ok_wd n
  have hv := val_wd n
  generalize wd n = l at x1 hlen hok hv hr1
  match l, hlen with
  | [], _ =>
    have hn0 : n = 0 := hv.symm
    subst hn0
    clear hr1 hb1 hv hn hok
    go_enter Tryd.func147, Tryd.ntmps147
    go_wp2_with fail
    go_ret
    exact ⟨rfl, rfl⟩
  | [a], _ =>
    obtain ⟨b, off, hA, _, hcell⟩ := hr1.at_ (by simp) (by omega)
    have hc0 : w.cell? ⟨b, off, none⟩ = some (.int .u32 a) := hcell 0 _ rfl
    have hn0 : n = a := by simp [valW] at hv; omega
    have ha : a < 4294967296 := hok a (by simp)
    subst hn0 hA
    clear hr1 hb1 hv hn hok hcell
    go_enter Tryd.func147, Tryd.ntmps147
    go_wp2_with fail
    go_ret
    exact ⟨rfl, rfl⟩
  | [a, c], _ =>
    obtain ⟨b, off, hA, _, hcell⟩ := hr1.at_ (by simp) (by omega)
    have hc0 : w.cell? ⟨b, off, none⟩ = some (.int .u32 a) := hcell 0 _ rfl
    have hc1 : w.cell? ⟨b, off + 1, none⟩ = some (.int .u32 c) := hcell 1 _ rfl
    have hn0 : a + 4294967296 * c = n := by simp [valW] at hv; omega
    have ha : a < 4294967296 := hok a (by simp)
    have hc : c < 4294967296 := hok c (by simp)
    have hor := or_words a c ha hc
    rw [hn0] at hor
    obtain ⟨q, hq⟩ : ∃ q, q = c * 4294967296 := ⟨_, rfl⟩
    rw [← hq] at hor
    have hq1 : (c : Int) * 4294967296 = (q : Int) := by omega
    have hq2 : IntKind.u64.wrap (q : Int) = (q : Int) := u64_keep (by omega)
    have hq4 : q < 18446744073709551616 := by omega
    subst hA
    clear hr1 hb1 hv hok hcell hn0 hq
    go_enter Tryd.func147, Tryd.ntmps147
    go_wp2_with fail
    go_ret
    exact ⟨rfl, rfl⟩
  | a :: b :: c :: r, h => simp at h
end Go.Proofs.YtfaihilehdjfjaaDoor
