/- The law TreeWork, walked. -/
import Derived.Test.YtgkpeeilmknmfaaTree14
namespace Go.Proofs.Ytgkpeeilmknmfaa
open Go.ChangeShapes Go.WideShapes Go.ChangeAt Go.RowKit

theorem T.ht_le {t : T} {d : Nat} (h : t.avl) (hc : t.cnt < 2 ^ d) : t.ht ≤ 2 * d := T.avl_high h hc
theorem shr_pos {i d : Nat} (h : 0 < ((i : Int) + 1) / 2 ^ d) : 2 ^ d ≤ i + 1 := by
  have e : ((i : Int) + 1) / 2 ^ d = (((i + 1) / 2 ^ d : Nat) : Int) := by simp
  rw [e] at h
  have h2 : 0 < (i + 1) / 2 ^ d := by omega
  exact (Nat.div_pos_iff.mp h2).2
theorem shr_zero {i d : Nat} (h : ((i : Int) + 1) / 2 ^ d ≤ 0) : i + 1 < 2 ^ d := by
  have e : ((i : Int) + 1) / 2 ^ d = (((i + 1) / 2 ^ d : Nat) : Int) := by simp
  rw [e] at h
  have h2 : (i + 1) / 2 ^ d = 0 := Nat.le_zero.mp (Int.ofNat_le.mp h)
  rcases Nat.div_eq_zero_iff.mp h2 with h3 | h3
  · exact absurd h3 (Nat.ne_of_gt (Nat.two_pow_pos d))
  · exact h3
theorem pow_low {i d : Nat} (h : 2 ^ d ≤ i + 1) (hi : i < 2000) : d ≤ 10 := by
  rcases Nat.lt_or_ge 10 d with h1 | h1
  · have := Nat.pow_le_pow_right (n := 2) (by omega) h1
    omega
  · exact h1
theorem pick_nat (k : Int) (n : Nat) (hn : 0 < n) : ∃ p : Nat, (k.tmod n + n) % n = p ∧ p < n := by
  have h1 := Int.emod_nonneg (k.tmod n + n) (b := n) (by omega)
  have h2 := Int.emod_lt_of_pos (k.tmod n + n) (b := n) (by omega)
  exact ⟨((k.tmod n + n) % n).toNat, by omega, by omega⟩
set_option maxHeartbeats 4000000 in
set_option maxRecDepth 20000 in
theorem treeWork_walk (n by_ at2 : Int) (hby : -9223372036854775808 ≤ by_ ∧ by_ ≤ 9223372036854775807) (hat : -9223372036854775808 ≤ at2 ∧ at2 ≤ 9223372036854775807) (w : World) :
    Calls Try.prog 4 #[.int .i64 n, .int .i64 by_, .int .i64 at2] w fun e w' => e = .returned (.bool true) ∧ Below w.heap.size w w' := by
  by_cases h1 : n < 0
  · have h1' : decide (n < 0) = true := decide_eq_true h1
    clear hby hat
    go_enter Try.func4, Try.ntmps4
    go_wp2_with fail
    go_ret
    exact ⟨rfl, Below.refl _ _⟩
  by_cases h2 : 2000 < n
  · have h1' : decide (n < 0) = false := decide_eq_false h1
    have h2' : decide (2000 < n) = true := decide_eq_true h2
    clear hby hat h2
    go_enter Try.func4, Try.ntmps4
    go_wp2_with fail
    go_ret
    exact ⟨rfl, Below.refl _ _⟩
  obtain ⟨m, rfl⟩ := Int.eq_ofNat_of_zero_le (show 0 ≤ n by omega)
  have h1' : decide ((m : Int) < 0) = false := decide_eq_false (by omega)
  have h2' : decide (2000 < (m : Int)) = false := decide_eq_false (by omega)
  have hm : m ≤ 2000 := by omega
  have HB := Lib.hid hby
  have HA := Lib.hid hat
  clear h1 h2 hby hat
  go_enter Try.func4, Try.ntmps4
  go_wp2_with fail
  go_at_call 9
  refine (new_any w).mono ?_
  rintro e w1 ⟨rfl, hR1, hC1⟩
  have W1 : Hid (WorkI w w1 w.heap.size .nil 0) := ⟨hR1, Nat.le_refl _, by simp [T.ads], (hC1.below (Nat.le_refl _) fun _ e => e.elim)⟩
  clear hR1 hC1 h1' h2'
  go_wp2_with fail
  go_at_call 10
  refine (insW W1.out (by omega) 7 0 (by simp [T.cnt]) (by simp [T.cnt]) 3 (by omega)).mono ?_
  rintro e w2 ⟨rfl, t2, k2, hc2, hw2, hI2, hk2⟩
  have W2 : Hid (WorkI w w2 w.heap.size t2 k2) := hI2
  have hw2' : t2.wid = 3 := by rw [hw2]; rfl
  clear hI2 hk2 hc2 hw2
  go_wp2_with fail
  go_at_call 11
  refine (rowWide_any _ t2 k2 w2 W2.out.row).mono ?_
  rintro e w3 ⟨rfl, e1⟩
  rw [e1, hw2']
  clear e1 w3 hw2'
  go_wp2_with fail
  go_at_call 9
  refine (new_any w2).mono ?_
  rintro e w3 ⟨rfl, hR3, hC3⟩
  have W3 : Hid (WorkI w w3 w2.heap.size .nil 0) := ⟨hR3, W2.out.below.size, by simp [T.ads], W2.out.below.trans (hC3.below W2.out.below.size fun _ e => e.elim)⟩
  clear hR3 hC3
  generalize w2.heap.size = b at *
  generalize w.heap.size = b0 at W2 ⊢
  clear W1 W2
  go_wp2_with fail
  go_loopw [11, 12] (fun s11 s12 wr => ∃ (d i : Nat) (t : T), s11 = .int .i64 d ∧ s12 = .int .i64 i ∧ d ≤ 11 ∧ i ≤ m ∧ Hid (t.cnt = i ∧ t.cnt < 2 ^ d ∧ WorkI w wr b t 0)) (fun _ s12 _ => m - (intOf s12).toNat)
  case atStart => exact ⟨0, 0, .nil, rfl, rfl, by omega, by omega, ⟨rfl, by simp [T.cnt], W3.out⟩⟩
  case round =>
    obtain ⟨d, i, t, rfl, rfl, hd, hi, HI⟩ := hrel
    clear W3
    by_cases hlt : i < m
    · go_wp2_with fail
      go_loop [11] (fun s11 => ∃ d' : Nat, s11 = .int .i64 d' ∧ d ≤ d' ∧ d' ≤ 11) (fun s11 => 64 - (intOf s11).toNat)
      case atStart => exact ⟨d, rfl, Nat.le_refl _, hd⟩
      case round =>
        obtain ⟨d', rfl, hd1, hd2⟩ := hrel
        go_wp2_with fail
        · have hs := shr_pos ‹0 < ((i : Int) + 1) / 2 ^ d'›
          have hd3 := pow_low hs (by omega)
          refine ⟨⟨d' + 1, by go_num, by omega, by omega⟩, by simp [intOf]; omega⟩
        · have hs := shr_zero ‹((i : Int) + 1) / 2 ^ d' ≤ 0›
          have hdd : t.ht ≤ 2 * d := T.ht_le HI.out.2.2.row.avl HI.out.2.1
          go_at_call 12
          refine (pick_any (wrap64 ((i : Int) * by_.tmod 1000)) ((i : Int) + 1) wr (by unfold wrap64; omega) (by omega)).mono ?_
          rintro e w4 ⟨rfl, e1⟩
          rw [e1]
          clear e1 w4
          obtain ⟨p, hp, hpi⟩ := pick_nat (wrap64 ((i : Int) * by_.tmod 1000)) (i + 1) (by omega)
          rw [show ((i + 1 : Nat) : Int) = (i : Int) + 1 from by omega] at hp
          rw [hp]
          clear hp
          go_wp2_with fail
          go_at_call 10
          refine (insW HI.out.2.2 (by omega) i p (by have := HI.out.1; omega) (by have := HI.out.1; omega) 1 (by omega)).mono ?_
          rintro e w5 ⟨rfl, t5, k5, hc5, -, hI5, hk5⟩
          have W5 : Hid (WorkI w w5 b t5 k5) := hI5
          have H5 : Hid (t5.cnt = i + 1 ∧ i + 1 < 2 ^ d') := ⟨by rw [hc5, HI.out.1], hs⟩
          have hk5' : (k5 : Int) ≤ 40 + 30 * d' := by omega
          clear hI5 hc5 hs hk5 hdd
          go_wp2_with fail
          go_at_call 13
          refine (workW W5.out).mono ?_
          rintro e w6 ⟨rfl, hI6⟩
          have W6 := Lib.hid hI6
          clear hI6
          go_wp2_with fail
          refine ⟨⟨d', i + 1, t5, rfl, by go_num, by omega, by omega, ⟨H5.out.1, by rw [H5.out.1]; exact H5.out.2, W6.out⟩⟩, by simp [intOf]; omega⟩
    · have him : i = m := by omega
      subst him
      have hdd : t.ht ≤ 2 * d := T.ht_le HI.out.2.2.row.avl HI.out.2.1
      go_wp2_with fail
      go_at_call 12
      refine (pick_any at2 ((i : Int) + 1) wr HA.out (by omega)).mono ?_
      rintro e w4 ⟨rfl, e1⟩
      rw [e1]
      clear e1 w4
      obtain ⟨p, hp, hpi⟩ := pick_nat at2 (i + 1) (by omega)
      rw [show ((i + 1 : Nat) : Int) = (i : Int) + 1 from by omega] at hp
      rw [hp]
      clear hp
      go_wp2_with fail
      go_at_call 14
      refine (aheadW HI.out.2.2 (by omega) p (by have := HI.out.1; omega)).mono ?_
      rintro e w5 ⟨x, rfl, ka, hIa, hka⟩
      have WA := Lib.hid hIa
      clear hIa
      go_wp2_with fail
      go_at_call 13
      refine (workW WA.out).mono ?_
      rintro e w6 ⟨rfl, hI6⟩
      have W6 := Lib.hid hI6
      clear hI6
      go_wp2_with fail
      go_at_call 15
      refine (findW W6.out (by omega) p).mono ?_
      rintro e w7 ⟨x2, rfl, kb, hIb, hkb⟩
      have WB := Lib.hid hIb
      clear hIb
      go_wp2_with fail
      go_at_call 13
      refine (workW WB.out).mono ?_
      rintro e w8 ⟨rfl, hI8⟩
      have W8 := Lib.hid hI8
      clear hI8
      go_wp2_with fail
      go_at_call 16
      refine (getW W8.out (by omega) p).mono ?_
      rintro e w9 ⟨x3, rfl, kc, hIc, hkc⟩
      have WC := Lib.hid hIc
      clear hIc
      go_wp2_with fail
      go_at_call 13
      refine (workW WC.out).mono ?_
      rintro e w10 ⟨rfl, hI10⟩
      have W10 := Lib.hid hI10
      clear hI10
      go_wp2_with fail
      go_at_call 17
      refine (removeW W10.out (by omega) p).mono ?_
      rintro e w11 ⟨x4, rfl, td, kd, hId, hkd⟩
      have WD := Lib.hid hId
      clear hId
      go_wp2_with fail
      go_at_call 13
      refine (workW WD.out).mono ?_
      rintro e w12 ⟨rfl, hI12⟩
      have W12 := Lib.hid hI12
      clear hI12
      have e1 : decide ((ka : Int) ≤ 40 + 30 * d) = true := decide_eq_true (by omega)
      have e2 : decide ((kb : Int) ≤ 40 + 30 * d) = true := decide_eq_true (by omega)
      have e3 : decide ((kc : Int) ≤ 40 + 30 * d) = true := decide_eq_true (by omega)
      have e4 : decide ((kd : Int) ≤ 40 + 30 * d) = true := decide_eq_true (by omega)
      go_wp2_with fail
      go_ret
      exact ⟨rfl, W12.out.below⟩
end Go.Proofs.Ytgkpeeilmknmfaa
