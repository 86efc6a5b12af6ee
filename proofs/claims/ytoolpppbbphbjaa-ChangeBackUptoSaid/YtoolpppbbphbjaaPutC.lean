/- Contracts: package bytes, numbers packed. -/
import Derived.Test.YtoolpppbbphbjaaBytes2
namespace Go.Proofs.Ytoolpppbbphbjaa
open Go.ChangeShapes Go.WideShapes Go.ChangeAt Go.RowKit

theorem put_sl (n : Nat) (hn : Hid (n < 2 ^ 64)) (w : World) :
    Calls Try.prog 19 #[.int .u64 n] w fun e w' => ∃ A c, e = .returned (.slice A (putN n).length c) ∧ w'.ownsRow w.heap.size 5 1 (.slice A (putN n).length c) (putN n).length (bytesC (putN n)) ∧ Below w.heap.size w w' :=
  (put_any n hn w).mono fun e w' ⟨v, he, ho, hb⟩ => by
    obtain ⟨A, c, rfl, _⟩ := Reads.of_own ho
    exact ⟨A, c, he, ho, hb⟩
theorem putS_sl (n : Int) (hn : (Lit.int .i64 n).wf = true) (w : World) :
    Calls Try.prog 10 #[.int .i64 n] w fun e w' => ∃ A c, e = .returned (.slice A (putS n).length c) ∧ w'.ownsRow w.heap.size 5 1 (.slice A (putS n).length c) (putS n).length (bytesC (putS n)) ∧ Below w.heap.size w w' :=
  (putSigned_any n hn w).mono fun e w' ⟨v, he, ho, hb⟩ => by
    obtain ⟨A, c, rfl, _⟩ := Reads.of_own ho
    exact ⟨A, c, he, ho, hb⟩
theorem own_reads {w : World} {base : Nat} {e : TypeId} {size n c : Nat} {A : Option Addr} {xs : List Value} (h : w.ownsRow base e size (.slice A n c) n xs) : Reads (fun k => base ≤ k ∧ k < w.heap.size) w size A n xs := by
  obtain ⟨A', c', hv, _, _, hr⟩ := Reads.of_own h
  injection hv with h1 h2 h3
  subst h1
  exact hr.more fun k hk => own_lt h hk

set_option maxHeartbeats 1000000 in
theorem putR_any (n : Nat) (hn : Hid (n < 2 ^ 64)) (w : World) :
    Calls Try.prog 32 #[.int .u64 n] w fun e w' => ∃ v, e = .returned v ∧ w'.ownsRow w.heap.size 5 1 v (putN n).length (bytesC (putN n)) ∧ Below w.heap.size w w' := by
  obtain ⟨i0, hi, hz0, hz1, hz2⟩ := info_parts infoByte
  go_enter Try.func32, Try.ntmps32
  go_wp2
  go_loopw [0, 3] (fun s0 v wr => ∃ (f cur : Nat) (pre : List UInt8), s0 = .int .u64 cur ∧ Hid (PutAt n f cur pre) ∧
      wr.ownsRow w.heap.size 5 1 v pre.length (bytesC pre) ∧ Below w.heap.size w wr) (fun s0 _ _ => (intOf s0).toNat)
  case atStart => exact ⟨9, n, [], rfl, PutAt.start hn.out, own_nil _ _ _ _, Below.refl _ _⟩
  obtain ⟨f, cur, pre, rfl, hpa, hown, hb⟩ := hrel
  have hlen := hpa.out.len
  by_cases hlt : cur < 128
  · have hd : decide ((127 : Int) < (cur : Int)) = false := by simp; omega
    have hc8 : (cur : Int) % 256 = (cur : Int) := by omega
    have HL := Lib.hid (hpa.out.last hlt)
    go_wp2_with (at_builtin; refine wpList_append_any _ rfl (.tmp 15) (.tmp 18) _ rfl (w.heap.size) 5 i0 _ 1 1 Try.underlying26 hi hz0 hz1 hz2 rfl (by omega) (u3) (pre.length) (bytesC pre) rfl (hown.alloc _) _ (some ⟨wr.heap.size, 0, none⟩) (1) (1) (bytesC [UInt8.ofNat cur]) rfl (reads_new _ _ _ _ (by rw [ofNat_toNat (by omega)]) _ rfl) (bytesC_one _) ?c1 ?c2 ?c3 ?_)
    try case c1 => simp only [maxLen]; omega
    try case c2 => omega
    try case c3 => have := hb.size; simp; omega
    intro v1 w1 hown1 hg1 hat1
    have hb1 : Below w.heap.size w w1 := (hb.alloc hb.size _).grown hg1 (by have := hb.size; simp; omega) (fun g hg => (own_lt hown hg).1)
    go_wp2
    go_ret
    exact ⟨_, rfl, by rw [HL.out, List.length_append, bytesC_append]; exact hown1, hb1⟩
  · have hd : decide ((127 : Int) < (cur : Int)) = true := by simp; omega
    obtain ⟨m, hm⟩ : ∃ m, m = cur % 128 := ⟨_, rfl⟩
    obtain ⟨q, hq⟩ : ∃ q, q = cur / 128 := ⟨_, rfl⟩
    have hm1 : (cur : Int).tmod 128 = (m : Int) := by rw [Int.tmod_eq_emod_of_nonneg (by omega)]; omega
    have hm2 : (cur : Int) % 128 = (m : Int) := by omega
    have hq1 : (cur : Int).tdiv 128 = (q : Int) := by rw [Int.tdiv_eq_ediv_of_nonneg (by omega)]; omega
    have hq2 : (cur : Int) / 128 = (q : Int) := by omega
    have hm8 : m < 128 := by omega
    have HX : Hid ((m : Int) + 128 = ((loB cur).toNat : Int)) := by show _ = _; rw [loB_toNat]; omega
    obtain ⟨f', hp'⟩ := hpa.out.step hlt
    rw [← hq] at hp'
    have HP := Lib.hid hp'
    have hqc : q < cur := by omega
    have hq3 : IntKind.u64.wrap (q : Int) = (q : Int) := u64_keep (by have := hpa.out.lt; omega)
    clear hm hq hp'
    go_wp2_with (at_builtin; refine wpList_append_any _ rfl (.tmp 6) (.tmp 11) _ rfl (w.heap.size) 5 i0 _ 1 1 Try.underlying26 hi hz0 hz1 hz2 rfl (by omega) (u3) (pre.length) (bytesC pre) rfl (hown.alloc _) _ (some ⟨wr.heap.size, 0, none⟩) (1) (1) (bytesC [loB cur]) rfl (reads_new _ _ _ _ HX.out _ rfl) (bytesC_one _) ?c1 ?c2 ?c3 ?_)
    try case c1 => simp only [maxLen]; omega
    try case c2 => omega
    try case c3 => have := hb.size; simp; omega
    intro v1 w1 hown1 hg1 hat1
    have hb1 : Below w.heap.size w w1 := (hb.alloc hb.size _).grown hg1 (by have := hb.size; simp; omega) (fun g hg => (own_lt hown hg).1)
    go_wp2
    exact ⟨⟨f', q, pre ++ [loB cur], rfl, HP, by rw [List.length_append, bytesC_append]; exact hown1, hb1⟩, by simp [intOf]; omega⟩

set_option maxHeartbeats 1000000 in
theorem putSR_any (n : Int) (hn : (Lit.int .i64 n).wf = true) (w : World) :
    Calls Try.prog 24 #[.int .i64 n] w fun e w' => ∃ v, e = .returned v ∧ w'.ownsRow w.heap.size 5 1 v (putS n).length (bytesC (putS n)) ∧ Below w.heap.size w w' := by
  have hb := bounds_i64 hn
  have HL : Hid (zz n < 2 ^ 64) := zz_lt hb
  by_cases h0 : n < 0
  · have HZ : Hid (IntKind.u64.wrap (IntKind.u64.wrap (IntKind.u64.wrap (wrap64 (-wrap64 (n + 1))) * 2) + 1) = ((zz n : Nat) : Int)) := by
      show _ = _
      rw [wrap_u64, wrap_u64, wrap_u64, wrap_i64, wrap_i64]
      unfold zz
      split <;> omega
    have hd : decide (n < 0) = true := by simpa using h0
    clear hn hb h0
    go_enter Try.func24, Try.ntmps24
    go_wp2_with fail
    rw [HZ.out]
    refine (putR_any (zz n) HL w).mono ?_
    rintro e w1 ⟨v, rfl, ho, hb⟩
    go_wp2
    go_ret
    exact ⟨v, rfl, ho, hb⟩
  · have HZ : Hid (IntKind.u64.wrap (IntKind.u64.wrap n * 2) = ((zz n : Nat) : Int)) := by
      show _ = _
      rw [wrap_u64, wrap_u64]
      unfold zz
      split <;> omega
    have hd : decide (n < 0) = false := by simpa using h0
    clear hn hb
    go_enter Try.func24, Try.ntmps24
    go_wp2_with fail
    rw [HZ.out]
    refine (putR_any (zz n) HL w).mono ?_
    rintro e w1 ⟨v, rfl, ho, hb⟩
    go_wp2
    go_ret
    exact ⟨v, rfl, ho, hb⟩
end Go.Proofs.Ytoolpppbbphbjaa
