/- Contracts: package commonbookbig: words divided by ten. -/
import Derived.Test.YtfaihilehdjfjaaGreatDoorBig1
import Derived.Test.YtfaihilehdjfjaaGreatDoorBigQ
import Derived.OwnWalk
namespace Go.Proofs.YtfaihilehdjfjaaGreatDoor
open Go.ChangeShapes Go.WideShapes Go.ChangeAt Go.RowKit

theorem infoWordD : (Tryz.prog.info? 92).map (fun i => (i.zero, i.size, i.bytes)) = some (some (.int .u32 0), 1, 4) := by kernel_rfl
/-- make of words -/
theorem make_wordsD (n : Nat) (hn : n ≤ 4000000) (w : World) : ∃ w', (Instr.makeSlice 56 (.int .i64 (n : Int)) (.int .i64 (n : Int))).run Tryz.prog w = .ok (.slice (some ⟨w.heap.size, 0, none⟩) n n) w' ∧
    w'.ownsRow w.heap.size 92 1 (.slice (some ⟨w.heap.size, 0, none⟩) n n) n (u32C (List.replicate n 0)) ∧ Below w.heap.size w w' := by
  obtain ⟨i0, hi, hz0, hz1, hz2⟩ := info_parts infoWordD
  obtain ⟨w', h1, h2, h3⟩ := run_makeSlice_full w w.heap.size 56 92 i0 (.int .u32 0) 1 Tryz.underlying56 hi hz0 hz1 .i64 .i64 n (by omega) (by rw [hz2]; omega) (by simp only [maxLen]; omega) (Nat.le_refl _)
  refine ⟨w', h1, ?_, (Below.refl _ w).grown h3 (Nat.le_refl _) (fun g hg => by cases hg)⟩
  rw [u32C_zero]
  have e : (madeCells (Value.int .u32 0).cells (n * 1)).toList = List.replicate n (.int .u32 0) := by
    simp [madeCells, Value.cells]
    apply List.ext_getElem
    · simp
    · intro k h1 h2; simp [Nat.mod_one]
  rw [← e]; exact h2
theorem u64_keepD {m : Nat} (h : m < 18446744073709551616) : IntKind.u64.wrap (m : Int) = (m : Int) := by
  simp [IntKind.wrap, IntKind.bits, IntKind.signed]; omega
theorem or_wordsD (a b : Nat) (ha : a < 4294967296) (hb : b < 4294967296) : bits .or .u64 (((b * 4294967296 : Nat)) : Int) (a : Int) = ((b * 4294967296 + a : Nat) : Int) := by
  rw [u64_or_nat _ _ (by omega) (by omega)]
  have h := Nat.two_pow_add_eq_or_of_lt (i := 32) (b := a) (by omega) b
  rw [Nat.mul_comm b]
  rw [show (4294967296 : Nat) = 2 ^ 32 from rfl, ← h]
/-- divided by ten as far as a word -/
structure DivAt (l R : List Nat) (n j r : Nat) : Prop where
  ll : l.length = n
  rl : R.length = n
  hj : j ≤ n
  hr : r < 10
  ok : okW R
  val : valW (l.drop j) = 10 * valW (R.drop j) + r
theorem DivAt.start (l : List Nat) (n : Nat) (h : l.length = n) : DivAt l (List.replicate n 0) n n 0 where
  ll := h
  rl := by simp
  hj := Nat.le_refl _
  hr := by omega
  ok := fun x hx => by have := List.eq_of_mem_replicate hx; omega
  val := by rw [List.drop_of_length_le (by omega), List.drop_of_length_le (by simp)]; rfl
theorem DivAt.step {l R : List Nat} {n i r x : Nat} (h : DivAt l R n (i + 1) r) (hx : l[i]? = some x) (hx4 : x < 4294967296) : DivAt l (R.set i ((r * 4294967296 + x) / 10)) n i ((r * 4294967296 + x) % 10) where
  ll := h.ll
  rl := by rw [List.length_set]; exact h.rl
  hj := by have := h.hj; omega
  hr := by omega
  ok := ok_set h.ok (by have := h.hr; omega)
  val := by
    have hl : i < l.length := by have := h.hj; have := h.ll; omega
    have hR : i < R.length := by have := h.hj; have := h.rl; omega
    have e1 : l.drop i = x :: l.drop (i + 1) := by
      rw [List.getElem?_eq_getElem hl] at hx
      rw [List.drop_eq_getElem_cons hl, Option.some.inj hx]
    have e2 : (R.set i ((r * 4294967296 + x) / 10)).drop i = ((r * 4294967296 + x) / 10) :: R.drop (i + 1) := by
      rw [List.drop_eq_getElem_cons (by rw [List.length_set]; exact hR), List.getElem_set_self, List.drop_set_of_lt (by omega)]
    have hv := h.val
    rw [e1, e2]
    simp only [valW]
    rw [hv]
    omega
theorem DivAt.fin {l R : List Nat} {n r : Nat} (h : DivAt l R n 0 r) : valW R = valW l / 10 ∧ r = valW l % 10 := by
  have := h.val
  have := h.hr
  rw [List.drop_zero, List.drop_zero] at *
  omega
set_option maxRecDepth 20000 in
set_option maxHeartbeats 4000000 in
theorem small_any (l : List Nat) (hok : Hid (okW l)) (D : Nat → Prop) (A : Option Addr) (n c : Nat) (hn : l.length = n) (hl : n ≤ 1000000) (w : World) (hr : Reads D w 1 A n (u32C l)) (hD : ∀ k, D k → k < w.heap.size) :
    Calls Tryz.prog 59 #[.slice A n c, .int .u32 10] w fun e w' => ∃ A' c', e = .returned (.tuple #[.slice A' (wd (valW l / 10)).length c', .int .u32 (valW l % 10 : Nat)]) ∧ (wd (valW l / 10)).length ≤ c' ∧
      Reads (fun k => w.heap.size ≤ k ∧ k < w'.heap.size) w' 1 A' (wd (valW l / 10)).length (u32C (wd (valW l / 10))) ∧ Below w.heap.size w w' := by
  have HR := Lib.hid (hr.more (D' := (· < w.heap.size)) hD)
  have HN := Lib.hid hn
  clear hr hD
  obtain ⟨w0, hmk, hown0, hb0⟩ := make_wordsD n (by omega) w
  have HB0 := Lib.hid hb0
  have HS := Lib.hid (DivAt.start l n hn)
  clear hb0 hn
  have hw0 : IntKind.i64.wrap ((n : Int) - 1) = (n : Int) - 1 := IntWalk.i64_in _ (by omega)
  go_enter Tryz.func59, Tryz.ntmps59
  go_wp2_with fail
  go_loopw [7, 8] (fun s7 s8 wr => ∃ (j r : Nat) (R : List Nat), s7 = .int .u64 r ∧ s8 = .int .i64 ((j : Int) - 1) ∧ j ≤ n ∧ r < 10 ∧ Hid (DivAt l R n j r) ∧ wr.ownsRow w.heap.size 92 1 (.slice (some ⟨w.heap.size, 0, none⟩) n n) n (u32C R) ∧ Hid (Below w.heap.size w wr)) (fun _ s8 _ => (intOf s8 + 1).toNat)
  case atStart => exact ⟨n, 0, _, rfl, rfl, Nat.le_refl _, by omega, HS, hown0, HB0⟩
  obtain ⟨j, r, R, rfl, rfl, hj, hr10, HT, hown, HB⟩ := hrel
  rcases Nat.eq_zero_or_pos j with rfl | hj0
  · have HF := Lib.hid HT.out.fin
    have HOK := Lib.hid HT.out.ok
    have HLN := Lib.hid HT.out.rl
    have hwr := hown
    obtain ⟨A9, c9, hv9, hc9, _, hr9⟩ := Reads.of_own hown
    injection hv9 with hv9 _ hv9c
    subst hv9 hv9c
    have HR9 := Lib.hid hr9
    have h0 : (r : Int) % 4294967296 = (r : Int) := by omega
    clear hr9 hown HT
    go_wp2_with fail
    refine (trim_any R HOK _ _ n n HLN.out (Nat.le_refl _) (by omega) wr HR9.out).mono ?_
    rintro e w1 ⟨rfl, rfl⟩
    have hr8 := reads_wd HOK.out HLN.out HR9.out
    have hl8 := (wd_take HOK.out).1
    rw [HF.out.1] at hr8 hl8 ⊢
    rw [HLN.out] at hl8
    go_wp2_with fail
    go_ret2
    refine ⟨_, n, by rw [← HF.out.2]; rfl, hl8, hr8.more fun k e => ?_, HB.out⟩
    have h9 := own_lt hwr e
    exact h9
  · obtain ⟨i, rfl⟩ : ∃ i, j = i + 1 := ⟨j - 1, by omega⟩
    have e1 : ((i + 1 : Nat) : Int) - 1 = (i : Int) := by omega
    rw [e1]
    obtain ⟨x, hx⟩ := get_lt (l := l) (k := i) (by have := HN.out; omega)
    have hx4 := ok_get hok.out hx
    obtain ⟨b1, o1, hA1, _, hcell1⟩ := (HR.out.keep (Below.keeps HB.out)).at_ (by omega) (by omega)
    have hcx := hcell1 i _ (u32_at hx)
    have hfz := hown.frozenAt i
    obtain ⟨y, hy⟩ := get_lt (l := R) (k := i) (by have := HT.out.rl; omega)
    have hz := hown.cellAt i (by omega)
    rw [u32_at hy] at hz
    subst hA1
    have HT2 := Lib.hid (HT.out.step hx hx4)
    obtain ⟨t, ht⟩ : ∃ t, t = r * 4294967296 + x := ⟨_, rfl⟩
    rw [← ht] at HT2
    have hq1 : (r : Int) * 4294967296 = ((r * 4294967296 : Nat) : Int) := by omega
    have hor := or_wordsD x r hx4 (by omega)
    rw [← ht] at hor
    obtain ⟨q, hq⟩ : ∃ q, q = r * 4294967296 := ⟨_, rfl⟩
    rw [← hq] at hq1 hor
    have hq4 : q < 18446744073709551616 := by omega
    have ht4 : t < 42949672960 := by omega
    have hq2 : IntKind.u64.wrap (q : Int) = (q : Int) := u64_keepD (by omega)
    obtain ⟨lo, hlo⟩ : ∃ lo, lo = t % 10 := ⟨_, rfl⟩
    obtain ⟨h_, hhi⟩ : ∃ h_, h_ = t / 10 := ⟨_, rfl⟩
    have f1 : (q : Int) + (x : Int) = (t : Int) := by omega
    have f2 : (t : Int) % 10 = (lo : Int) := by omega
    have f3 : (t : Int) / 10 = (h_ : Int) := by omega
    have f4 : (h_ : Int) % 4294967296 = (h_ : Int) := by omega
    rw [← hlo, ← hhi] at HT2
    have hst := hown.stored i (.int .u32 (h_ : Int))
    rw [u32C_set] at hst
    have HST := Lib.hid hst
    have hh10 : lo < 10 := by omega
    clear hcell1 hq hx hy hst ht hlo hhi
    go_wp2_with fail
    exact ⟨⟨i, lo, R.set i h_, by rw [f2], rfl, by omega, hh10, HT2, HST.out.1, HB.out.setCell (by simp) _⟩, by simp [intOf]⟩
end Go.Proofs.YtfaihilehdjfjaaGreatDoor
