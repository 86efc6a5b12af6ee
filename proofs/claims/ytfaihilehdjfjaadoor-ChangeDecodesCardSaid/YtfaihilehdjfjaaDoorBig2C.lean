/- Contracts: package commonbookbig: add, mul. -/
import Derived.Test.YtfaihilehdjfjaaDoorBigQ
import Derived.Test.YtfaihilehdjfjaaDoorBig1
import Derived.Test.YtfaihilehdjfjaaDoorBytes2
namespace Go.Proofs.YtfaihilehdjfjaaDoor
open Go.ChangeShapes Go.WideShapes Go.ChangeAt Go.RowKit

theorem infoWord : (Tryd.prog.info? 184).map (fun i => (i.zero, i.size, i.bytes)) = some (some (.int .u32 0), 1, 4) := by kernel_rfl
theorem kwrap' {x : Int} (h : -9223372036854775808 ≤ x) (h2 : x < 9223372036854775808) : IntKind.i64.wrap x = x := by
  simp [IntKind.wrap, IntKind.bits, IntKind.signed]; omega
/-- make of words -/
theorem make_words (n : Nat) (hn : n ≤ 4000000) (w : World) : ∃ w', (Instr.makeSlice 186 (.int .i64 (n : Int)) (.int .i64 (n : Int))).run Tryd.prog w = .ok (.slice (some ⟨w.heap.size, 0, none⟩) n n) w' ∧
    w'.ownsRow w.heap.size 184 1 (.slice (some ⟨w.heap.size, 0, none⟩) n n) n (u32C (List.replicate n 0)) ∧ Below w.heap.size w w' := by
  obtain ⟨i0, hi, hz0, hz1, hz2⟩ := info_parts infoWord
  obtain ⟨w', h1, h2, h3⟩ := run_makeSlice_full w w.heap.size 186 184 i0 (.int .u32 0) 1 Tryd.underlying186 hi hz0 hz1 .i64 .i64 n (by omega) (by rw [hz2]; omega) (by simp only [maxLen]; omega) (Nat.le_refl _)
  refine ⟨w', h1, ?_, (Below.refl _ w).grown h3 (Nat.le_refl _) (fun g hg => by cases hg)⟩
  rw [u32C_zero]
  have e : (madeCells (Value.int .u32 0).cells (n * 1)).toList = List.replicate n (.int .u32 0) := by
    simp [madeCells, Value.cells]
    apply List.ext_getElem
    · simp
    · intro k h1 h2; simp [Nat.mod_one]
  rw [← e]; exact h2

set_option maxRecDepth 20000 in
set_option maxHeartbeats 4000000 in
theorem add_any (a b : List Nat) (hoa : Hid (okW a)) (hob : Hid (okW b)) (Da Db : Nat → Prop) (Aa Ab : Option Addr) (na nb ca cb : Nat) (hna : a.length = na) (hnb : b.length = nb) (hla : na ≤ 1000000) (hlb : nb ≤ 1000000)
    (w : World) (hra : Reads Da w 1 Aa na (u32C a)) (hrb : Reads Db w 1 Ab nb (u32C b)) (hDa : ∀ k, Da k → k < w.heap.size) (hDb : ∀ k, Db k → k < w.heap.size) :
    Calls Tryd.prog 174 #[.slice Aa na ca, .slice Ab nb cb] w fun e w' => ∃ A c, e = .returned (.slice A (wd (valW a + valW b)).length c) ∧ (wd (valW a + valW b)).length ≤ c ∧ Reads (fun k => w.heap.size ≤ k ∧ k < w'.heap.size) w' 1 A (wd (valW a + valW b)).length (u32C (wd (valW a + valW b))) ∧ Below w.heap.size w w' := by
  subst hna hnb
  have HRa := Lib.hid (hra.more (D' := (· < w.heap.size)) hDa)
  have HRb := Lib.hid (hrb.more (D' := (· < w.heap.size)) hDb)
  clear hra hrb hDa hDb
  go_enter Tryd.func174, Tryd.ntmps174
  by_cases hsw : a.length < b.length
  · obtain ⟨w0, hmk, hown0, hb0⟩ := make_words (b.length + 1) (by omega) w
    have e1 : ((b.length + 1 : Nat) : Int) = (b.length : Int) + 1 := by omega
    rw [e1] at hmk
    have HB0 := Lib.hid hb0
    clear hb0
    go_wp2_with fail
    go_loopw [6, 7] (fun s6 s7 wr => ∃ (i c : Nat) (R : List Nat), s6 = .int .u64 c ∧ s7 = .int .i64 i ∧ i ≤ b.length ∧ c ≤ 1 ∧ Hid (AddAt b a R (b.length + 1) i c) ∧ wr.ownsRow w.heap.size 184 1 (.slice (some ⟨w.heap.size, 0, none⟩) (b.length + 1) (b.length + 1)) (b.length + 1) (u32C R) ∧ Hid (Below w.heap.size w wr)) (fun _ s7 _ => b.length - (intOf s7).toNat)
    case atStart => exact ⟨0, 0, _, rfl, rfl, by omega, by omega, AddAt.start _ _ _, hown0, HB0⟩
    obtain ⟨i, c, R, rfl, rfl, hi, hc, HT, hown, HB⟩ := hrel
    by_cases hlt : i < b.length
    · obtain ⟨x, hx⟩ := get_lt hlt
      have hx4 := ok_get hob.out hx
      obtain ⟨b1, o1, hA1, _, hcell1⟩ := (HRb.out.keep (Below.keeps HB.out)).at_ (by omega) (by omega)
      have hcx := hcell1 i _ (u32_at hx)
      have hfz := hown.frozenAt i
      have hz := hown.cellAt i (by omega)
      rw [u32_at (HT.out.zero i (Nat.le_refl _) (by omega))] at hz
      subst hA1
      clear hcell1
      by_cases hlb2 : i < a.length
      · obtain ⟨y, hy⟩ := get_lt hlb2
        have hy4 := ok_get hoa.out hy
        obtain ⟨b2, o2, hA2, _, hcell2⟩ := (HRa.out.keep (Below.keeps HB.out)).at_ (by omega) (by omega)
        have hcy := hcell2 i _ (u32_at hy)
        subst hA2
        clear hcell2
        obtain ⟨t, ht⟩ : ∃ t, t = c + x + y := ⟨_, rfl⟩
        obtain ⟨lo, hlo⟩ : ∃ lo, lo = t % 4294967296 := ⟨_, rfl⟩
        obtain ⟨h_, hhi⟩ : ∃ h_, h_ = t / 4294967296 := ⟨_, rfl⟩
        have HN := Lib.hid (HT.out.step (by omega) hx (.inl hy) hx4 hy4 ht)
        rw [← hlo, ← hhi] at HN
        have f1 : (c : Int) + (x : Int) + (y : Int) = (t : Int) := by omega
        have f2 : (t : Int) % 4294967296 = (lo : Int) := by omega
        have f3 : (t : Int) / 4294967296 = (h_ : Int) := by omega
        have ht4 : t < 9000000000 := by omega
        have hh1 : h_ ≤ 1 := by omega
        clear ht hlo hhi hx hy
        have hst := hown.stored i (.int .u32 (lo : Int))
        rw [u32C_set] at hst
        have HST := Lib.hid hst
        clear hst
        go_wp2_with fail
        exact ⟨⟨i + 1, h_, R.set i lo, rfl, by go_num, by omega, hh1, HN, HST.out.1, HB.out.setCell (by simp) _⟩, by simp [intOf]; omega⟩
      · obtain ⟨t, ht⟩ : ∃ t, t = c + x + 0 := ⟨_, rfl⟩
        obtain ⟨lo, hlo⟩ : ∃ lo, lo = t % 4294967296 := ⟨_, rfl⟩
        obtain ⟨h_, hhi⟩ : ∃ h_, h_ = t / 4294967296 := ⟨_, rfl⟩
        have HN := Lib.hid (HT.out.step (by omega) hx (.inr ⟨rfl, by omega⟩) hx4 (by omega) ht)
        rw [← hlo, ← hhi] at HN
        have f1 : (c : Int) + (x : Int) = (t : Int) := by omega
        have f2 : (t : Int) % 4294967296 = (lo : Int) := by omega
        have f3 : (t : Int) / 4294967296 = (h_ : Int) := by omega
        have ht4 : t < 9000000000 := by omega
        have hh1 : h_ ≤ 1 := by omega
        clear ht hlo hhi hx
        have hst := hown.stored i (.int .u32 (lo : Int))
        rw [u32C_set] at hst
        have HST := Lib.hid hst
        clear hst
        go_wp2_with fail
        exact ⟨⟨i + 1, h_, R.set i lo, rfl, by go_num, by omega, hh1, HN, HST.out.1, HB.out.setCell (by simp) _⟩, by simp [intOf]; omega⟩
    · obtain rfl : i = b.length := by omega
      have hfz := hown.frozenAt b.length
      have hz := hown.cellAt b.length (by omega)
      rw [u32_at (HT.out.zero _ (Nat.le_refl _) (by omega))] at hz
      have f2 : (c : Int) % 4294967296 = (c : Int) := by omega
      have hst := hown.stored b.length (.int .u32 (c : Int))
      rw [u32C_set] at hst
      have HF : Hid (valW (R.set b.length c) = valW a + valW b) := (HT.out.fin (Nat.le_refl _) (by omega)).trans (by omega)
      have HOK : Hid (okW (R.set b.length c)) := ok_set HT.out.ok (by omega)
      have HLN : Hid ((R.set b.length c).length = b.length + 1) := by show _ = _; rw [List.length_set]; exact HT.out.len
      have HST := Lib.hid hst
      clear hst
      go_wp2_with fail
      obtain ⟨A9, c9, hv9, _, _, hr9⟩ := Reads.of_own HST.out.1
      injection hv9 with hv9 _ hv9c
      subst hv9 hv9c
      refine (trim_any (R.set b.length c) HOK _ _ (b.length + 1) (b.length + 1) HLN.out (Nat.le_refl _) (by omega) _ hr9).mono ?_
      rintro e w9 ⟨rfl, rfl⟩
      have hrw := reads_wd HOK.out HLN.out hr9
      have hwl := (wd_take HOK.out).1
      rw [HLN.out] at hwl
      rw [HF.out] at hrw hwl ⊢
      go_wp2_with fail
      go_ret
      exact ⟨_, _, rfl, hwl, hrw.more fun k hk => own_lt HST.out.1 hk, HB.out.setCell (by simp) _⟩
  · obtain ⟨w0, hmk, hown0, hb0⟩ := make_words (a.length + 1) (by omega) w
    have e1 : ((a.length + 1 : Nat) : Int) = (a.length : Int) + 1 := by omega
    rw [e1] at hmk
    have HB0 := Lib.hid hb0
    clear hb0
    go_wp2_with fail
    go_loopw [6, 7] (fun s6 s7 wr => ∃ (i c : Nat) (R : List Nat), s6 = .int .u64 c ∧ s7 = .int .i64 i ∧ i ≤ a.length ∧ c ≤ 1 ∧ Hid (AddAt a b R (a.length + 1) i c) ∧ wr.ownsRow w.heap.size 184 1 (.slice (some ⟨w.heap.size, 0, none⟩) (a.length + 1) (a.length + 1)) (a.length + 1) (u32C R) ∧ Hid (Below w.heap.size w wr)) (fun _ s7 _ => a.length - (intOf s7).toNat)
    case atStart => exact ⟨0, 0, _, rfl, rfl, by omega, by omega, AddAt.start _ _ _, hown0, HB0⟩
    obtain ⟨i, c, R, rfl, rfl, hi, hc, HT, hown, HB⟩ := hrel
    by_cases hlt : i < a.length
    · obtain ⟨x, hx⟩ := get_lt hlt
      have hx4 := ok_get hoa.out hx
      obtain ⟨b1, o1, hA1, _, hcell1⟩ := (HRa.out.keep (Below.keeps HB.out)).at_ (by omega) (by omega)
      have hcx := hcell1 i _ (u32_at hx)
      have hfz := hown.frozenAt i
      have hz := hown.cellAt i (by omega)
      rw [u32_at (HT.out.zero i (Nat.le_refl _) (by omega))] at hz
      subst hA1
      clear hcell1
      by_cases hlb2 : i < b.length
      · obtain ⟨y, hy⟩ := get_lt hlb2
        have hy4 := ok_get hob.out hy
        obtain ⟨b2, o2, hA2, _, hcell2⟩ := (HRb.out.keep (Below.keeps HB.out)).at_ (by omega) (by omega)
        have hcy := hcell2 i _ (u32_at hy)
        subst hA2
        clear hcell2
        obtain ⟨t, ht⟩ : ∃ t, t = c + x + y := ⟨_, rfl⟩
        obtain ⟨lo, hlo⟩ : ∃ lo, lo = t % 4294967296 := ⟨_, rfl⟩
        obtain ⟨h_, hhi⟩ : ∃ h_, h_ = t / 4294967296 := ⟨_, rfl⟩
        have HN := Lib.hid (HT.out.step (by omega) hx (.inl hy) hx4 hy4 ht)
        rw [← hlo, ← hhi] at HN
        have f1 : (c : Int) + (x : Int) + (y : Int) = (t : Int) := by omega
        have f2 : (t : Int) % 4294967296 = (lo : Int) := by omega
        have f3 : (t : Int) / 4294967296 = (h_ : Int) := by omega
        have ht4 : t < 9000000000 := by omega
        have hh1 : h_ ≤ 1 := by omega
        clear ht hlo hhi hx hy
        have hst := hown.stored i (.int .u32 (lo : Int))
        rw [u32C_set] at hst
        have HST := Lib.hid hst
        clear hst
        go_wp2_with fail
        exact ⟨⟨i + 1, h_, R.set i lo, rfl, by go_num, by omega, hh1, HN, HST.out.1, HB.out.setCell (by simp) _⟩, by simp [intOf]; omega⟩
      · obtain ⟨t, ht⟩ : ∃ t, t = c + x + 0 := ⟨_, rfl⟩
        obtain ⟨lo, hlo⟩ : ∃ lo, lo = t % 4294967296 := ⟨_, rfl⟩
        obtain ⟨h_, hhi⟩ : ∃ h_, h_ = t / 4294967296 := ⟨_, rfl⟩
        have HN := Lib.hid (HT.out.step (by omega) hx (.inr ⟨rfl, by omega⟩) hx4 (by omega) ht)
        rw [← hlo, ← hhi] at HN
        have f1 : (c : Int) + (x : Int) = (t : Int) := by omega
        have f2 : (t : Int) % 4294967296 = (lo : Int) := by omega
        have f3 : (t : Int) / 4294967296 = (h_ : Int) := by omega
        have ht4 : t < 9000000000 := by omega
        have hh1 : h_ ≤ 1 := by omega
        clear ht hlo hhi hx
        have hst := hown.stored i (.int .u32 (lo : Int))
        rw [u32C_set] at hst
        have HST := Lib.hid hst
        clear hst
        go_wp2_with fail
        exact ⟨⟨i + 1, h_, R.set i lo, rfl, by go_num, by omega, hh1, HN, HST.out.1, HB.out.setCell (by simp) _⟩, by simp [intOf]; omega⟩
    · obtain rfl : i = a.length := by omega
      have hfz := hown.frozenAt a.length
      have hz := hown.cellAt a.length (by omega)
      rw [u32_at (HT.out.zero _ (Nat.le_refl _) (by omega))] at hz
      have f2 : (c : Int) % 4294967296 = (c : Int) := by omega
      have hst := hown.stored a.length (.int .u32 (c : Int))
      rw [u32C_set] at hst
      have HF : Hid (valW (R.set a.length c) = valW a + valW b) := (HT.out.fin (Nat.le_refl _) (by omega)).trans (by omega)
      have HOK : Hid (okW (R.set a.length c)) := ok_set HT.out.ok (by omega)
      have HLN : Hid ((R.set a.length c).length = a.length + 1) := by show _ = _; rw [List.length_set]; exact HT.out.len
      have HST := Lib.hid hst
      clear hst
      go_wp2_with fail
      obtain ⟨A9, c9, hv9, _, _, hr9⟩ := Reads.of_own HST.out.1
      injection hv9 with hv9 _ hv9c
      subst hv9 hv9c
      refine (trim_any (R.set a.length c) HOK _ _ (a.length + 1) (a.length + 1) HLN.out (Nat.le_refl _) (by omega) _ hr9).mono ?_
      rintro e w9 ⟨rfl, rfl⟩
      have hrw := reads_wd HOK.out HLN.out hr9
      have hwl := (wd_take HOK.out).1
      rw [HLN.out] at hwl
      rw [HF.out] at hrw hwl ⊢
      go_wp2_with fail
      go_ret
      exact ⟨_, _, rfl, hwl, hrw.more fun k hk => own_lt HST.out.1 hk, HB.out.setCell (by simp) _⟩

set_option maxRecDepth 20000 in
set_option maxHeartbeats 4000000 in
theorem mul_any (a b : List Nat) (hoa : Hid (okW a)) (hob : Hid (okW b)) (Da Db : Nat → Prop) (Aa Ab : Option Addr) (na nb ca cb : Nat) (hna : a.length = na) (hnb : b.length = nb) (hla : na ≤ 1000000) (hlb : nb ≤ 1000000)
    (w : World) (hra : Reads Da w 1 Aa na (u32C a)) (hrb : Reads Db w 1 Ab nb (u32C b)) (hDa : ∀ k, Da k → k < w.heap.size) (hDb : ∀ k, Db k → k < w.heap.size) :
    Calls Tryd.prog 161 #[.slice Aa na ca, .slice Ab nb cb] w fun e w' => ∃ A c, e = .returned (.slice A (wd (valW a * valW b)).length c) ∧ (wd (valW a * valW b)).length ≤ c ∧ Reads (fun k => w.heap.size ≤ k ∧ k < w'.heap.size) w' 1 A (wd (valW a * valW b)).length (u32C (wd (valW a * valW b))) ∧ Below w.heap.size w w' := by
  subst hna hnb
  have HRa := Lib.hid (hra.more (D' := (· < w.heap.size)) hDa)
  have HRb := Lib.hid (hrb.more (D' := (· < w.heap.size)) hDb)
  clear hra hrb hDa hDb
  go_enter Tryd.func161, Tryd.ntmps161
  rcases Nat.eq_zero_or_pos a.length with ha0 | ha0
  · have : a = [] := List.length_eq_zero_iff.1 ha0
    subst this
    have HZ : Hid (valW [] * valW b = 0) := by show _ = _; simp [valW]
    go_wp2_with fail
    go_ret
    rw [HZ.out, wd_zero]
    exact ⟨none, 0, rfl, Nat.le_refl _, Reads.none_, Below.refl _ _⟩
  rcases Nat.eq_zero_or_pos b.length with hb0 | hb0
  · have : b = [] := List.length_eq_zero_iff.1 hb0
    subst this
    have HZ : Hid (valW a * valW [] = 0) := by show _ = _; simp [valW]
    have ha1 : ((a.length : Int) == 0) = false := by rw [beq_eq_false_iff_ne]; omega
    go_wp2_with fail
    go_ret
    rw [HZ.out, wd_zero]
    exact ⟨none, 0, rfl, Nat.le_refl _, Reads.none_, Below.refl _ _⟩
  have ha1 : ((a.length : Int) == 0) = false := by rw [beq_eq_false_iff_ne]; omega
  have hb1 : ((b.length : Int) == 0) = false := by rw [beq_eq_false_iff_ne]; omega
  obtain ⟨w0, hmk, hown0, hb0'⟩ := make_words (a.length + b.length) (by omega) w
  have e1 : ((a.length + b.length : Nat) : Int) = (a.length : Int) + (b.length : Int) := by omega
  rw [e1] at hmk
  have HB0 := Lib.hid hb0'
  clear hb0'
  go_wp2_with fail
  go_loopw [6, 7, 8] (fun s6 _ _ wr => ∃ (i : Nat) (R : List Nat), s6 = .int .i64 i ∧ i ≤ a.length ∧ Hid (MulO a b R (a.length + b.length) i) ∧ wr.ownsRow w.heap.size 184 1 (.slice (some ⟨w.heap.size, 0, none⟩) (a.length + b.length) (a.length + b.length)) (a.length + b.length) (u32C R) ∧ Hid (Below w.heap.size w wr)) (fun s6 _ _ _ => a.length - (intOf s6).toNat)
  case atStart => exact ⟨0, _, rfl, by omega, MulO.start _ _ _, hown0, HB0⟩
  obtain ⟨i, R, rfl, hi, HT, hown, HB⟩ := hrel
  by_cases hlt : i < a.length
  · obtain ⟨x, hx⟩ := get_lt hlt
    have hx4 := ok_get hoa.out hx
    have HXO := Lib.hid hx
    obtain ⟨b1, o1, hA1, hD1, hcell1⟩ := HRa.out.at_ (by omega) (by omega)
    have HCA : Hid (∀ w', Below w.heap.size w w' → w'.cell? ⟨b1, o1 + i, none⟩ = some (.int .u32 (x : Int))) := fun w' hb' => (hb'.cell (p := ⟨b1, o1 + i, none⟩) hD1).trans (hcell1 i _ (u32_at hx))
    obtain ⟨b2, o2, hA2, hD2, hcell2⟩ := HRb.out.at_ (by omega) (by omega)
    have HCB : Hid (∀ w', Below w.heap.size w w' → ∀ (j y : Nat), b[j]? = some y → w'.cell? ⟨b2, o2 + j, none⟩ = some (.int .u32 (y : Int))) := fun w' hb' j y hy => (hb'.cell (p := ⟨b2, o2 + j, none⟩) hD2).trans (hcell2 j _ (u32_at hy))
    subst hA1 hA2
    clear hcell1 hcell2 hx
    go_wp2_with fail
    go_loopw [7, 8] (fun s7 s8 wr => ∃ (j c : Nat) (R : List Nat), s7 = .int .u64 c ∧ s8 = .int .i64 j ∧ j ≤ b.length ∧ c < 4294967296 ∧ Hid (MulAt a b R x (a.length + b.length) i j c (valW (a.take i))) ∧ wr.ownsRow w.heap.size 184 1 (.slice (some ⟨w.heap.size, 0, none⟩) (a.length + b.length) (a.length + b.length)) (a.length + b.length) (u32C R) ∧ Hid (Below w.heap.size w wr)) (fun _ s8 _ => b.length - (intOf s8).toNat)
    case atStart => exact ⟨0, 0, R, rfl, rfl, by omega, by omega, HT.out.inner x, hown, HB⟩
    obtain ⟨j, c, R, rfl, rfl, hj, hc4, HM, hown, HB⟩ := hrel
    by_cases hjl : j < b.length
    · obtain ⟨y, hy⟩ := get_lt hjl
      have hy4 := ok_get hob.out hy
      obtain ⟨z, hz⟩ := get_lt (l := R) (k := i + j) (by rw [HM.out.len]; omega)
      have hz4 := ok_get HM.out.ok hz
      have hcx := HCA.out wr HB.out
      have hcy := HCB.out wr HB.out j y hy
      have hcz := hown.cellAt (i + j) (by omega)
      rw [u32_at hz] at hcz
      have hfz := hown.frozenAt (i + j)
      have hfz2 : ∀ n, (wr.drewN n).frozen? ⟨w.heap.size, i + j, none⟩ = false := fun _ => hfz
      obtain ⟨p, hp⟩ : ∃ p, p = x * y := ⟨_, rfl⟩
      have hp4 : p ≤ 18446744065119617025 := by
        have : x * y ≤ 4294967295 * 4294967295 := Nat.mul_le_mul (by omega) (by omega)
        omega
      have hpi : (x : Int) * (y : Int) = (p : Int) := by rw [hp]; simp
      obtain ⟨q, hq⟩ : ∃ q, q = p + z := ⟨_, rfl⟩
      obtain ⟨t, ht⟩ : ∃ t, t = c + q := ⟨_, rfl⟩
      obtain ⟨lo, hlo⟩ : ∃ lo, lo = t % 4294967296 := ⟨_, rfl⟩
      obtain ⟨h_, hhi⟩ : ∃ h_, h_ = t / 4294967296 := ⟨_, rfl⟩
      have HN := Lib.hid (HM.out.step hy hz hx4 hy4 hz4 (t := t) (by rw [ht, hq, hp]))
      rw [← hlo, ← hhi] at HN
      have g1 : IntKind.u64.wrap ((x : Int) * (y : Int)) = (p : Int) := by rw [hpi]; exact u64_keep (by omega)
      have g2 : IntKind.u64.wrap ((p : Int) + (z : Int)) = (q : Int) := by
        have e : (p : Int) + (z : Int) = (q : Int) := by omega
        rw [e]; exact u64_keep (by omega)
      have g3 : IntKind.u64.wrap ((c : Int) + (q : Int)) = (t : Int) := by
        have e : (c : Int) + (q : Int) = (t : Int) := by omega
        rw [e]; exact u64_keep (by omega)
      have gx : IntKind.u64.wrap (x : Int) = (x : Int) := u64_keep (by omega)
      have gy : IntKind.u64.wrap (y : Int) = (y : Int) := u64_keep (by omega)
      have gz : IntKind.u64.wrap (z : Int) = (z : Int) := u64_keep (by omega)
      have g4 : IntKind.i64.wrap ((i : Int) + (j : Int)) = (i : Int) + (j : Int) := kwrap' (by omega) (by omega)
      have f2 : (t : Int) % 4294967296 = (lo : Int) := by omega
      have f3 : (t : Int) / 4294967296 = (h_ : Int) := by omega
      have hh1 : h_ < 4294967296 := by omega
      have HST := Lib.hid (fun n => World.ownsRow.stored (w := wr.drewN n) (g := w.heap.size) (base := w.heap.size) (e := 184) (size := 1) (n := a.length + b.length) (cap := a.length + b.length) (xs := u32C R) hown (i + j) (.int .u32 (lo : Int)))
      clear ht hlo hhi hy hz hp hpi hq hp4 hx4 hy4 hz4
      go_wp2_with fail
      go_quiet (fail)
      go_wp2_with fail
      exact ⟨⟨j + 1, h_, R.set (i + j) lo, rfl, by go_num, by omega, hh1, HN, by rw [← u32C_set]; exact (HST.out nq).1, (below_drewN HB.out nq).setCell (by simp) _⟩, by simp [intOf]; omega⟩
    · obtain rfl : j = b.length := by omega
      have hfz := hown.frozenAt (i + b.length)
      have hz := hown.cellAt (i + b.length) (by omega)
      rw [u32_at (HM.out.zero _ (Nat.le_refl _) (by omega))] at hz
      have f2 : (c : Int) % 4294967296 = (c : Int) := by omega
      have hst := hown.stored (i + b.length) (.int .u32 (c : Int))
      rw [u32C_set] at hst
      have HST := Lib.hid hst
      have HN := Lib.hid (HM.out.outer HXO.out (by omega))
      clear hst
      go_wp2_with fail
      exact ⟨⟨i + 1, R.set (i + b.length) c, by go_num, by omega, HN, HST.out.1, HB.out.setCell (by simp) _⟩, by simp [intOf]; omega⟩
  · obtain rfl : i = a.length := by omega
    have HF : Hid (valW R = valW a * valW b) := by
      have := HT.out.val
      rw [List.take_length] at this; exact this
    have HLN := Lib.hid HT.out.len
    have HOK : Hid (okW R) := HT.out.ok
    have HO := Lib.hid hown
    clear hown
    go_wp2_with fail
    obtain ⟨A9, c9, hv9, _, _, hr9⟩ := Reads.of_own HO.out
    injection hv9 with hv9 _ hv9c
    subst hv9 hv9c
    refine (trim_any R HOK _ _ (a.length + b.length) (a.length + b.length) HLN.out (Nat.le_refl _) (by omega) _ hr9).mono ?_
    rintro e w9 ⟨rfl, rfl⟩
    have hrw := reads_wd HOK.out HLN.out hr9
    have hwl := (wd_take HOK.out).1
    rw [HLN.out] at hwl
    rw [HF.out] at hrw hwl ⊢
    go_wp2_with fail
    go_ret
    exact ⟨_, _, rfl, hwl, hrw.more fun k hk => own_lt HO.out hk, HB.out⟩
end Go.Proofs.YtfaihilehdjfjaaDoor
