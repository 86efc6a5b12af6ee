/- The document's answer: Get, GetSigned. -/
import Derived.Test.YtfaihilehdjfjaaDoorBig5C
import Derived.Test.YtfaihilehdjfjaaDoorBytes2
namespace Go.Proofs.YtfaihilehdjfjaaDoor
open Go.ChangeShapes Go.WideShapes Go.ChangeAt Go.RowKit

theorem wd_small {n : Nat} (h : n < 2 ^ 96) : (wd n).length ≤ 1000000 := by
  have := wd_len (n := n) (k := 3) (by omega)
  omega
/-- the two numbers that the loop of Get keeps -/
structure GM (w : World) (acc p : Nat) (wr : World) : Prop where
  x : IsInt wr w.heap.size acc (fun k => w.heap.size + 1 < k ∧ k < wr.heap.size)
  b : IsInt wr (w.heap.size + 1) p (fun k => w.heap.size + 1 < k ∧ k < wr.heap.size)
  bel : Below w.heap.size w wr
/-- .. and a third one -/
structure GD (w : World) (acc p H d : Nat) (wr : World) : Prop where
  x : IsInt wr w.heap.size acc (fun k => w.heap.size + 1 < k ∧ k < H)
  b : IsInt wr (w.heap.size + 1) p (fun k => w.heap.size + 1 < k ∧ k < H)
  d : IsInt wr H d (fun k => H < k ∧ k < wr.heap.size)
  bel : Below w.heap.size w wr
  lo : w.heap.size + 1 < H
theorem IsInt.blk {w : World} {z n : Nat} {D : Nat → Prop} (h : IsInt w z n D) : ∃ u v, Blk w z 188 #[u, v] := by
  obtain ⟨A, c, h1, _⟩ := h
  exact ⟨_, _, h1⟩
theorem gm_new {w wr : World} {acc p : Nat} (h : GM w acc p wr) (n : Nat) (hn : n < 9223372036854775808) :
    Calls Tryd.prog 122 #[.int .i64 n] wr fun e w' => e = .returned (.pointer (some ⟨wr.heap.size, 0, none⟩)) ∧ GD w acc p wr.heap.size n w' := by
  refine (newInt_any n hn wr).mono ?_
  rintro e w' ⟨rfl, hi, hb⟩
  have hlb := h.b.lt
  have hlx := h.x.lt
  refine ⟨rfl, h.x.keep fun k hk => hb.block k ?_, h.b.keep fun k hk => hb.block k ?_, hi, h.bel.trans (hb.mono (by omega)), hlb⟩
  · rcases hk with rfl | hk
    · exact hlx
    · exact hk.2
  · rcases hk with rfl | hk
    · exact hlb
    · exact hk.2
theorem gd_mul {w wr : World} {acc p H d : Nat} (h : GD w acc p H d wr) (hp : p < 2 ^ 96) (hd : d < 2 ^ 96) :
    Calls Tryd.prog 144 #[.pointer (some ⟨H, 0, none⟩), .pointer (some ⟨H, 0, none⟩), .pointer (some ⟨w.heap.size + 1, 0, none⟩)] wr fun e w' => e = .returned (.pointer (some ⟨H, 0, none⟩)) ∧ GD w acc p H (d * p) w' := by
  obtain ⟨u, v, hz⟩ := h.d.blk
  have hlo := h.lo
  have hlt := hz.lt
  refine (mulM_any H H (w.heap.size + 1) d p (fun k => w.heap.size + 1 < k ∧ k < wr.heap.size) u v wr (h.d.more fun k hk => ⟨by omega, hk.2⟩) (h.b.more fun k hk => ⟨hk.1, by omega⟩) hz (fun k hk => hk.2) (wd_small hd) (wd_small hp)).mono ?_
  rintro e w' ⟨rfl, hi, hc⟩
  refine ⟨rfl, h.x.keep (hc.keeps fun k hk => ?_), h.b.keep (hc.keeps fun k hk => ?_), hi.more fun k hk => ⟨by omega, hk.2⟩, h.bel.trans (hc.below h.bel.size fun k hk => by omega), hlo⟩
  · rcases hk with rfl | hk <;> omega
  · rcases hk with rfl | hk <;> omega
theorem gd_add {w wr : World} {acc p H d : Nat} (h : GD w acc p H d wr) (ha : acc < 2 ^ 96) (hd : d < 2 ^ 96) :
    Calls Tryd.prog 145 #[.pointer (some ⟨w.heap.size, 0, none⟩), .pointer (some ⟨w.heap.size, 0, none⟩), .pointer (some ⟨H, 0, none⟩)] wr fun e w' => e = .returned (.pointer (some ⟨w.heap.size, 0, none⟩)) ∧ GM w (acc + d) p w' := by
  obtain ⟨u, v, hz⟩ := h.x.blk
  have hlo := h.lo
  have hlt := h.d.lt
  refine (addM_any w.heap.size w.heap.size H acc d (fun k => w.heap.size + 1 < k ∧ k < wr.heap.size) u v wr (h.x.more fun k hk => ⟨hk.1, by omega⟩) (h.d.more fun k hk => ⟨by omega, hk.2⟩) hz (fun k hk => hk.2) (wd_small ha) (wd_small hd)).mono ?_
  rintro e w' ⟨rfl, hi, hc⟩
  have hs := hc.size
  refine ⟨rfl, hi.more fun k hk => ⟨by omega, hk.2⟩, (h.b.keep (hc.keeps fun k hk => ?_)).more fun k hk => ⟨hk.1, by omega⟩, h.bel.trans (hc.below h.bel.size fun k hk => by omega)⟩
  rcases hk with rfl | hk <;> omega
theorem gd_mulb {w wr : World} {acc p H d : Nat} (h : GD w acc p H d wr) (hp : p < 2 ^ 96) (hd : d < 2 ^ 96) :
    Calls Tryd.prog 144 #[.pointer (some ⟨w.heap.size + 1, 0, none⟩), .pointer (some ⟨w.heap.size + 1, 0, none⟩), .pointer (some ⟨H, 0, none⟩)] wr fun e w' => e = .returned (.pointer (some ⟨w.heap.size + 1, 0, none⟩)) ∧ GM w acc (p * d) w' := by
  obtain ⟨u, v, hz⟩ := h.b.blk
  have hlo := h.lo
  have hlt := h.d.lt
  refine (mulM_any (w.heap.size + 1) (w.heap.size + 1) H p d (fun k => w.heap.size + 1 < k ∧ k < wr.heap.size) u v wr (h.b.more fun k hk => ⟨hk.1, by omega⟩) (h.d.more fun k hk => ⟨by omega, hk.2⟩) hz (fun k hk => hk.2) (wd_small hp) (wd_small hd)).mono ?_
  rintro e w' ⟨rfl, hi, hc⟩
  have hs := hc.size
  refine ⟨rfl, (h.x.keep (hc.keeps fun k hk => ?_)).more fun k hk => ⟨hk.1, by omega⟩, hi.more fun k hk => ⟨by omega, hk.2⟩, h.bel.trans (hc.below h.bel.size fun k hk => by omega)⟩
  rcases hk with rfl | hk <;> omega

def getRV : Option (Nat × Nat) → Value
  | some (m, k) => .tuple #[.int .u64 m, .int .i64 k]
  | none => .tuple #[.int .u64 0, .int .i64 0]
/-- where the loop of the document's Get stands -/
def GR (l : List UInt8) (k acc : Nat) : Prop := acc < 2 ^ 70 ∧ (k ≤ 9 ∧ GetAt l k acc ∨ k = 10 ∧ getN l = none)
theorem GR.none_ {l : List UInt8} {k acc : Nat} (h : GR l k acc) (hk : ¬ (k < l.length ∧ k < 10)) : getN l = none := by
  rcases h.2 with ⟨h1, h2⟩ | h2
  · exact h2.fin (by omega)
  · exact h2.2
theorem GR.at_ {l : List UInt8} {k acc : Nat} (h : GR l k acc) (hk : k < 10) : GetAt l k acc := by
  rcases h.2 with h2 | h2
  · exact h2.2
  · omega
theorem GR.acc_lt {l : List UInt8} {k acc : Nat} (h : GR l k acc) : acc < 2 ^ 70 := h.1
theorem pow_128 (k : Nat) : 2 ^ (7 * k) * 128 = 2 ^ (7 * (k + 1)) := by rw [Nat.mul_add, Nat.pow_add]
theorem pow_le70 {k : Nat} (hk : k < 10) : 2 ^ (7 * k) ≤ 2 ^ 63 := Nat.pow_le_pow_right (by omega) (by omega)
theorem GR.next {l : List UInt8} {k acc cc : Nat} (h : GR l k acc) (hk : k < 10) (hlt : k < l.length) (hcc : l[k].toNat = cc) (h128 : ¬ cc < 128) (hc : cc < 256) : GR l (k + 1) (acc + cc % 128 * 2 ^ (7 * k)) := by
  have hA := h.at_ hk
  have h1 := hA.2.1
  have h2 := pow_le70 hk
  have h3 : cc % 128 * 2 ^ (7 * k) ≤ 127 * 2 ^ (7 * k) := Nat.mul_le_mul_right _ (by omega)
  refine ⟨by omega, ?_⟩
  by_cases h9 : k = 9
  · exact .inr ⟨by omega, hA.bad hlt hcc (by omega)⟩
  · exact .inl ⟨by omega, hA.step hlt hcc h128 (by omega) rfl rfl rfl⟩
theorem GR.big {l : List UInt8} {k acc cc : Nat} (h : GR l k acc) (hk : k < 10) (hlt : k < l.length) (hcc : l[k].toNat = cc) (h128 : cc < 128) (hq : ¬ acc + cc % 128 * 2 ^ (7 * k) < 18446744073709551616) : getN l = none := by
  have hA := h.at_ hk
  have h1 := hA.2.1
  refine hA.bad hlt hcc ?_
  by_cases h9 : k = 9
  · subst h9; refine .inl ⟨rfl, ?_⟩; omega
  · have h4 : 2 ^ (7 * k) ≤ 2 ^ 56 := Nat.pow_le_pow_right (by omega) (by omega)
    have h3 : cc % 128 * 2 ^ (7 * k) ≤ 127 * 2 ^ (7 * k) := Nat.mul_le_mul_right _ (by omega)
    omega
theorem GR.end_ {l : List UInt8} {k acc cc : Nat} (h : GR l k acc) (hk : k < 10) (hlt : k < l.length) (hcc : l[k].toNat = cc) (h128 : cc < 128) (hz : ¬ (cc = 0 ∧ 0 < k)) (hq : acc + cc % 128 * 2 ^ (7 * k) < 18446744073709551616) : getN l = some (acc + cc % 128 * 2 ^ (7 * k), k + 1) := by
  have hA := h.at_ hk
  refine hA.last hlt hcc h128 ?_ hz rfl rfl rfl
  rintro (⟨h9, h1⟩ | h9)
  · subst h9; omega
  · omega

set_option maxRecDepth 20000 in
set_option maxHeartbeats 4000000 in
theorem getR_any (l : List UInt8) (D : Nat → Prop) (A : Option Addr) (n c : Nat) (hn : l.length = n) (hl : n ≤ 9223372036854775807) (w : World) (hr : Reads D w 1 A n (bytesC l)) (hD : ∀ k, D k → k < w.heap.size) :
    Calls Tryd.prog 113 #[.slice A n c] w fun e w' => e = .returned (getRV (getN l)) ∧ Below w.heap.size w w' := by
  subst hn
  have HR := Lib.hid (hr.more (D' := (· < w.heap.size)) hD)
  clear hr hD
  go_enter Tryd.func113, Tryd.ntmps113
  go_wp2_with fail
  have hx0 : IsInt (w.alloc (.cells #[.bool false, .slice none 0 0] 188)) w.heap.size 0 (fun k => w.heap.size + 1 < k ∧ k < w.heap.size + 1) := ⟨none, 0, by rw [wd_zero]; exact Blk.new _ _ _, by rw [wd_zero]; exact Nat.le_refl _, by rw [wd_zero]; exact Reads.none_⟩
  refine (newInt_any 1 (by omega) _).mono ?_
  rintro e w1 ⟨rfl, hi1, hb1⟩
  simp only [World.size_alloc] at hi1 hb1 ⊢
  have HG1 : Hid (GM w 0 (2 ^ (7 * 0)) w1) := by
    have hs1 : w.heap.size + 1 ≤ w1.heap.size := by have := hb1.size; simpa using this
    refine ⟨(hx0.keep fun k hk => hb1.block k ?_).more fun k hk => ⟨hk.1, by omega⟩, hi1, ((Below.refl _ w).alloc (Nat.le_refl _) _).trans (hb1.mono (by simp))⟩
    rcases hk with rfl | hk
    · exact Nat.lt_succ_self _
    · omega
  clear hx0 hi1 hb1
  go_wp2_with fail
  go_loopw [6, 7] (fun s6 _ wr => ∃ (k acc : Nat), s6 = .int .i64 k ∧ k ≤ 10 ∧ Hid (GR l k acc) ∧ Hid (GM w acc (2 ^ (7 * k)) wr)) (fun s6 _ _ => 10 - (intOf s6).toNat)
  case atStart => exact ⟨0, 0, rfl, by omega, ⟨by omega, .inl ⟨by omega, GetAt.start l⟩⟩, HG1⟩
  obtain ⟨k, acc, rfl, hk10, HGR, HGM⟩ := hrel
  by_cases hlt : k < l.length
  rotate_left
  focus
    have HF : Hid (getN l = none) := HGR.out.none_ (by omega)
    have HB := Lib.hid HGM.out.bel
    go_wp2_with fail
    go_ret2
    exact ⟨by rw [HF.out]; rfl, HB.out⟩
  by_cases hk : k < 10
  rotate_left
  focus
    have HF : Hid (getN l = none) := HGR.out.none_ (by omega)
    have HB := Lib.hid HGM.out.bel
    go_wp2_with fail
    go_ret2
    exact ⟨by rw [HF.out]; rfl, HB.out⟩
  obtain ⟨cc, hcc⟩ : ∃ cc, l[k].toNat = cc := ⟨_, rfl⟩
  have hc256 : cc < 256 := by rw [← hcc]; exact l[k].toNat_lt
  obtain ⟨b, off, hA, hDb, hcell⟩ := HR.out.at_ (by omega) (by omega)
  have HC : Hid (∀ w', Below w.heap.size w w' → w'.cell? ⟨b, off + k, none⟩ = some (.int .u8 (cc : Int))) := fun w' hb' => (hb'.cell (p := ⟨b, off + k, none⟩) hDb).trans (hcell k _ (by simp [bytesC, List.getElem?_eq_getElem hlt, hcc]))
  have hc1 := HC.out wr HGM.out.bel
  obtain ⟨m, hm⟩ : ∃ m, m = cc % 128 := ⟨_, rfl⟩
  obtain ⟨P, hP⟩ : ∃ P, P = 2 ^ (7 * k) := ⟨_, rfl⟩
  obtain ⟨q, hq⟩ : ∃ q, q = acc + m * P := ⟨_, rfl⟩
  have hm1 : (cc : Int).tmod 128 = (m : Int) := by rw [Int.tmod_eq_emod_of_nonneg (by omega)]; omega
  have hm2 : (cc : Int) % 128 = (m : Int) := by omega
  have hm8 : m < 128 := by omega
  have hP63 := pow_le70 hk
  rw [← hP] at hP63
  have HP96 : Hid (P < 2 ^ 96) := by show _ < _; omega
  have HM96 : Hid (m < 2 ^ 96) := by show _ < _; omega
  have HMP96 : Hid (m * P < 2 ^ 96) := by
    have : m * P ≤ 127 * P := Nat.mul_le_mul_right _ (by omega)
    show _ < _; omega
  have HMP70 : Hid (m * P < 2 ^ 70) := by
    have : m * P ≤ 127 * P := Nat.mul_le_mul_right _ (by omega)
    show _ < _; omega
  have HA96 : Hid (acc < 2 ^ 96) := by have := HGR.out.acc_lt; show _ < _; omega
  rw [← hP] at HGM
  have HQ : Hid (q = acc + cc % 128 * 2 ^ (7 * k)) := by show _ = _; rw [hq, hm, hP]
  have HP2 : Hid (P * 128 = 2 ^ (7 * (k + 1))) := by show _ = _; rw [hP]; exact pow_128 k
  have HQA : Hid (acc + m * P = q) := hq.symm
  have HCC := Lib.hid hcc
  have HLT := Lib.hid hlt
  subst hA
  clear hcell hP63 hm hP hq hcc
  go_wp2_with fail
  refine (gm_new HGM.out m (by omega)).mono ?_
  rintro e w2 ⟨rfl, hg2⟩
  have HG2 := Lib.hid hg2
  clear hg2
  go_wp2_with fail
  refine (gd_mul HG2.out HP96.out HM96.out).mono ?_
  rintro e w3 ⟨rfl, hg3⟩
  have HG3 := Lib.hid hg3
  clear hg3 HG2
  go_wp2_with fail
  refine (gd_add HG3.out HA96.out HMP96.out).mono ?_
  rintro e w4 ⟨rfl, hg4⟩
  rw [HQA.out] at hg4
  have HG4 := Lib.hid hg4
  clear hg4 HG3
  go_wp2_with fail
  refine (gm_new HG4.out 128 (by omega)).mono ?_
  rintro e w5 ⟨rfl, hg5⟩
  have HG5 := Lib.hid hg5
  clear hg5 HG4
  go_wp2_with fail
  refine (gd_mulb HG5.out HP96.out (by omega)).mono ?_
  rintro e w6 ⟨rfl, hg6⟩
  rw [HP2.out] at hg6
  have HG6 := Lib.hid hg6
  have hc6 := HC.out w6 hg6.bel
  clear hg6 HG5 hc1 HGM
  by_cases h128 : cc < 128
  · have d128 : decide ((cc : Int) < 128) = true := by simp; omega
    have HQ96 : Hid ((wd q).length ≤ 1000000) := by
      refine wd_small ?_
      have := HQA.out; have := HMP70.out; have := HGR.out.acc_lt
      omega
    have HU := Lib.hid (isU64_any w.heap.size q _ w6 HG6.out.x HQ96.out)
    have HB6 := Lib.hid HG6.out.bel
    by_cases hz : cc = 0 ∧ 0 < k
    · have HF : Hid (getN l = none) := (HGR.out.at_ hk).zero HLT.out HCC.out hz.1 hz.2 (by omega)
      have z0 : ((cc : Int) == 0) = true := by simp; omega
      have hk0 : 0 < k := hz.2
      clear hz h128
      go_wp2_with fail
      go_ret2
      exact ⟨by rw [HF.out]; rfl, HB6.out⟩
    · by_cases hq64 : q < 18446744073709551616
      · have HF : Hid (getN l = some (q, k + 1)) := by
          have := HGR.out.end_ hk HLT.out HCC.out h128 hz (by rw [← HQ.out]; exact hq64)
          rw [← HQ.out] at this; exact this
        have HV := Lib.hid (u64_any w.heap.size q _ w6 HG6.out.x hq64)
        have dq : decide (q < 18446744073709551616) = true := by simpa using hq64
        rw [dq] at HU
        clear dq hq64
        have hcz : cc = 0 ∧ k = 0 ∨ cc ≠ 0 := by omega
        rcases hcz with hcz | hcz
        · have z0 : ((cc : Int) == 0) = true := by simp; omega
          have z1 : decide ((0 : Int) < (k : Int)) = false := by simp; omega
          have z2 : decide (0 < k) = false := by simp; omega
          have z3 : ¬ 0 < k := by omega
          clear hcz hz h128
          go_wp2_with fail
          refine HU.out.mono ?_
          rintro e w7 ⟨rfl, rfl⟩
          go_wp2_with fail
          refine HV.out.mono ?_
          rintro e w8 ⟨rfl, rfl⟩
          go_wp2_with fail
          go_ret2
          exact ⟨by rw [HF.out]; rfl, HB6.out⟩
        · have z0 : ((cc : Int) == 0) = false := by simp; omega
          clear hcz hz h128
          go_wp2_with fail
          refine HU.out.mono ?_
          rintro e w7 ⟨rfl, rfl⟩
          go_wp2_with fail
          refine HV.out.mono ?_
          rintro e w8 ⟨rfl, rfl⟩
          go_wp2_with fail
          go_ret2
          exact ⟨by rw [HF.out]; rfl, HB6.out⟩
      · have HF : Hid (getN l = none) := HGR.out.big hk HLT.out HCC.out h128 (by rw [← HQ.out]; exact hq64)
        have dq : decide (q < 18446744073709551616) = false := by simpa using hq64
        rw [dq] at HU
        clear dq hq64
        have hcz : cc = 0 ∧ k = 0 ∨ cc ≠ 0 := by omega
        rcases hcz with hcz | hcz
        · have z0 : ((cc : Int) == 0) = true := by simp; omega
          have z1 : decide ((0 : Int) < (k : Int)) = false := by simp; omega
          have z2 : decide (0 < k) = false := by simp; omega
          have z3 : ¬ 0 < k := by omega
          clear hcz hz h128
          go_wp2_with fail
          refine HU.out.mono ?_
          rintro e w7 ⟨rfl, rfl⟩
          go_wp2_with fail
          go_ret2
          exact ⟨by rw [HF.out]; rfl, HB6.out⟩
        · have z0 : ((cc : Int) == 0) = false := by simp; omega
          clear hcz hz h128
          go_wp2_with fail
          refine HU.out.mono ?_
          rintro e w7 ⟨rfl, rfl⟩
          go_wp2_with fail
          go_ret2
          exact ⟨by rw [HF.out]; rfl, HB6.out⟩
  · have d128 : decide ((cc : Int) < 128) = false := by simp; omega
    have HN : Hid (GR l (k + 1) q) := by
      have := HGR.out.next hk HLT.out HCC.out h128 hc256
      rw [← HQ.out] at this; exact this
    go_wp2_with fail
    exact ⟨⟨k + 1, q, by go_num, by omega, HN, HG6⟩, by simp [intOf]; omega⟩
end Go.Proofs.YtfaihilehdjfjaaDoor
