/- Contracts: package bytes, numbers. -/
import Derived.Test.YtoolpppbbphbjaaBytes0
import Derived.WalkLawsBesides
import Derived.WalkSpells
import Derived.BigQuiet
import Derived.Deep.QuietTactic
import Derived.Deep.RegionHeld3
import Derived.Lib.Hide
import Derived.LoopTactic
namespace Go.Proofs.Ytoolpppbbphbjaa
open Go.ChangeShapes Go.WideShapes Go.ChangeAt Go.RowKit

def loB (n : Nat) : UInt8 := UInt8.ofNat (n % 128 + 128)
theorem loB_toNat (n : Nat) : (loB n).toNat = n % 128 + 128 := ofNat_toNat (by omega)

/-- where the loop of Put stands -/
def PutAt (n f cur : Nat) (pre : List UInt8) : Prop := cur < 128 ^ (f + 1) ∧ cur < 2 ^ 64 ∧ putN n = pre ++ putF f cur ∧ pre.length + f ≤ 9
theorem PutAt.start {n : Nat} (h : n < 2 ^ 64) : PutAt n 9 n [] := ⟨by omega, h, rfl, by simp⟩
theorem PutAt.last {n f cur : Nat} {pre : List UInt8} (h : PutAt n f cur pre) (hc : cur < 128) : putN n = pre ++ [UInt8.ofNat cur] := by rw [h.2.2.1, putF_small hc]
theorem PutAt.step {n f cur : Nat} {pre : List UInt8} (h : PutAt n f cur pre) (hc : ¬ cur < 128) : ∃ f', PutAt n f' (cur / 128) (pre ++ [loB cur]) := by
  obtain ⟨h1, h2, h3, h4⟩ := h
  obtain _ | f := f
  · simp at h1; omega
  · refine ⟨f, ?_, by omega, by rw [h3, putF_big hc, List.append_assoc]; rfl, by simp; omega⟩
    rw [Nat.pow_succ] at h1
    exact Nat.div_lt_of_lt_mul (by rw [Nat.mul_comm]; exact h1)
theorem PutAt.len {n f cur : Nat} {pre : List UInt8} (h : PutAt n f cur pre) : pre.length ≤ 9 := by have := h.2.2.2; omega
theorem PutAt.lt {n f cur : Nat} {pre : List UInt8} (h : PutAt n f cur pre) : cur < 2 ^ 64 := h.2.1

set_option maxHeartbeats 1000000 in
theorem put_any (n : Nat) (hn : Hid (n < 2 ^ 64)) (w : World) :
    Calls Try.prog 19 #[.int .u64 n] w fun e w' => ∃ v, e = .returned v ∧ w'.ownsRow w.heap.size 5 1 v (putN n).length (bytesC (putN n)) ∧ Below w.heap.size w w' := by
  obtain ⟨i0, hi, hz0, hz1, hz2⟩ := info_parts infoByte
  go_enter Try.func19, Try.ntmps19
  go_wp2
  go_loopw [0, 2] (fun s0 v wr => ∃ (f cur : Nat) (pre : List UInt8), s0 = .int .u64 cur ∧ PutAt n f cur pre ∧
      wr.ownsRow w.heap.size 5 1 v pre.length (bytesC pre) ∧ Below w.heap.size w wr) (fun s0 _ _ => (intOf s0).toNat)
  case atStart => exact ⟨9, n, [], rfl, PutAt.start hn.out, own_nil _ _ _ _, Below.refl _ _⟩
  case round =>
    obtain ⟨f, cur, pre, rfl, hpa, hown, hb⟩ := hrel
    have hlen := hpa.len
    by_cases hlt : cur < 128
    · have hd : decide ((128 : Int) ≤ (cur : Int)) = false := by simp; omega
      go_wp2_with (at_builtin; refine wpList_append_any _ rfl (.tmp 13) (.tmp 16) _ rfl w.heap.size 5 i0 _ 1 1 Try.underlying26 hi hz0 hz1 hz2 rfl (by omega) u2 pre.length (bytesC pre) rfl (hown.alloc _) (fun k => k = wr.heap.size) (some ⟨wr.heap.size, 0, none⟩) 1 1 (bytesC [UInt8.ofNat cur]) rfl ?c1 (bytesC_one _) ?c2 ?c3 ?c4 ?_)
      case c1 => exact reads_new _ _ _ _ (by rw [ofNat_toNat (by omega)]) _ rfl
      case c2 => simp only [maxLen]; omega
      case c3 => omega
      case c4 => have := hb.size; simp; omega
      intro v1 w1 hown1 hg1 hat1
      have hb1 : Below w.heap.size w w1 := (hb.alloc hb.size _).grown hg1 (by have := hb.size; simp; omega) (fun g hg => (own_lt hown hg).1)
      go_wp2
      go_ret
      exact ⟨_, rfl, by rw [hpa.last hlt, List.length_append, bytesC_append]; exact hown1, hb1⟩
    · have hd : decide ((128 : Int) ≤ (cur : Int)) = true := by simp; omega
      have ho := or_128 cur
      go_wp2_with (at_builtin; refine wpList_append_any _ rfl (.tmp 5) (.tmp 9) _ rfl w.heap.size 5 i0 _ 1 1 Try.underlying26 hi hz0 hz1 hz2 rfl (by omega) u2 pre.length (bytesC pre) rfl (hown.alloc _) (fun k => k = wr.heap.size) (some ⟨wr.heap.size, 0, none⟩) 1 1 (bytesC [loB cur]) rfl ?c1 (bytesC_one _) ?c2 ?c3 ?c4 ?_)
      case c1 => exact reads_new _ _ _ _ (by rw [loB_toNat]; omega) _ rfl
      case c2 => simp only [maxLen]; omega
      case c3 => omega
      case c4 => have := hb.size; simp; omega
      intro v1 w1 hown1 hg1 hat1
      have hb1 : Below w.heap.size w w1 := (hb.alloc hb.size _).grown hg1 (by have := hb.size; simp; omega) (fun g hg => (own_lt hown hg).1)
      go_wp2
      obtain ⟨f', hp'⟩ := hpa.step hlt
      exact ⟨⟨f', cur / 128, pre ++ [loB cur], by simp, hp', by rw [List.length_append, bytesC_append]; exact hown1, hb1⟩, by simp [intOf]; omega⟩

def getV : Option (Nat × Nat) → Value
  | some (m, k) => .tuple #[.int .u64 m, .int .i64 k, .nilIface]
  | none => .tuple #[.int .u64 0, .int .i64 0, .iface 56 (.int .i64 9)]

theorem and_127_fin : ∀ c : Fin 256, bits .and .u8 ((c.val : Nat) : Int) 127 = ((c.val % 128 : Nat) : Int) := by decide +kernel
theorem and_127 (c : Nat) (h : c < 256) : bits .and .u8 (c : Int) 127 = ((c % 128 : Nat) : Int) := and_127_fin ⟨c, h⟩
theorem u64_keep {m : Nat} (h : m < 18446744073709551616) : IntKind.u64.wrap (m : Int) = (m : Int) := by
  simp [IntKind.wrap, IntKind.bits, IntKind.signed]; omega

/-- where the loop of Get stands -/
def GetAt (l : List UInt8) (k acc : Nat) : Prop := getN l = getG k acc (l.drop k) ∧ acc < 2 ^ (7 * k) ∧ k ≤ 10
theorem GetAt.start (l : List UInt8) : GetAt l 0 0 := ⟨rfl, by simp, by omega⟩
section
variable {l : List UInt8} {k acc cc m p q : Nat}
theorem GetAt.le (h : GetAt l k acc) : k ≤ 10 := h.2.2
theorem GetAt.open_ (h : GetAt l k acc) (hlt : k < l.length) (hcc : l[k].toNat = cc) : getN l = if k = 9 ∧ 1 < cc ∨ 9 < k then none
    else if cc < 128 then (if cc = 0 ∧ 0 < k then none else some (acc + cc % 128 * 2 ^ (7 * k), k + 1))
    else getG (k + 1) (acc + cc % 128 * 2 ^ (7 * k)) (l.drop (k + 1)) := by
  rw [h.1, List.drop_eq_getElem_cons hlt]
  simp only [getG, hcc]
theorem GetAt.bad (h : GetAt l k acc) (hlt : k < l.length) (hcc : l[k].toNat = cc) (hb : k = 9 ∧ 1 < cc ∨ 9 < k) : getN l = none := by
  rw [h.open_ hlt hcc, if_pos hb]
theorem GetAt.fin (h : GetAt l k acc) (hlt : ¬ k < l.length) : getN l = none := by
  rw [h.1, List.drop_eq_nil_of_le (by omega)]
  rfl
theorem GetAt.zero (h : GetAt l k acc) (hlt : k < l.length) (hcc : l[k].toNat = cc) (hz : cc = 0) (hk : 0 < k) (hb : ¬ (k = 9 ∧ 1 < cc ∨ 9 < k)) : getN l = none := by
  rw [h.open_ hlt hcc, if_neg hb, if_pos (by omega), if_pos ⟨hz, hk⟩]
theorem GetAt.last (h : GetAt l k acc) (hlt : k < l.length) (hcc : l[k].toNat = cc) (h128 : cc < 128) (hb : ¬ (k = 9 ∧ 1 < cc ∨ 9 < k)) (hz : ¬ (cc = 0 ∧ 0 < k))
    (hm : Hid (m = cc % 128)) (hp : Hid (p = m * 2 ^ (7 * k))) (hq : Hid (q = acc + p)) : getN l = some (q, k + 1) := by
  rw [h.open_ hlt hcc, if_neg hb, if_pos h128, if_neg hz, hq.out, hp.out, hm.out]
theorem GetAt.bd (h : GetAt l k acc) (hp : p = m * 2 ^ (7 * k)) (hm : m < 128) (h9 : k < 9 ∨ k = 9 ∧ m ≤ 1) : p < 2 ^ 64 ∧ acc < 2 ^ 64 ∧ p % 2 ^ (7 * k) = 0 := by
  have h1 := h.2.1
  subst hp
  have hmod : m * 2 ^ (7 * k) % 2 ^ (7 * k) = 0 := Nat.mul_mod_left _ _
  rcases h9 with h9 | ⟨h9, hm1⟩
  · have hb : m * 2 ^ (7 * k) ≤ 127 * 2 ^ (7 * k) := Nat.mul_le_mul_right _ (by omega)
    have hk : 2 ^ (7 * k) ≤ 2 ^ 56 := Nat.pow_le_pow_right (by omega) (by omega)
    exact ⟨by omega, by omega, hmod⟩
  · subst h9
    have hb : m * 2 ^ (7 * 9) ≤ 1 * 2 ^ (7 * 9) := Nat.mul_le_mul_right _ hm1
    exact ⟨by omega, by omega, hmod⟩
theorem GetAt.e3 (h : GetAt l k acc) (hp : p = m * 2 ^ (7 * k)) (hm : m < 128) (h9 : k < 9 ∨ k = 9 ∧ m ≤ 1) : IntKind.u64.wrap ((m : Int) * 2 ^ (7 * k)) = (p : Int) := by
  have hb := h.bd hp hm h9
  rw [show ((m : Int) * 2 ^ (7 * k)) = (p : Int) by rw [hp]; simp]
  exact u64_keep (by omega)
theorem GetAt.e4 (h : GetAt l k acc) (hp : p = m * 2 ^ (7 * k)) (hq : q = acc + p) (hm : m < 128) (h9 : k < 9 ∨ k = 9 ∧ m ≤ 1) : bits .or .u64 (acc : Int) (p : Int) = (q : Int) := by
  have hb := h.bd hp hm h9
  rw [u64_or_nat _ _ (by omega) (by omega), hq, Nat.or_comm, nat_join (7 * k) p acc hb.2.2 h.2.1, Nat.add_comm]
theorem GetAt.step (h : GetAt l k acc) (hlt : k < l.length) (hcc : l[k].toNat = cc) (h128 : ¬ cc < 128) (hb : ¬ (k = 9 ∧ 1 < cc ∨ 9 < k))
    (hm : Hid (m = cc % 128)) (hp : Hid (p = m * 2 ^ (7 * k))) (hq : Hid (q = acc + p)) : GetAt l (k + 1) q := by
  have h1 := h.2.1
  refine ⟨?_, ?_, by omega⟩
  · rw [h.open_ hlt hcc, if_neg hb, if_neg h128, hq.out, hp.out, hm.out]
  · have hp2 : 2 ^ (7 * (k + 1)) = 128 * 2 ^ (7 * k) := by rw [Nat.mul_add, Nat.pow_add]; omega
    have hle : m * 2 ^ (7 * k) ≤ 127 * 2 ^ (7 * k) := Nat.mul_le_mul_right _ (by have := hm.out; omega)
    have := hp.out; have := hq.out
    omega
end

set_option maxHeartbeats 2000000 in
theorem get_any (l : List UInt8) (D : Nat → Prop) (A : Option Addr) (c : Nat) (w : World) (hr : Reads D w 1 A l.length (bytesC l)) (hl : l.length ≤ maxLen) :
    Calls Try.prog 20 #[.slice A l.length c] w fun e w' => e = .returned (getV (getN l)) ∧ w = w' := by
  unfold maxLen at hl
  have HR := Lib.hid hr
  clear hr
  go_enter Try.func20, Try.ntmps20
  go_wp2
  go_loop [5, 6, 7, 10] (fun s5 _ _ i => ∃ k acc : Nat, k ≤ l.length ∧ i = .int .i64 k ∧ s5 = .int .u64 acc ∧ GetAt l k acc) (fun _ _ _ i => l.length - (intOf i).toNat)
  case atStart => exact ⟨0, 0, by omega, rfl, rfl, GetAt.start l⟩
  case round =>
    obtain ⟨k, acc, hk, rfl, rfl, hga⟩ := hrel
    by_cases hlt : k < l.length
    · obtain ⟨b, off, rfl, hD, hcell⟩ := HR.out.at_ (by omega) (by omega)
      have hc := hcell k (.int .u8 (l[k].toNat : Int)) (by simp [bytesC, hlt])
      have hc2 : l[k].toNat < 256 := l[k].toNat_lt
      have HC := Lib.hid hcell
      have HR2 := HR.out
      clear hcell HR
      have HR := Lib.hid HR2
      clear HR2
      obtain ⟨cc, hcc⟩ : ∃ cc, l[k].toNat = cc := ⟨_, rfl⟩
      rw [hcc] at hc hc2
      have hk10 := hga.le
      by_cases h10 : k = 10
      · have hk9 : ((k : Int) == 9) = false := by simp; omega
        have hd9 : decide ((9 : Int) < (k : Int)) = true := by simp; omega
        have HF := Lib.hid (hga.bad hlt hcc (by omega))
        clear h10
        go_wp2_with fail
        go_ret3
        exact ⟨by rw [HF.out]; simp [getV], rfl⟩
      · by_cases h9 : k = 9
        · have hk9 : ((k : Int) == 9) = true := by simp; omega
          have hd9 : decide ((9 : Int) < (k : Int)) = false := by simp; omega
          by_cases hb1 : 1 < cc
          · have hd1 : decide ((1 : Int) < (cc : Int)) = true := by simp; omega
            have HF := Lib.hid (hga.bad hlt hcc (by omega))
            clear h9 h10
            go_wp2_with fail
            go_ret3
            exact ⟨by rw [HF.out]; simp [getV], rfl⟩
          · have hd1 : decide ((1 : Int) < (cc : Int)) = false := by simp; omega
            have hbad : ¬ (k = 9 ∧ 1 < cc ∨ 9 < k) := by omega
            have H910 := Lib.hid h9
            clear h9 h10
            by_cases hz : cc = 0
            · subst hz
              have e1 : bits .and .u8 0 127 = 0 := and_127_fin ⟨0, by omega⟩
              have e2 : IntKind.u64.wrap 0 = 0 := u64_keep (m := 0) (by omega)
              have e4 : bits .or .u64 (acc : Int) 0 = (acc : Int) := hga.e4 (m := 0) (p := 0) (by simp) rfl (by omega) (by have := H910.out; omega)
              have h9 := H910.out
              have hkp : 0 < k := by omega
              have hdk : decide ((0 : Int) < (k : Int)) = true := by simp; omega
              have HF := Lib.hid (hga.zero hlt hcc rfl (by omega) hbad)
              clear h9
              go_wp2_with fail
              go_ret3
              exact ⟨by rw [HF.out]; simp [getV], rfl⟩
            · obtain ⟨m, hm⟩ : ∃ m, m = cc % 128 := ⟨_, rfl⟩
              obtain ⟨p, hp⟩ : ∃ p, p = m * 2 ^ (7 * k) := ⟨_, rfl⟩
              obtain ⟨q, hq⟩ : ∃ q, q = acc + p := ⟨_, rfl⟩
              have h9 := H910.out
              have e1 : bits .and .u8 (cc : Int) 127 = (m : Int) := by rw [hm]; exact and_127 cc hc2
              have e2 : IntKind.u64.wrap (m : Int) = (m : Int) := u64_keep (by omega)
              have e3 : (m : Int) * 2 ^ (7 * k) = (p : Int) := by rw [hp]; simp
              have e3b : IntKind.u64.wrap (p : Int) = (p : Int) := by rw [← e3]; exact (hga.e3 hp (by omega) (by right; omega)).trans e3.symm
              have e4 : bits .or .u64 (acc : Int) (p : Int) = (q : Int) := hga.e4 hp hq (by omega) (by right; omega)
              clear h9
              have Hm := Lib.hid hm
              have Hp := Lib.hid hp
              have Hq := Lib.hid hq
              clear hm hp hq
              have hz0 : ((cc : Int) == 0) = false := by simp; omega
              by_cases h128 : cc < 128
              · have hd128 : decide ((cc : Int) < 128) = true := by simp; omega
                have HF := Lib.hid (hga.last hlt hcc h128 hbad (by omega) Hm Hp Hq)
                clear hz
                go_wp2_with fail
                go_ret3
                exact ⟨by rw [HF.out]; simp [getV], rfl⟩
              · have hd128 : decide ((cc : Int) < 128) = false := by simp; omega
                have HF := Lib.hid (hga.step hlt hcc h128 hbad Hm Hp Hq)
                clear hz
                go_wp2_with fail
                go_round
                case rel => exact ⟨k + 1, q, by omega, by go_num, rfl, HF.out⟩
                case measure => simp [intOf]; omega
        · have hk9 : ((k : Int) == 9) = false := by simp; omega
          have hd9 : decide ((9 : Int) < (k : Int)) = false := by simp; omega
          have h9 : k < 9 := by omega
          have hbad : ¬ (k = 9 ∧ 1 < cc ∨ 9 < k) := by omega
          have H910 := Lib.hid h9
          clear h9 h10
          by_cases hz : cc = 0
          · subst hz
            have e1 : bits .and .u8 0 127 = 0 := and_127_fin ⟨0, by omega⟩
            have e2 : IntKind.u64.wrap 0 = 0 := u64_keep (m := 0) (by omega)
            have e4 : bits .or .u64 (acc : Int) 0 = (acc : Int) := hga.e4 (m := 0) (p := 0) (by simp) rfl (by omega) (by have := H910.out; omega)
            by_cases hk0 : k = 0
            · have HF := Lib.hid (hga.last (m := 0) (p := 0) (q := acc) hlt hcc (by omega) hbad (by omega) (Lib.hid rfl) (Lib.hid (by simp)) (Lib.hid rfl))
              have hkl : k ≤ 0 := by omega
              clear hk0
              go_wp2_with fail
              go_ret3
              exact ⟨by rw [HF.out]; simp [getV], rfl⟩
            · have hdk : decide ((0 : Int) < (k : Int)) = true := by simp; omega
              have HF := Lib.hid (hga.zero hlt hcc rfl (by omega) hbad)
              have hkp : 0 < k := by omega
              clear hk0
              go_wp2_with fail
              go_ret3
              exact ⟨by rw [HF.out]; simp [getV], rfl⟩
          · obtain ⟨m, hm⟩ : ∃ m, m = cc % 128 := ⟨_, rfl⟩
            obtain ⟨p, hp⟩ : ∃ p, p = m * 2 ^ (7 * k) := ⟨_, rfl⟩
            obtain ⟨q, hq⟩ : ∃ q, q = acc + p := ⟨_, rfl⟩
            have h9 := H910.out
            have e1 : bits .and .u8 (cc : Int) 127 = (m : Int) := by rw [hm]; exact and_127 cc hc2
            have e2 : IntKind.u64.wrap (m : Int) = (m : Int) := u64_keep (by omega)
            have e3 : (m : Int) * 2 ^ (7 * k) = (p : Int) := by rw [hp]; simp
            have e3b : IntKind.u64.wrap (p : Int) = (p : Int) := by rw [← e3]; exact (hga.e3 hp (by omega) (by left; omega)).trans e3.symm
            have e4 : bits .or .u64 (acc : Int) (p : Int) = (q : Int) := hga.e4 hp hq (by omega) (by left; omega)
            clear h9
            have Hm := Lib.hid hm
            have Hp := Lib.hid hp
            have Hq := Lib.hid hq
            clear hm hp hq
            have hz0 : ((cc : Int) == 0) = false := by simp; omega
            by_cases h128 : cc < 128
            · have hd128 : decide ((cc : Int) < 128) = true := by simp; omega
              have HF := Lib.hid (hga.last hlt hcc h128 hbad (by omega) Hm Hp Hq)
              clear hz
              go_wp2_with fail
              go_ret3
              exact ⟨by rw [HF.out]; simp [getV], rfl⟩
            · have hd128 : decide ((cc : Int) < 128) = false := by simp; omega
              have HF := Lib.hid (hga.step hlt hcc h128 hbad Hm Hp Hq)
              clear hz
              go_wp2_with fail
              go_round
              case rel => exact ⟨k + 1, q, by omega, by go_num, rfl, HF.out⟩
              case measure => simp [intOf]; omega
    · have HF := Lib.hid (hga.fin hlt)
      go_wp2_with fail
      go_ret3
      exact ⟨by rw [HF.out]; simp [getV], rfl⟩
end Go.Proofs.Ytoolpppbbphbjaa
