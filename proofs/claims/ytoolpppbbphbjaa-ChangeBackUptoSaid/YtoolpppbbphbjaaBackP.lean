/- Plain: what is written is read, and what is read was written so (no program in sight). -/
import Derived.Test.YtoolpppbbphbjaaDecP
namespace Go.Proofs.Ytoolpppbbphbjaa
open Go.RowKit

/-- the bytes from i to j -/
def Tak (l : List UInt8) (i j : Nat) (bs : List UInt8) : Prop := l.drop i = bs ++ l.drop j ∧ j = i + bs.length
theorem Tak.app {l a b : List UInt8} {i j : Nat} : Tak l i j (a ++ b) ↔ ∃ k, Tak l i k a ∧ Tak l k j b := by
  constructor
  · rintro ⟨h1, h2⟩
    rw [List.append_assoc] at h1
    have h3 : l.drop (i + a.length) = b ++ l.drop j := by rw [← List.drop_drop, h1, List.drop_left]
    rw [List.length_append] at h2
    exact ⟨i + a.length, ⟨by rw [h3]; exact h1, rfl⟩, h3, by omega⟩
  · rintro ⟨k, ⟨h1, h2⟩, h3, h4⟩
    exact ⟨by rw [h1, h3, List.append_assoc], by rw [List.length_append]; omega⟩
theorem Tak.nil {l : List UInt8} {i j : Nat} : Tak l i j [] ↔ j = i := by
  constructor
  · rintro ⟨_, h⟩; simpa using h
  · rintro rfl; exact ⟨rfl, rfl⟩
theorem Tak.len {l a : List UInt8} {i j : Nat} (h : Tak l i j a) (hi : i ≤ l.length) : j ≤ l.length := by
  have := congrArg List.length h.1
  have h2 := h.2
  simp only [List.length_drop, List.length_append] at this
  by_cases h0 : a.length = 0
  · omega
  · omega
theorem num_tak {l : List UInt8} {most i j n : Nat} {b : Bool} (hm : most < 2 ^ 64) : rdNum l most i b = (n, j, false) ↔ b = false ∧ n ≤ most ∧ Tak l i j (putN n) := by
  cases b with
  | true => simp [rdNum]
  | false =>
    simp only [rdNum, Bool.false_eq_true, if_false, true_and]
    constructor
    · intro h
      cases hg : getN (l.drop i) with
      | none => rw [hg] at h; simp at h
      | some x =>
        obtain ⟨m, k⟩ := x
        rw [hg] at h
        simp only at h
        split at h
        · rename_i hm
          simp only [Prod.mk.injEq, and_true] at h
          obtain ⟨rfl, rfl⟩ := h
          have hk := (getN_at hg).2
          have ht := putN_getN hg
          refine ⟨hm, ?_, ?_⟩
          · rw [← ht, ← List.drop_drop, List.take_append_drop]
          · rw [← ht, List.length_take]; omega
        · simp at h
    · rintro ⟨h1, h2, h3⟩
      rw [h2, getN_putN n _ (by omega)]
      simp only [if_pos h1, h3]
theorem int_tak {l : List UInt8} {i j : Nat} {x : Int} {b : Bool} : rdInt l i b = (x, j, false) ↔ b = false ∧ (-9223372036854775808 ≤ x ∧ x ≤ 9223372036854775807) ∧ Tak l i j (putS x) := by
  cases b with
  | true => simp [rdInt]
  | false =>
    constructor
    · intro h
      have hb := rdInt_bd (l := l) (at_ := i) (bad := false)
      rw [h] at hb
      refine ⟨rfl, hb, ?_⟩
      simp only [rdInt, Bool.false_eq_true, if_false] at h
      unfold getS at h
      cases hg : getN (l.drop i) with
      | none => rw [hg] at h; simp at h
      | some y =>
        obtain ⟨m, k⟩ := y
        rw [hg] at h
        simp only [Option.map_some, Prod.mk.injEq, and_true] at h
        obtain ⟨rfl, rfl⟩ := h
        have hk := (getN_at hg).2
        have ht := putN_getN hg
        rw [putS, zz_unzz]
        refine ⟨?_, ?_⟩
        · rw [← ht, ← List.drop_drop, List.take_append_drop]
        · rw [← ht, List.length_take]; omega
    · rintro ⟨_, hb, h2, h3⟩
      simp only [rdInt, Bool.false_eq_true, if_false, getS]
      rw [h2, putS, getN_putN _ _ (zz_lt hb)]
      simp only [Option.map_some, unzz_zz]
      rw [h3, putS]
theorem text_tak {l t : List UInt8} {most i j : Nat} {b : Bool} (hm : most < 2 ^ 64) : rdText l most i b = (t, j, false) ↔ b = false ∧ t.length ≤ most ∧ Tak l i j (putN t.length ++ t) := by
  obtain ⟨n, a, b', hn⟩ : ∃ n a b', rdNum l most i b = (n, a, b') := ⟨_, _, _, rfl⟩
  constructor
  · intro h
    by_cases hc : b' = true ∨ l.length - a < n
    · rw [rdText_no hn hc] at h; simp at h
    · have hb : b' = false := by cases b' <;> simp_all
      subst hb
      rw [rdText_ok hn (by omega)] at h
      simp only [Prod.mk.injEq, and_true] at h
      obtain ⟨rfl, rfl⟩ := h
      have hl : ((l.drop a).take n).length = n := by rw [List.length_take, List.length_drop]; omega
      obtain ⟨h1, h2, h3⟩ := (num_tak hm).1 hn
      rw [hl]
      refine ⟨h1, h2, Tak.app.2 ⟨a, h3, ?_, by rw [hl]⟩⟩
      rw [← List.drop_drop, List.take_append_drop]
  · rintro ⟨h1, h2, h3⟩
    obtain ⟨k, h4, h5⟩ := Tak.app.1 h3
    have h6 := (num_tak (l := l) hm).2 ⟨h1, h2, h4⟩
    have h7 := congrArg List.length h5.1
    simp only [List.length_drop, List.length_append] at h7
    rw [rdText_ok h6 (by omega), h5.1, List.take_left, ← h5.2]
def pairR (m1 m2 : Nat) (r : Rf) : Prop := 0 ≤ r.1 ∧ r.1 ≤ m1 ∧ 0 ≤ r.2 ∧ r.2 ≤ m2
theorem numsL_cons (x : Int) (l : List Int) : numsL (x :: l) = putN x.toNat ++ numsL l := by simp [numsL]
theorem numsL_nil : numsL [] = [] := rfl
theorem pair_tak {l : List UInt8} {m1 m2 i j : Nat} {b : Bool} {r : Rf} (h1 : m1 < 2 ^ 64) (h2 : m2 < 2 ^ 64) : rdPair l m1 m2 (i, b) = (r, (j, false)) ↔ b = false ∧ pairR m1 m2 r ∧ Tak l i j (pairB r) := by
  obtain ⟨n1, a1, b1, e1⟩ : ∃ n a b', rdNum l m1 i b = (n, a, b') := ⟨_, _, _, rfl⟩
  obtain ⟨n2, a2, b2, e2⟩ : ∃ n a b', rdNum l m2 a1 b1 = (n, a, b') := ⟨_, _, _, rfl⟩
  obtain ⟨x, y⟩ := r
  simp only [pairB, numsL_cons, numsL_nil, List.append_nil]
  constructor
  · intro h
    rw [rdPair_of e1 e2] at h
    simp only [Prod.mk.injEq] at h
    obtain ⟨⟨rfl, rfl⟩, rfl, rfl⟩ := h
    obtain ⟨rfl, k1, k2⟩ := (num_tak h2).1 e2
    obtain ⟨k3, k4, k5⟩ := (num_tak h1).1 e1
    exact ⟨k3, ⟨by simp, by simpa using k4, by simp, by simpa using k1⟩, Tak.app.2 ⟨a1, by simpa using k5, by simpa using k2⟩⟩
  · rintro ⟨k1, ⟨k2, k3, k4, k5⟩, k6⟩
    simp only at k2 k3 k4 k5
    obtain ⟨a, k7, k8⟩ := Tak.app.1 k6
    have e1 := (num_tak (l := l) h1).2 ⟨k1, by omega, k7⟩
    have e2 := (num_tak (l := l) (b := false) h2).2 ⟨rfl, by omega, k8⟩
    rw [rdPair_of e1 e2, Int.toNat_of_nonneg k2, Int.toNat_of_nonneg k4]
theorem pairs_tak {l : List UInt8} {m1 m2 : Nat} (h1 : m1 < 2 ^ 64) (h2 : m2 < 2 ^ 64) : ∀ (n i j : Nat) (b : Bool) (L : List Rf), rdPairs l m1 m2 (i, b) n = (L, (j, false)) ↔ b = false ∧ L.length = n ∧ (∀ r ∈ L, pairR m1 m2 r) ∧ Tak l i j (L.flatMap pairB)
  | 0, i, j, b, L => by
    simp only [rdPairs]
    constructor
    · intro h
      simp only [Prod.mk.injEq] at h
      obtain ⟨rfl, rfl, rfl⟩ := h
      exact ⟨rfl, rfl, by simp, Tak.nil.2 rfl⟩
    · rintro ⟨rfl, k2, _, k4⟩
      obtain rfl : L = [] := List.length_eq_zero_iff.1 k2
      obtain rfl := Tak.nil.1 k4
      rfl
  | n + 1, i, j, b, L => by
    obtain ⟨L', a', b', e1⟩ : ∃ L a b', rdPairs l m1 m2 (i, b) n = (L, (a, b')) := ⟨_, _, _, rfl⟩
    obtain ⟨r, a2, b2, e2⟩ : ∃ r a b2, rdPair l m1 m2 (a', b') = (r, (a, b2)) := ⟨_, _, _, rfl⟩
    constructor
    · intro h
      rw [rdPairs_next e1 e2] at h
      simp only [Prod.mk.injEq] at h
      obtain ⟨rfl, rfl, rfl⟩ := h
      obtain ⟨rfl, k1, k2⟩ := (pair_tak h1 h2).1 e2
      obtain ⟨k3, k4, k5, k6⟩ := (pairs_tak h1 h2 n _ _ _ _).1 e1
      refine ⟨k3, by simp [k4], fun x hx => ?_, ?_⟩
      · rcases List.mem_append.1 hx with hx | hx
        · exact k5 x hx
        · obtain rfl : x = r := by simpa using hx
          exact k1
      · rw [List.flatMap_append]
        exact Tak.app.2 ⟨a', k6, by simpa using k2⟩
    · rintro ⟨k1, k2, k3, k4⟩
      rcases List.eq_nil_or_concat L with rfl | ⟨L1, x, rfl⟩
      · simp at k2
      · rw [List.concat_eq_append] at k2 k3 k4 ⊢
        rw [List.flatMap_append] at k4
        obtain ⟨a, k5, k6⟩ := Tak.app.1 k4
        have f1 := (pairs_tak h1 h2 n i a b L1).2 ⟨k1, by simpa using k2, fun r hr => k3 r (by simp [hr]), k5⟩
        have f2 := (pair_tak (l := l) (i := a) (j := j) (b := false) (r := x) h1 h2).2 ⟨rfl, k3 x (by simp), by simpa using k6⟩
        exact rdPairs_next f1 f2
/-- an op as it is read -/
structure OpR (o : OpD) : Prop where
  k : 0 ≤ o.k ∧ o.k ≤ 4
  ob : pairR 1000000 99 (o.on, o.oa)
  key : o.key.size ≤ 20
  el : pairR 1000000 99 (o.en, o.ea)
  vk : 0 ≤ o.vk ∧ o.vk ≤ 6
  vn : -9223372036854775808 ≤ o.vn ∧ o.vn ≤ 9223372036854775807
  vt : o.vt.size ≤ 60
  v : o.va = 0 ∧ o.vb = 0
  ll : o.l.length ≤ 12
  l : ∀ r ∈ o.l, pairR 1000000 99 r
  m : o.A = none ∧ o.c = 0
theorem size_data (s : ByteArray) : s.data.toList.length = s.size := by rw [ByteArray.size, Array.length_toList]
theorem bytes_eta (s : ByteArray) : (⟨s.data.toList.toArray⟩ : ByteArray) = s := by cases s; simp
theorem opB_split (o : OpD) : opB o = putN o.k.toNat ++ (pairB (o.on, o.oa) ++ ((putN o.key.data.toList.length ++ o.key.data.toList) ++ (pairB (o.en, o.ea) ++ (putN (inI o.ins).toNat ++ (putN o.vk.toNat ++ (putS o.vn ++ ((putN o.vt.data.toList.length ++ o.vt.data.toList) ++ (putN o.l.length ++ o.l.flatMap pairB)))))))) := by
  simp only [opB, pairB, numsL_cons, numsL_nil, List.append_nil, List.append_assoc, size_data, Int.toNat_natCast]
theorem op_tak {l : List UInt8} {i j : Nat} {b : Bool} {o : OpD} : rdOp l (i, b) = (o, (j, false)) ↔ b = false ∧ OpR o ∧ Tak l i j (opB o) := by
  rw [opB_split]
  constructor
  · intro h
    obtain ⟨n1, a1, b1, e1⟩ : ∃ n a b', rdNum l 4 i b = (n, a, b') := ⟨_, _, _, rfl⟩
    obtain ⟨⟨x2, y2⟩, a2, b2, e2⟩ : ∃ n a b', rdPair l 1000000 99 (a1, b1) = (n, (a, b')) := ⟨_, _, _, rfl⟩
    obtain ⟨t3, a3, b3, e3⟩ : ∃ n a b', rdText l 20 a2 b2 = (n, a, b') := ⟨_, _, _, rfl⟩
    obtain ⟨⟨x4, y4⟩, a4, b4, e4⟩ : ∃ n a b', rdPair l 1000000 99 (a3, b3) = (n, (a, b')) := ⟨_, _, _, rfl⟩
    obtain ⟨n5, a5, b5, e5⟩ : ∃ n a b', rdNum l 1 a4 b4 = (n, a, b') := ⟨_, _, _, rfl⟩
    obtain ⟨n6, a6, b6, e6⟩ : ∃ n a b', rdNum l 6 a5 b5 = (n, a, b') := ⟨_, _, _, rfl⟩
    obtain ⟨x7, a7, b7, e7⟩ : ∃ n a b', rdInt l a6 b6 = (n, a, b') := ⟨_, _, _, rfl⟩
    obtain ⟨t8, a8, b8, e8⟩ : ∃ n a b', rdText l 60 a7 b7 = (n, a, b') := ⟨_, _, _, rfl⟩
    obtain ⟨n9, a9, b9, e9⟩ : ∃ n a b', rdNum l 12 a8 b8 = (n, a, b') := ⟨_, _, _, rfl⟩
    obtain ⟨ps, a0, b0, e0⟩ : ∃ n a b', rdPairs l 1000000 99 (a9, b9) n9 = (n, (a, b')) := ⟨_, _, _, rfl⟩
    rw [rdOp_of2 e1 e2 e3 e4 e5 e6 e7 e8 e9 e0] at h
    simp only [Prod.mk.injEq] at h
    obtain ⟨rfl, rfl, rfl⟩ := h
    obtain ⟨rfl, f0, g0, h0⟩ := (pairs_tak (by decide) (by decide) _ _ _ _ _).1 e0
    obtain ⟨rfl, f9, g9⟩ := (num_tak (by decide)).1 e9
    obtain ⟨rfl, f8, g8⟩ := (text_tak (by decide)).1 e8
    obtain ⟨rfl, f7, g7⟩ := int_tak.1 e7
    obtain ⟨rfl, f6, g6⟩ := (num_tak (by decide)).1 e6
    obtain ⟨rfl, f5, g5⟩ := (num_tak (by decide)).1 e5
    obtain ⟨rfl, f4, g4⟩ := (pair_tak (by decide) (by decide)).1 e4
    obtain ⟨rfl, f3, g3⟩ := (text_tak (by decide)).1 e3
    obtain ⟨rfl, f2, g2⟩ := (pair_tak (by decide) (by decide)).1 e2
    obtain ⟨k, f1, g1⟩ := (num_tak (by decide)).1 e1
    have hin : (inI (n5 == 1)).toNat = n5 := by
      have : n5 = 0 ∨ n5 = 1 := by omega
      rcases this with rfl | rfl <;> rfl
    refine ⟨k, ⟨⟨by simp, by simp; omega⟩, f2, ?_, f4, ⟨by simp, by simp; omega⟩, f7, ?_, ⟨rfl, rfl⟩, by simp only; omega, g0, rfl, rfl⟩, ?_⟩
    · simp only [ByteArray.size, List.size_toArray]; exact f3
    · simp only [ByteArray.size, List.size_toArray]; exact f8
    · simp only [Int.toNat_natCast, hin, f0]
      exact Tak.app.2 ⟨_, g1, Tak.app.2 ⟨_, g2, Tak.app.2 ⟨_, g3, Tak.app.2 ⟨_, g4, Tak.app.2 ⟨_, g5, Tak.app.2 ⟨_, g6, Tak.app.2 ⟨_, g7, Tak.app.2 ⟨_, g8, Tak.app.2 ⟨_, g9, h0⟩⟩⟩⟩⟩⟩⟩⟩⟩
  · rintro ⟨rfl, hR, h⟩
    obtain ⟨a1, g1, h⟩ := Tak.app.1 h
    obtain ⟨a2, g2, h⟩ := Tak.app.1 h
    obtain ⟨a3, g3, h⟩ := Tak.app.1 h
    obtain ⟨a4, g4, h⟩ := Tak.app.1 h
    obtain ⟨a5, g5, h⟩ := Tak.app.1 h
    obtain ⟨a6, g6, h⟩ := Tak.app.1 h
    obtain ⟨a7, g7, h⟩ := Tak.app.1 h
    obtain ⟨a8, g8, h⟩ := Tak.app.1 h
    obtain ⟨a9, g9, h⟩ := Tak.app.1 h
    have e1 := (num_tak (l := l) (most := 4) (b := false) (by decide)).2 ⟨rfl, by have := hR.k; omega, g1⟩
    have e2 := (pair_tak (l := l) (b := false) (by decide) (by decide)).2 ⟨rfl, hR.ob, g2⟩
    have e3 := (text_tak (l := l) (most := 20) (b := false) (by decide)).2 ⟨rfl, by rw [size_data]; exact hR.key, g3⟩
    have e4 := (pair_tak (l := l) (b := false) (by decide) (by decide)).2 ⟨rfl, hR.el, g4⟩
    have e5 := (num_tak (l := l) (most := 1) (b := false) (by decide)).2 ⟨rfl, by cases o.ins <;> decide, g5⟩
    have e6 := (num_tak (l := l) (most := 6) (b := false) (by decide)).2 ⟨rfl, by have := hR.vk; omega, g6⟩
    have e7 := (int_tak (l := l) (b := false)).2 ⟨rfl, hR.vn, g7⟩
    have e8 := (text_tak (l := l) (most := 60) (b := false) (by decide)).2 ⟨rfl, by rw [size_data]; exact hR.vt, g8⟩
    have e9 := (num_tak (l := l) (most := 12) (b := false) (by decide)).2 ⟨rfl, hR.ll, g9⟩
    have e0 := (pairs_tak (l := l) (m1 := 1000000) (m2 := 99) (by decide) (by decide) o.l.length a9 j false o.l).2 ⟨rfl, rfl, hR.l, h⟩
    rw [rdOp_of2 e1 e2 e3 e4 e5 e6 e7 e8 e9 e0]
    obtain ⟨k, on, oa, key, en, ea, ins, vk, vn, vt, va, vb, A, c, ps⟩ := o
    obtain ⟨v1, v2⟩ := hR.v
    obtain ⟨m1, m2⟩ := hR.m
    have k1 := hR.k
    have k6 := hR.vk
    simp only at v1 v2 m1 m2 k1 k6
    subst v1 v2 m1 m2
    have hin : ((inI ins).toNat == 1) = ins := by cases ins <;> rfl
    simp only [bytes_eta, hin, Int.toNat_of_nonneg k1.1, Int.toNat_of_nonneg k6.1]
theorem ops_tak {l : List UInt8} : ∀ (n i j : Nat) (b : Bool) (L : List OpD), rdOps l (i, b) n = (L, (j, false)) ↔ b = false ∧ L.length = n ∧ (∀ r ∈ L, OpR r) ∧ Tak l i j (L.flatMap opB)
  | 0, i, j, b, L => by
    simp only [rdOps]
    constructor
    · intro h
      simp only [Prod.mk.injEq] at h
      obtain ⟨rfl, rfl, rfl⟩ := h
      exact ⟨rfl, rfl, by simp, Tak.nil.2 rfl⟩
    · rintro ⟨rfl, k2, _, k4⟩
      obtain rfl : L = [] := List.length_eq_zero_iff.1 k2
      obtain rfl := Tak.nil.1 k4
      rfl
  | n + 1, i, j, b, L => by
    obtain ⟨L', a', b', e1⟩ : ∃ L a b', rdOps l (i, b) n = (L, (a, b')) := ⟨_, _, _, rfl⟩
    obtain ⟨r, a2, b2, e2⟩ : ∃ r a b2, rdOp l (a', b') = (r, (a, b2)) := ⟨_, _, _, rfl⟩
    constructor
    · intro h
      rw [rdOps_next e1 e2] at h
      simp only [Prod.mk.injEq] at h
      obtain ⟨rfl, rfl, rfl⟩ := h
      obtain ⟨rfl, k1, k2⟩ := op_tak.1 e2
      obtain ⟨k3, k4, k5, k6⟩ := (ops_tak n _ _ _ _).1 e1
      refine ⟨k3, by simp [k4], fun x hx => ?_, ?_⟩
      · rcases List.mem_append.1 hx with hx | hx
        · exact k5 x hx
        · obtain rfl : x = r := by simpa using hx
          exact k1
      · rw [List.flatMap_append]
        exact Tak.app.2 ⟨a', k6, by simpa using k2⟩
    · rintro ⟨k1, k2, k3, k4⟩
      rcases List.eq_nil_or_concat L with rfl | ⟨L1, x, rfl⟩
      · simp at k2
      · rw [List.concat_eq_append] at k2 k3 k4 ⊢
        rw [List.flatMap_append] at k4
        obtain ⟨a, k5, k6⟩ := Tak.app.1 k4
        have f1 := (ops_tak n i a b L1).2 ⟨k1, by simpa using k2, fun r hr => k3 r (by simp [hr]), k5⟩
        have f2 := (op_tak (l := l) (i := a) (j := j) (b := false) (o := x)).2 ⟨rfl, k3 x (by simp), by simpa using k6⟩
        exact rdOps_next f1 f2
/-- a change as it is read -/
structure RdR (r : Rd) : Prop where
  a : r.a ≤ 99
  s : r.s ≤ 1000000
  st : r.st ≤ 1000000
  dl : r.deps.length ≤ 12
  d : ∀ x ∈ r.deps, pairR 99 1000000 x
  ol : r.ops.length ≤ 40
  o : ∀ o ∈ r.ops, OpR o
theorem encL_split (a s st : Nat) (deps : List Rf) (ops : List OpD) : encL a s st deps ops = putN a ++ (putN s ++ (putN st ++ (putN deps.length ++ (deps.flatMap pairB ++ (putN ops.length ++ ops.flatMap opB))))) := by
  simp only [encL, numsL_cons, numsL_nil, List.append_nil, List.append_assoc, Int.toNat_natCast]
theorem all_tak {l : List UInt8} {r : Rd} (hb : r.bad = false) : rdAll l = r ↔ RdR r ∧ Tak l 0 r.at_ (encL r.a r.s r.st r.deps r.ops) := by
  obtain ⟨a, s, st, deps, ops, at_, bad⟩ := r
  simp only at hb
  subst hb
  simp only [encL_split]
  constructor
  · intro h
    obtain ⟨n1, a1, b1, e1⟩ : ∃ n a b', rdNum l 99 0 false = (n, a, b') := ⟨_, _, _, rfl⟩
    obtain ⟨n2, a2, b2, e2⟩ : ∃ n a b', rdNum l 1000000 a1 b1 = (n, a, b') := ⟨_, _, _, rfl⟩
    obtain ⟨n3, a3, b3, e3⟩ : ∃ n a b', rdNum l 1000000 a2 b2 = (n, a, b') := ⟨_, _, _, rfl⟩
    obtain ⟨n4, a4, b4, e4⟩ : ∃ n a b', rdNum l 12 a3 b3 = (n, a, b') := ⟨_, _, _, rfl⟩
    obtain ⟨d5, a5, b5, e5⟩ : ∃ n a b', rdPairs l 99 1000000 (a4, b4) n4 = (n, (a, b')) := ⟨_, _, _, rfl⟩
    obtain ⟨n6, a6, b6, e6⟩ : ∃ n a b', rdNum l 40 a5 b5 = (n, a, b') := ⟨_, _, _, rfl⟩
    obtain ⟨o7, a7, b7, e7⟩ : ∃ n a b', rdOps l (a6, b6) n6 = (n, (a, b')) := ⟨_, _, _, rfl⟩
    rw [rdAll_of e1 e2 e3 e4 e5 e6 e7] at h
    simp only [Rd.mk.injEq] at h
    obtain ⟨rfl, rfl, rfl, rfl, rfl, rfl, rfl⟩ := h
    obtain ⟨rfl, f7, g7, h7⟩ := (ops_tak _ _ _ _ _).1 e7
    obtain ⟨rfl, f6, g6⟩ := (num_tak (by decide)).1 e6
    obtain ⟨rfl, f5, g5, h5⟩ := (pairs_tak (by decide) (by decide) _ _ _ _ _).1 e5
    obtain ⟨rfl, f4, g4⟩ := (num_tak (by decide)).1 e4
    obtain ⟨rfl, f3, g3⟩ := (num_tak (by decide)).1 e3
    obtain ⟨rfl, f2, g2⟩ := (num_tak (by decide)).1 e2
    obtain ⟨_, f1, g1⟩ := (num_tak (by decide)).1 e1
    rw [f5, f7]
    exact ⟨⟨f1, f2, f3, by simp only; omega, g5, by simp only; omega, g7⟩, Tak.app.2 ⟨_, g1, Tak.app.2 ⟨_, g2, Tak.app.2 ⟨_, g3, Tak.app.2 ⟨_, g4, Tak.app.2 ⟨_, h5, Tak.app.2 ⟨_, g6, h7⟩⟩⟩⟩⟩⟩⟩
  · rintro ⟨hR, h⟩
    obtain ⟨a1, g1, h⟩ := Tak.app.1 h
    obtain ⟨a2, g2, h⟩ := Tak.app.1 h
    obtain ⟨a3, g3, h⟩ := Tak.app.1 h
    obtain ⟨a4, g4, h⟩ := Tak.app.1 h
    obtain ⟨a5, g5, h⟩ := Tak.app.1 h
    obtain ⟨a6, g6, h⟩ := Tak.app.1 h
    have e1 := (num_tak (l := l) (most := 99) (b := false) (by decide)).2 ⟨rfl, hR.a, g1⟩
    have e2 := (num_tak (l := l) (most := 1000000) (b := false) (by decide)).2 ⟨rfl, hR.s, g2⟩
    have e3 := (num_tak (l := l) (most := 1000000) (b := false) (by decide)).2 ⟨rfl, hR.st, g3⟩
    have e4 := (num_tak (l := l) (most := 12) (b := false) (by decide)).2 ⟨rfl, hR.dl, g4⟩
    have e5 := (pairs_tak (l := l) (m1 := 99) (m2 := 1000000) (by decide) (by decide) _ a4 a5 false deps).2 ⟨rfl, rfl, hR.d, g5⟩
    have e6 := (num_tak (l := l) (most := 40) (b := false) (by decide)).2 ⟨rfl, hR.ol, g6⟩
    have e7 := (ops_tak (l := l) _ a6 at_ false ops).2 ⟨rfl, rfl, hR.o, h⟩
    exact rdAll_of e1 e2 e3 e4 e5 e6 e7
/-- what a good change's fields are -/
theorem real_pairR {a b : Int} (h : realB a b = true) : pairR 1000000 99 (a, b) := by
  simp only [realB, numB, actorB, Bool.and_eq_true, decide_eq_true_eq] at h
  unfold pairR; simp only; omega
theorem id_pairR {a b : Int} (h : idB a b = true) : pairR 1000000 99 (a, b) := by
  simp only [idB, rootB, realB, numB, actorB, Bool.or_eq_true, Bool.and_eq_true, decide_eq_true_eq] at h
  unfold pairR; simp only; omega
theorem tail_kind {k : Int} {kn root ins pe v kb : Bool} (h : tailE k kn root ins pe v kb = 0) : v = true ∧ kb = true := by
  unfold tailE at h
  have h1 := (ite_zero h (by omega)).2
  obtain ⟨h2, h3⟩ := ite_zero h1 (by omega)
  have h4 := (ite_zero h3 (by omega)).1
  exact ⟨by simpa using h2, by simpa using h4⟩
theorem value_root {k vk n : Int} {t : ByteArray} {a b : Int} (hk : 1 ≤ k ∧ k ≤ 4) (h : valueB vk n t a b = true) (h2 : kindB k vk a b = true) : a = 0 ∧ b = 0 ∧ 0 ≤ vk ∧ vk ≤ 6 := by
  have key : ∀ x : Bool, (bareB t a b && x) = true → a = 0 ∧ b = 0 := fun x h => by
    simp only [bareB, rootB, Bool.and_eq_true, decide_eq_true_eq] at h
    exact h.1.2
  have key2 : bareB t a b = true → a = 0 ∧ b = 0 := fun h => key true (by rw [h]; rfl)
  unfold valueB at h
  split at h
  · have := key _ h; omega
  split at h
  · have := key _ h; omega
  split at h
  · have := key2 h; omega
  split at h
  · simp only [rootB, Bool.and_eq_true, decide_eq_true_eq] at h; omega
  split at h
  · rename_i h5
    have ho : objectB vk = true := by unfold objectB; rcases h5 with rfl | rfl <;> rfl
    unfold kindB at h2
    split at h2
    · rw [ho] at h2; cases h2
    split at h2
    · simp only [rootB, Bool.and_eq_true, decide_eq_true_eq] at h2; omega
    split at h2
    · have : vk = 0 := by simpa using h2
      omega
    · have : vk = 2 := by simpa using h2
      omega
  · cases h
theorem op_read {o : OpD} (h : opE' o = 0) (hv : (Lit.int .i64 o.vn).wf = true) : OpR (base o) := by
  have hG := op_good h hv
  unfold opE' opE at h
  obtain ⟨h1, h⟩ := ite_zero h (by omega)
  obtain ⟨h2, h⟩ := ite_zero h (by omega)
  obtain ⟨h3, h⟩ := ite_zero h (by omega)
  by_cases h4 : idsE o.l ≠ 0
  · rw [if_pos h4] at h; exact absurd h h4
  rw [if_neg h4] at h
  have hI : idB o.on o.oa = true := by
    cases hx : idB o.on o.oa
    · exact absurd (Or.inr (Or.inr (Or.inl hx))) h1
    · rfl
  have hJ : idB o.en o.ea = true := by
    cases hx : idB o.en o.ea
    · exact absurd (Or.inr (Or.inr (Or.inr hx))) h1
    · rfl
  have hk : ¬ o.k < 1 ∧ ¬ 4 < o.k := ⟨fun hx => h1 (Or.inl hx), fun hx => h1 (Or.inr (Or.inl hx))⟩
  obtain ⟨hv1, hv2⟩ := tail_kind h
  obtain ⟨r1, r2, r3, r4⟩ := value_root ⟨by omega, by omega⟩ hv1 hv2
  have hw : -9223372036854775808 ≤ o.vn ∧ o.vn ≤ 9223372036854775807 := by
    simpa [Lit.wf, IntKind.min, IntKind.max, IntKind.signed, IntKind.bits] using hv
  refine ⟨⟨by show 0 ≤ o.k; omega, by show o.k ≤ 4; omega⟩, id_pairR hI, hG.key, id_pairR hJ, ⟨r3, r4⟩, hw, hG.vt, ⟨r1, r2⟩, hG.ll, fun r hr => ?_, rfl, rfl⟩
  have : o.l.all (fun r => realB r.1 r.2) = true := by simpa using h2
  exact real_pairR (List.all_eq_true.1 this r hr)
theorem ops_read : ∀ {l : List OpD}, opsE l = 0 → (∀ o ∈ l, (Lit.int .i64 o.vn).wf = true) → ∀ o ∈ l.map base, OpR o
  | [], _, _, _, h => by cases h
  | x :: l, h, hv, o, ho => by
    have hx : opE' x = 0 := by
      by_cases h0 : opE' x = 0
      · exact h0
      · simp only [opsE, if_neg h0] at h; exact absurd h h0
    have hr : opsE l = 0 := by simp only [opsE, if_pos hx] at h; exact h
    rw [List.map_cons] at ho
    rcases List.mem_cons.1 ho with rfl | ho
    · exact op_read hx (hv _ (by simp))
    · exact ops_read hr (fun o ho => hv o (by simp [ho])) o ho
theorem refs_read : ∀ {l : List Rf} {p : Int}, refsE p l = 0 → ∀ r ∈ l, pairR 99 1000000 r
  | [], _, _, _, h => by cases h
  | x :: l, p, h, r, hr => by
    simp only [refsE] at h
    obtain ⟨h1, h⟩ := ite_zero h (by omega)
    obtain ⟨_, h⟩ := ite_zero h (by omega)
    rcases List.mem_cons.1 hr with rfl | hr
    · have : isRef r = true := by simpa using h1
      simp only [isRef, Bool.and_eq_true, decide_eq_true_eq] at this
      unfold pairR
      omega
    · exact refs_read h r hr
theorem chg_read {a s st : Int} {deps : List Rf} {ops : List OpD} (h : chgE a s st deps ops = 0) (hv : ∀ o ∈ ops, (Lit.int .i64 o.vn).wf = true) (at_ : Nat) :
    RdR ⟨a.toNat, s.toNat, st.toNat, deps, ops.map base, at_, false⟩ ∧ 0 ≤ a ∧ 0 ≤ s ∧ 0 ≤ st := by
  unfold chgE at h
  obtain ⟨h1, h⟩ := ite_zero h (by omega)
  obtain ⟨h2, h⟩ := ite_zero h (by omega)
  by_cases h3 : refsE 0 deps ≠ 0
  · rw [if_pos h3] at h; exact absurd h h3
  rw [if_neg h3] at h
  obtain ⟨h4, h⟩ := ite_zero h (by omega)
  obtain ⟨h5, h⟩ := ite_zero h (by omega)
  have hr : isRef (a, s) = true := by
    cases hx : isRef (a, s)
    · exact absurd (Or.inl hx) h1
    · rfl
  simp only [isRef, Bool.and_eq_true, decide_eq_true_eq] at hr
  have hs : ¬ st < 1 ∧ ¬ 1000000 < st := ⟨fun hx => h1 (Or.inr (Or.inl hx)), fun hx => h1 (Or.inr (Or.inr hx))⟩
  have h3' : refsE 0 deps = 0 := by omega
  exact ⟨⟨by simp only; omega, by simp only; omega, by simp only; omega, by simp only; omega, refs_read (p := 0) h3', by simp only [List.length_map]; omega, ops_read h hv⟩, by omega, by omega, by omega⟩
theorem base_base (l : List OpD) : (l.map base).map base = l.map base := ops_base rfl
/-- (i) what is written is read, whatever stands behind -/
theorem read_back {a s st : Int} {deps : List Rf} {ops : List OpD} (h : chgE a s st deps ops = 0) (hv : ∀ o ∈ ops, (Lit.int .i64 o.vn).wf = true) (more : List UInt8) :
    rdAll (encL a s st deps ops ++ more) = ⟨a.toNat, s.toNat, st.toNat, deps, ops.map base, (encL a s st deps ops).length, false⟩ := by
  obtain ⟨hR, h1, h2, h3⟩ := chg_read h hv (encL a s st deps ops).length
  refine (all_tak rfl).2 ⟨hR, ?_⟩
  have e : encL ((a.toNat : Nat) : Int) ((s.toNat : Nat) : Int) ((st.toNat : Nat) : Int) deps (ops.map base) = encL a s st deps ops := by
    rw [Int.toNat_of_nonneg h1, Int.toNat_of_nonneg h2, Int.toNat_of_nonneg h3]
    exact encL_base (base_base ops)
  simp only [e]
  exact ⟨by rw [List.drop_zero, List.drop_left], by simp⟩
/-- (iii) what is read was written so -/
theorem read_form {l : List UInt8} (hb : (rdAll l).bad = false) : (rdAll l).at_ ≤ l.length ∧ encL (rdAll l).a (rdAll l).s (rdAll l).st (rdAll l).deps (rdAll l).ops = l.take (rdAll l).at_ := by
  obtain ⟨_, h⟩ := (all_tak hb).1 (rfl : rdAll l = _)
  have h1 := h.len (Nat.zero_le _)
  refine ⟨h1, ?_⟩
  obtain ⟨h2, h3⟩ := h
  rw [List.drop_zero] at h2
  rw [Nat.zero_add] at h3
  generalize encL (rdAll l).a (rdAll l).s (rdAll l).st (rdAll l).deps (rdAll l).ops = bs at *
  generalize (rdAll l).at_ = t at *
  rw [h3]
  conv => rhs; rw [h2]
  rw [List.take_left]
/-- (ii) with its last byte missing it is none -/
theorem read_cut {a s st : Int} {deps : List Rf} {ops : List OpD} (h : chgE a s st deps ops = 0) (hv : ∀ o ∈ ops, (Lit.int .i64 o.vn).wf = true) {k : Nat} (hk : k < (encL a s st deps ops).length) :
    (rdAll ((encL a s st deps ops).take k)).bad = true := by
  cases hb : (rdAll ((encL a s st deps ops).take k)).bad with
  | true => rfl
  | false =>
    exfalso
    obtain ⟨hR, hT⟩ := (all_tak hb).1 (rfl : rdAll ((encL a s st deps ops).take k) = _)
    have h1 := hT.len (Nat.zero_le _)
    have h2 := read_back h hv []
    rw [List.append_nil] at h2
    generalize encL a s st deps ops = l at *
    obtain ⟨h3, h4⟩ := hT
    have hT2 : Tak l 0 (rdAll (l.take k)).at_ (encL (rdAll (l.take k)).a (rdAll (l.take k)).s (rdAll (l.take k)).st (rdAll (l.take k)).deps (rdAll (l.take k)).ops) := by
      refine ⟨?_, h4⟩
      rw [List.drop_zero] at h3 ⊢
      generalize encL (rdAll (l.take k)).a (rdAll (l.take k)).s (rdAll (l.take k)).st (rdAll (l.take k)).deps (rdAll (l.take k)).ops = bs at *
      generalize (rdAll (l.take k)).at_ = t at *
      have e1 : l.drop t = (l.take k).drop t ++ l.drop k := by
        conv => lhs; rw [← List.take_append_drop k l]
        rw [List.drop_append_of_le_length h1]
      rw [e1, ← List.append_assoc, ← h3, List.take_append_drop]
    have h5 := (all_tak hb).2 ⟨hR, hT2⟩
    rw [h2] at h5
    have h6 := congrArg Rd.at_ h5
    simp only at h6
    rw [List.length_take] at h1
    omega
end Go.Proofs.Ytoolpppbbphbjaa
