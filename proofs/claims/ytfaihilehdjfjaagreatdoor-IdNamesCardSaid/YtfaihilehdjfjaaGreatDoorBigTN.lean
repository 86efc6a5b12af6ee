/- Contracts: package commonbookbig: a number's decimal digits. -/
import Derived.Test.YtfaihilehdjfjaaGreatDoorBigD
import Derived.Test.YtfaihilehdjfjaaGreatDoorStrN
import Derived.Test.YtfaihilehdjfjaaGreatDoorBigW
import Derived.Lib.ItoaNum
import Derived.Deep.LoopGhost
namespace Go.Proofs.YtfaihilehdjfjaaGreatDoor
open Go.ChangeShapes Go.WideShapes Go.ChangeAt Go.RowKit

/-- the digits, the last one first -/
def revD (n : Nat) : List UInt8 := if h : n = 0 then [] else UInt8.ofNat (48 + n % 10) :: revD (n / 10)
termination_by n
decreasing_by omega
theorem revD_zero : revD 0 = [] := by rw [revD]; simp
theorem revD_pos {n : Nat} (h : n ≠ 0) : revD n = UInt8.ofNat (48 + n % 10) :: revD (n / 10) := by rw [revD]; simp [h]
theorem revD_len : ∀ (k n : Nat), n < 10 ^ k → (revD n).length ≤ k
  | 0, n, h => by
    have : n = 0 := by simpa using h
    subst this
    rw [revD_zero]; simp
  | k + 1, n, h => by
    by_cases h0 : n = 0
    · subst h0; rw [revD_zero]; simp
    · rw [revD_pos h0]
      have := revD_len k (n / 10) (by rw [Nat.pow_succ] at h; omega)
      simp only [List.length_cons]; omega
theorem revD_dec (n : Nat) (h0 : n ≠ 0) : (revD n).reverse = Lib.decDigits n := by
  induction n using Nat.strongRecOn with
  | ind n ih =>
    rw [revD_pos h0, Lib.decDigits]
    by_cases h : n < 10
    · rw [dif_pos h, show n / 10 = 0 from by omega, revD_zero, show n % 10 = n from by omega]; rfl
    · rw [dif_neg h, List.reverse_cons, ih (n / 10) (by omega) (by omega)]
theorem u32C_one (l : List Nat) : ∀ u ∈ u32C l, u.oneCell' = true := by
  intro u hu
  simp only [u32C, List.mem_map] at hu
  obtain ⟨n, _, rfl⟩ := hu
  rfl
/-- turned round, from both ends, as far as so many -/
structure RevAt (M Q : List UInt8) (i : Nat) : Prop where
  len : Q.length = M.length
  hi : 2 * i ≤ M.length + 1
  lo : ∀ k, k < M.length → (k < i ∨ M.length ≤ k + i) → Q[k]? = M[M.length - 1 - k]?
  mid : ∀ k, k < M.length → i ≤ k → k + i < M.length → Q[k]? = M[k]?
theorem RevAt.start (M : List UInt8) : RevAt M M 0 where
  len := rfl
  hi := by omega
  lo := fun k h h' => by omega
  mid := fun _ _ _ _ => rfl
theorem RevAt.step {M Q : List UInt8} {i : Nat} {x y : UInt8} (h : RevAt M Q i) (hlt : 2 * i + 1 < M.length) (hx : Q[i]? = some x) (hy : Q[M.length - 1 - i]? = some y) :
    RevAt M ((Q.set i y).set (M.length - 1 - i) x) (i + 1) where
  len := by simp [h.len]
  hi := by omega
  lo := fun k hk hk' => by
    have hl := h.len
    have mx := h.mid i (by omega) (Nat.le_refl _) (by omega)
    have my := h.mid (M.length - 1 - i) (by omega) (by omega) (by omega)
    rw [List.getElem?_set]
    by_cases e1 : M.length - 1 - i = k
    · subst e1
      rw [if_pos rfl, if_pos (by simp; omega), ← hx, mx]
      congr 1
      omega
    · rw [if_neg e1, List.getElem?_set]
      by_cases e2 : i = k
      · subst e2
        rw [if_pos rfl, if_pos (by omega), ← hy, my]
      · rw [if_neg e2]
        exact h.lo k hk (by omega)
  mid := fun k hk h1 h2 => by
    rw [List.getElem?_set, if_neg (by omega), List.getElem?_set, if_neg (by omega)]
    exact h.mid k hk (by omega) (by omega)
theorem RevAt.fin {M Q : List UInt8} {i : Nat} (h : RevAt M Q i) (hge : M.length ≤ 2 * i + 1) : Q = M.reverse := by
  apply List.ext_getElem?
  intro k
  by_cases hk : k < M.length
  · rw [List.getElem?_reverse hk]
    by_cases h1 : k < i ∨ M.length ≤ k + i
    · exact h.lo k hk h1
    · rw [h.mid k hk (by omega) (by omega)]
      congr 1
      omega
  · rw [List.getElem?_eq_none (by have := h.len; omega), List.getElem?_eq_none (by simp; omega)]
theorem bytesC_set (l : List UInt8) (k : Nat) (x : UInt8) : (bytesC l).set k (.int .u8 (x.toNat : Int)) = bytesC (l.set k x) := by simp [bytesC, List.map_set]
theorem bytes_at' {l : List UInt8} {k : Nat} {x : UInt8} (h : l[k]? = some x) : (bytesC l)[k]? = some (.int .u8 (x.toNat : Int)) := by simp [bytesC, h]
/-- a big number with its sign -/
def IsIntS (w : World) (z : Nat) (s : Bool) (n : Nat) (D : Nat → Prop) : Prop := ∃ A c, Blk w z 58 #[.bool s, .slice A (wd n).length c] ∧ (wd n).length ≤ c ∧ Reads D w 1 A (wd n).length (u32C (wd n))
set_option maxRecDepth 20000 in
set_option maxHeartbeats 2000000 in
theorem giveS_any (z : Nat) (s : Bool) (u v : Value) (A : Option Addr) (n c : Nat) (w : World) (hb : Blk w z 58 #[u, v]) (hs : s = true → 0 < n) :
    Calls Tryz.prog 56 #[.pointer (some ⟨z, 0, none⟩), .bool s, .slice A n c] w fun e w' => e = .returned (.pointer (some ⟨z, 0, none⟩)) ∧ Blk w' z 58 #[.bool s, .slice A n c] ∧ Chg (fun k => k = z) w w' := by
  cases s with
  | false => exact give_any z u v A n c w hb
  | true =>
    have h1 : w.cell? ⟨z, 1, none⟩ = some v := hb.cell 1
    have f1 := hb.frozen 1
    have hb2 := hb.set_ 1 (.slice A n c)
    have h0 : (w.setCell ⟨z, 1, none⟩ (.slice A n c)).cell? ⟨z, 0, none⟩ = some u := hb2.cell 0
    have f0 := hb2.frozen 0
    have hb3 := hb2.set_ 0 (.bool true)
    have hc : Chg (fun k => k = z) w ((w.setCell ⟨z, 1, none⟩ (.slice A n c)).setCell ⟨z, 0, none⟩ (.bool true)) := Chg.setCell (M := fun k => k = z) (p := ⟨z, 0, none⟩) (Chg.setCell (M := fun k => k = z) (p := ⟨z, 1, none⟩) (Chg.refl w) (.inl rfl) _) (.inl rfl) _
    have hn0 : 0 < n := hs rfl
    have hn1 : (0 : Int) < (n : Int) := by omega
    have d1 : decide ((0 : Int) < (n : Int)) = true := decide_eq_true hn1
    clear hs
    go_enter Tryz.func56, Tryz.ntmps56
    go_wp2
    go_ret
    exact ⟨rfl, by simpa using hb3, hc⟩
set_option maxRecDepth 20000 in
set_option maxHeartbeats 2000000 in
theorem setIntN_any (z : Nat) (u v : Value) (m : Nat) (h0 : 1 ≤ m) (hm : m ≤ 9223372036854775808) (w : World) (hb : Blk w z 58 #[u, v]) :
    Calls Tryz.prog 35 #[.pointer (some ⟨z, 0, none⟩), .int .i64 (-(m : Int))] w fun e w' => e = .returned (.pointer (some ⟨z, 0, none⟩)) ∧ IsIntS w' z true m (fun k => w.heap.size ≤ k ∧ k < w'.heap.size) ∧ Chg (fun k => k = z) w w' := by
  have HN : Hid (m < 2 ^ 64) := by show _ < _; omega
  obtain ⟨q, hq⟩ : ∃ q : Nat, q = 18446744073709551616 - m := ⟨_, rfl⟩
  have hu : IntKind.u64.wrap (-(m : Int)) = (q : Int) := by simp [IntKind.wrap, IntKind.bits, IntKind.signed]; omega
  have hu2 : IntKind.u64.wrap (-(q : Int)) = (m : Int) := by simp [IntKind.wrap, IntKind.bits, IntKind.signed]; omega
  have hlt := hb.lt
  have d1 : decide (-(m : Int) < 0) = true := decide_eq_true (by omega)
  have hpos : true = true → 0 < (wd m).length := fun _ => by rw [wd_pos (by omega)]; simp
  clear hq
  go_enter Tryz.func35, Tryz.ntmps35
  go_wp2_with fail
  refine (words_any m HN w).mono ?_
  rintro e w1 ⟨A, c, rfl, hlc, hr, hbl⟩
  have hb1 := hb.keep (hbl.block z hlt)
  go_wp2_with fail
  refine (giveS_any z true u v A (wd m).length c w1 hb1 (fun _ => hpos trivial)).mono ?_
  rintro e w2 ⟨rfl, hb2, hc2⟩
  go_wp2_with fail
  go_ret
  have hsz := hc2.size
  refine ⟨rfl, ⟨A, c, hb2, hlc, ?_⟩, (Chg.of_below hbl).trans hc2 (fun k _ h => h)⟩
  refine (hr.keep (hc2.keeps fun k hk => ⟨hk.2, fun e => ?_⟩)).more fun k hk => ⟨hk.1, by omega⟩
  have := hk.1; omega
/-- a number, with its sign -/
theorem newIntS_any (x : Int) (h0 : -9223372036854775808 ≤ x) (h1 : x ≤ 9223372036854775807) (w : World) :
    Calls Tryz.prog 24 #[.int .i64 x] w fun e w' => e = .returned (.pointer (some ⟨w.heap.size, 0, none⟩)) ∧ IsIntS w' w.heap.size (decide (x < 0)) x.natAbs (fun k => w.heap.size < k ∧ k < w'.heap.size) ∧ Below w.heap.size w w' := by
  by_cases hx : x < 0
  · obtain ⟨m, rfl⟩ : ∃ m : Nat, x = -(m : Int) := ⟨x.natAbs, by omega⟩
    have hd : decide (-(m : Int) < 0) = true := decide_eq_true hx
    have hn : (-(m : Int)).natAbs = m := by omega
    rw [hd, hn]
    go_enter Tryz.func24, Tryz.ntmps24
    go_wp2_with fail
    refine (setIntN_any w.heap.size _ _ m (by omega) (by omega) _ (Blk.new _ _ _)).mono ?_
    rintro e w1 ⟨rfl, ⟨A, c, hi1, hi2, hi3⟩, hc⟩
    go_wp2_with fail
    go_ret
    have hs := hc.size
    simp at hs
    refine ⟨rfl, ⟨A, c, hi1, hi2, hi3.more fun k hk => by simp at hk; omega⟩, ((Below.refl _ w).alloc (Nat.le_refl _) _).trans (hc.below (by simp) fun k hk => by omega)⟩
  · obtain ⟨m, rfl⟩ : ∃ m : Nat, x = (m : Int) := ⟨x.toNat, by omega⟩
    rw [decide_eq_false hx, show ((m : Int)).natAbs = m from by omega]
    exact newInt_any m (by omega) w
set_option maxRecDepth 20000 in
set_option maxHeartbeats 4000000 in
theorem twin_any (l : List Nat) (D : Nat → Prop) (A : Option Addr) (n c : Nat) (hn : l.length = n) (hl : n ≤ 1000000) (w : World) (hr : Reads D w 1 A n (u32C l)) :
    Calls Tryz.prog 58 #[.slice A n c] w fun e w' => ∃ A' c', e = .returned (.slice A' n c') ∧ Reads (fun k => w.heap.size ≤ k ∧ k < w'.heap.size) w' 1 A' n (u32C l) ∧ Below w.heap.size w w' := by
  obtain ⟨i0, hi, hz0, hz1, hz2⟩ := info_parts infoWordD
  go_enter Tryz.func58, Tryz.ntmps58
  go_wp2_with (at_builtin; refine wpList_append_any _ rfl (.const (.slice none 0 0)) (.tmp 3) _ rfl (w.heap.size) 92 i0 _ 1 4 Tryz.underlying56 hi hz0 hz1 hz2 rfl (by omega) (.slice none 0 0) (0) ([]) rfl (own_nil _ _ _ _) _ A n c (u32C l) rfl hr (u32C_one l) ?c1 ?c2 ?c3 ?_)
  try case c1 => simp only [maxLen]; omega
  try case c2 => omega
  try case c3 => exact Nat.le_refl _
  intro v1 w1 ho1 hg1 hat1
  have hb1 : Below w.heap.size w w1 := (Below.refl _ w).grown hg1 (Nat.le_refl _) (fun g hg => by simp [Value.ownBlock] at hg)
  have ho1 : w1.ownsRow w.heap.size 92 1 v1 n (u32C l) := by simpa using ho1
  obtain ⟨A', c', hv, _, _, hr'⟩ := Reads.of_own ho1
  have HR : Hid (Reads (fun k => w.heap.size ≤ k ∧ k < w1.heap.size) w1 1 A' n (u32C l)) := hr'.more fun k hk => by
    subst hv
    exact own_lt ho1 hk
  subst hv
  clear hr' hr ho1 hg1 hat1
  go_wp2_with fail
  go_ret
  exact ⟨_, _, rfl, HR.out, hb1⟩
theorem val_pos {l : List Nat} (hok : okW l) (h : (wd (valW l)).length = 0) : valW l = 0 := by
  have := List.eq_nil_of_length_eq_zero h
  have h2 := val_wd (valW l)
  rw [this] at h2
  exact h2.symm
set_option maxRecDepth 20000 in
set_option maxHeartbeats 4000000 in
theorem text_any (z : Nat) (s : Bool) (n : Nat) (D : Nat → Prop) (w : World) (hz : IsIntS w z s n D) (hD : ∀ k, D k → k < w.heap.size) (hn : n < 18446744073709551616) (hs : s = true → 0 < n) :
    Calls Tryz.prog 36 #[.pointer (some ⟨z, 0, none⟩), .int .i64 10] w fun e w' => e = .returned (.string ⟨(if s then 45 :: Lib.decDigits n else Lib.decDigits n).toArray⟩) ∧ Below w.heap.size w w' := by
  obtain ⟨A, c, hb, hlc, hr⟩ := hz
  have x0 : w.cell? ⟨z, 0, none⟩ = some (.bool s) := hb.cell 0
  have x1 : w.cell? ⟨z, 1, none⟩ = some (.slice A (wd n).length c) := hb.cell 1
  have hzl := hb.lt
  by_cases h0 : n = 0
  · subst h0
    have hs' : s = false := by cases s with | false => rfl | true => have := hs rfl; omega
    subst hs'
    rw [wd_zero] at x1
    simp only [List.length_nil] at x1
    clear hr hb hlc hs
    go_enter Tryz.func36, Tryz.ntmps36
    go_wp2_with fail
    go_ret
    exact ⟨by rw [Lib.decDigits]; simp, Below.refl _ _⟩
  · have hlen := (wd_two n).2 hn
    have hne : ((wd n).length : Int) ≠ 0 := by
      have : 0 < (wd n).length := by rw [wd_pos h0]; simp
      omega
    have TW := twin_any (wd n) D A _ c rfl (by omega) w hr
    have HRD := Lib.hid (revD_len 20 n (by omega))
    have HDD := Lib.hid (revD_dec n h0)
    obtain ⟨i0, hi, hz0, hz1, hz2⟩ := info_parts infoByte
    clear hr hb
    generalize hln : (wd n).length = ln at hlen hne TW x1 hlc
    have HLN := Lib.hid hln
    clear hln
    go_enter Tryz.func36, Tryz.ntmps36
    go_wp2_with fail
    refine TW.mono ?_
    rintro e w1 ⟨A1, c1, rfl, hr1, hb1⟩
    have HB1 := Lib.hid hb1
    have HX0 := Lib.hid x0
    have HR1 := Lib.hid hr1
    clear hb1 x0 x1 TW hr1
    go_wp2_with fail
    go_loopg [5, 6] n (fun gg s5 s6 wr => ∃ (L : List UInt8) (m k c2 : Nat) (A2 : Option Addr), m ≤ gg ∧ m ≤ n ∧ s6 = .slice A2 k c2 ∧ k ≤ 2 ∧ Hid ((wd m).length = k) ∧ Hid (Reads (fun b => b < wr.heap.size ∧ s5.ownBlock ≠ some b) wr 1 A2 k (u32C (wd m))) ∧ Hid (L ++ revD m = revD n) ∧ Hid (wr.ownsRow w.heap.size 5 1 s5 L.length (bytesC L)) ∧ Hid (Below w.heap.size w wr))
    case atStart => exact ⟨[], n, ln, c1, A1, Nat.le_refl _, Nat.le_refl _, rfl, hlen, HLN, HR1.out.more fun b hb => ⟨hb.2, by simp [Value.ownBlock]⟩, by show _ = _; rw [List.nil_append], own_nil _ _ _ _, HB1.out⟩
    case round =>
      obtain ⟨L, m, k, c2, A2, hgg, hmn, rfl, hk2, HK, HA, HL, HO, HB⟩ := hrel
      by_cases hm : m = 0
      · subst hm
        have hk0 : k = 0 := by have := HK.out; rw [wd_zero] at this; exact this.symm
        subst hk0
        have hLr : L = revD n := by have := HL.out; rw [revD_zero, List.append_nil] at this; exact this
        subst hLr
        obtain ⟨N, hN⟩ : ∃ N, (revD n).length = N := ⟨_, rfl⟩
        have hN20 : N ≤ 20 := by have := HRD.out; omega
        have y0 : wr.cell? ⟨z, 0, none⟩ = some (.bool s) := (World.cell?_of_block (w := w) (HB.out.block z hzl)).trans HX0.out
        have HO2 := HO.out
        rw [hN] at HO2
        have HO3 := Lib.hid HO2
        have HNN := Lib.hid hN
        clear HA HL HO2 hN
        have hN0 : 0 < N := by
          have := HNN.out
          rw [revD_pos h0] at this
          simp at this
          omega
        cases s with
        | true =>
          go_wp2_with (at_builtin; refine wpList_append_any _ rfl (.tmp 53) (.tmp 54) _ rfl (w.heap.size) 5 i0 _ 1 1 Tryz.underlying86 hi hz0 hz1 hz2 rfl (by omega) (u5) (N) (bytesC (revD n)) rfl (HO3.out.alloc _) _ (some ⟨wr.heap.size, 0, none⟩) (1) (1) (bytesC [45]) rfl (reads_newL _ _ [45] 1 rfl _ rfl _ rfl) (bytesC_one _) ?c1 ?c2 ?c3 ?_)
          try case c1 => simp only [maxLen]; omega
          try case c2 => omega
          try case c3 => have := HB.out.size; simp; omega
          intro v4 w4 ho4 hg4 hat4
          have hb4 : Below w.heap.size w w4 := (HB.out.alloc HB.out.size _).grown hg4 (by have := HB.out.size; simp; omega) (fun g hg => (own_lt HO.out hg).1)
          have HO5 : Hid (w4.ownsRow w.heap.size 5 1 v4 (N + 1) (bytesC (revD n ++ [45]))) := by
            show w4.ownsRow _ _ _ _ _ _
            rw [bytesC_append]
            exact ho4
          have HM : Hid ((revD n ++ [45]).length = N + 1) := by show _ = _; rw [List.length_append, HNN.out]; rfl
          have HRES : Hid ((revD n ++ [45]).reverse = 45 :: Lib.decDigits n) := by show _ = _; rw [List.reverse_append, HDD.out]; rfl
          clear ho4 hg4 hat4 y0
          obtain ⟨g, cap, rfl, hg1, hg2⟩ := World.ownsRow.form HO5.out (by omega)
          have hN1 : IntKind.i64.wrap (((N + 1 : Nat) : Int) - 1) = ((N + 1 : Nat) : Int) - 1 := IntWalk.i64_in _ (by omega)
          go_wp2_with fail
          go_loopw [8, 9] (fun s8 s9 wr => ∃ (i : Nat) (Q : List UInt8), s8 = .int .i64 i ∧ s9 = .int .i64 (((N + 1 : Nat) : Int) - 1 - (i : Int)) ∧ 2 * i ≤ N + 1 + 1 ∧ Hid (RevAt (revD n ++ [45]) Q i) ∧ wr.ownsRow w.heap.size 5 1 (.slice (some ⟨g, 0, none⟩) (N + 1) cap) (N + 1) (bytesC Q) ∧ Hid (Below w.heap.size w wr)) (fun s8 _ _ => N + 1 + 1 - (intOf s8).toNat)
          case atStart => exact ⟨0, _, rfl, by simp, by omega, RevAt.start _, HO5.out, hb4⟩
          case round =>
            obtain ⟨i, Q, rfl, rfl, hi2, HR, hown, HBQ⟩ := hrel
            by_cases hlt : 2 * i + 1 < N + 1
            · obtain ⟨j, hj⟩ : ∃ j : Nat, j = N + 1 - 1 - i := ⟨_, rfl⟩
              have hji : ((N + 1 : Nat) : Int) - 1 - (i : Int) = (j : Int) := by omega
              rw [hji]
              have hlQ : Q.length = N + 1 := by rw [HR.out.len]; exact HM.out
              obtain ⟨x, hx⟩ := get_lt (l := Q) (k := i) (by omega)
              obtain ⟨y, hy⟩ := get_lt (l := Q) (k := j) (by omega)
              have hcx := hown.cellAt i (by omega)
              rw [bytes_at' hx] at hcx
              have hcy := hown.cellAt j (by omega)
              rw [bytes_at' hy] at hcy
              have hfi := hown.frozenAt i
              have hst := hown.stored i (.int .u8 (y.toNat : Int))
              rw [bytesC_set] at hst
              have hfj := hst.1.frozenAt j
              have hcj := hst.1.cellAt j (by omega)
              have hcj2 : ∃ v, (wr.setCell ⟨g, i, none⟩ (.int .u8 (y.toNat : Int))).cell? ⟨g, j, none⟩ = some v := by
                obtain ⟨v, hv⟩ := get_lt (l := Q.set i y) (k := j) (by rw [List.length_set]; omega)
                rw [bytes_at' hv] at hcj
                exact ⟨_, hcj⟩
              obtain ⟨vj, hvj⟩ := hcj2
              have hst2 := hst.1.stored j (.int .u8 (x.toNat : Int))
              rw [bytesC_set] at hst2
              have HST := Lib.hid hst2
              have HR2 : Hid (RevAt (revD n ++ [45]) ((Q.set i y).set j x) (i + 1)) := by
                have := HR.out.step (x := x) (y := y) (by rw [HM.out]; exact hlt) hx (by rw [HM.out, ← hj]; exact hy)
                rw [HM.out, ← hj] at this
                exact this
              have hij : (i : Int) < (j : Int) := by omega
              have hne : i ≠ j := by omega
              have hjw : IntKind.i64.wrap ((j : Int) - 1) = (j : Int) - 1 := IntWalk.i64_in _ (by omega)
              have hHT : ∃ t : Unit, True := ⟨(), trivial⟩
              clear hst hst2 hx hy hcj hHT
              have HJ := Lib.hid hj
              clear hj hlQ
              go_wp2_with fail
              go_roundw
              case rel => exact ⟨i + 1, _, by go_num, by have := HJ.out; congr 1; omega, by omega, HR2, HST.out.1, (HBQ.out.setCell (by simp; omega) _).setCell (by simp; omega) _⟩
              case measure => simp [intOf]; omega
            · have hd : ¬ ((i : Int) < ((N + 1 : Nat) : Int) - 1 - (i : Int)) := by omega
              have HQ : Hid (Q = (revD n ++ [45]).reverse) := HR.out.fin (by rw [HM.out]; omega)
              obtain ⟨A9, c9, hv9, _, _, hr9⟩ := Reads.of_own hown
              injection hv9 with hv9 _ hv9c
              subst hv9 hv9c
              have hlQ : (N + 1) = Q.length := by rw [HR.out.len]; exact HM.out.symm
              rw [hlQ] at hr9 hd ⊢
              have hcv := conv_reads (c := cap) hr9
              clear hr9 hown HR hlQ
              go_wp2_with fail
              go_ret
              exact ⟨by rw [HQ.out, HRES.out]; rfl, HBQ.out⟩
        | false =>
          have HM : Hid ((revD n).length = N) := HNN
          have HRES : Hid ((revD n).reverse = Lib.decDigits n) := HDD
          obtain ⟨g, cap, rfl, hg1, hg2⟩ := World.ownsRow.form HO3.out (by omega)
          have hN1 : IntKind.i64.wrap (((N : Nat) : Int) - 1) = ((N : Nat) : Int) - 1 := IntWalk.i64_in _ (by omega)
          go_wp2_with fail
          go_loopw [8, 9] (fun s8 s9 wr => ∃ (i : Nat) (Q : List UInt8), s8 = .int .i64 i ∧ s9 = .int .i64 (((N : Nat) : Int) - 1 - (i : Int)) ∧ 2 * i ≤ N + 1 ∧ Hid (RevAt (revD n) Q i) ∧ wr.ownsRow w.heap.size 5 1 (.slice (some ⟨g, 0, none⟩) (N) cap) (N) (bytesC Q) ∧ Hid (Below w.heap.size w wr)) (fun s8 _ _ => N + 1 - (intOf s8).toNat)
          case atStart => exact ⟨0, _, rfl, by simp, by omega, RevAt.start _, HO3.out, HB⟩
          case round =>
            obtain ⟨i, Q, rfl, rfl, hi2, HR, hown, HBQ⟩ := hrel
            by_cases hlt : 2 * i + 1 < N
            · obtain ⟨j, hj⟩ : ∃ j : Nat, j = N - 1 - i := ⟨_, rfl⟩
              have hji : ((N : Nat) : Int) - 1 - (i : Int) = (j : Int) := by omega
              rw [hji]
              have hlQ : Q.length = N := by rw [HR.out.len]; exact HM.out
              obtain ⟨x, hx⟩ := get_lt (l := Q) (k := i) (by omega)
              obtain ⟨y, hy⟩ := get_lt (l := Q) (k := j) (by omega)
              have hcx := hown.cellAt i (by omega)
              rw [bytes_at' hx] at hcx
              have hcy := hown.cellAt j (by omega)
              rw [bytes_at' hy] at hcy
              have hfi := hown.frozenAt i
              have hst := hown.stored i (.int .u8 (y.toNat : Int))
              rw [bytesC_set] at hst
              have hfj := hst.1.frozenAt j
              have hcj := hst.1.cellAt j (by omega)
              have hcj2 : ∃ v, (wr.setCell ⟨g, i, none⟩ (.int .u8 (y.toNat : Int))).cell? ⟨g, j, none⟩ = some v := by
                obtain ⟨v, hv⟩ := get_lt (l := Q.set i y) (k := j) (by rw [List.length_set]; omega)
                rw [bytes_at' hv] at hcj
                exact ⟨_, hcj⟩
              obtain ⟨vj, hvj⟩ := hcj2
              have hst2 := hst.1.stored j (.int .u8 (x.toNat : Int))
              rw [bytesC_set] at hst2
              have HST := Lib.hid hst2
              have HR2 : Hid (RevAt (revD n) ((Q.set i y).set j x) (i + 1)) := by
                have := HR.out.step (x := x) (y := y) (by rw [HM.out]; exact hlt) hx (by rw [HM.out, ← hj]; exact hy)
                rw [HM.out, ← hj] at this
                exact this
              have hij : (i : Int) < (j : Int) := by omega
              have hne : i ≠ j := by omega
              have hjw : IntKind.i64.wrap ((j : Int) - 1) = (j : Int) - 1 := IntWalk.i64_in _ (by omega)
              have hHT : ∃ t : Unit, True := ⟨(), trivial⟩
              clear hst hst2 hx hy hcj hHT
              have HJ := Lib.hid hj
              clear hj hlQ
              go_wp2_with fail
              go_roundw
              case rel => exact ⟨i + 1, _, by go_num, by have := HJ.out; congr 1; omega, by omega, HR2, HST.out.1, (HBQ.out.setCell (by simp; omega) _).setCell (by simp; omega) _⟩
              case measure => simp [intOf]; omega
            · have hd : ¬ ((i : Int) < ((N : Nat) : Int) - 1 - (i : Int)) := by omega
              have HQ : Hid (Q = (revD n).reverse) := HR.out.fin (by rw [HM.out]; omega)
              obtain ⟨A9, c9, hv9, _, _, hr9⟩ := Reads.of_own hown
              injection hv9 with hv9 _ hv9c
              subst hv9 hv9c
              have hlQ : (N) = Q.length := by rw [HR.out.len]; exact HM.out.symm
              rw [hlQ] at hr9 hd ⊢
              have hcv := conv_reads (c := cap) hr9
              clear hr9 hown HR hlQ
              go_wp2_with fail
              go_ret
              exact ⟨by rw [HQ.out, HRES.out]; rfl, HBQ.out⟩
      · have hk0 : (0 : Int) < (k : Int) := by have := HK.out; rw [wd_pos hm] at this; simp at this; omega
        have SM := small_any (wd m) (ok_wd m) _ A2 k c2 HK.out (by omega) wr HA.out (fun b hb => hb.1)
        rw [val_wd] at SM
        go_wp2_with fail
        refine SM.mono ?_
        rintro e w2 ⟨A3, c3, rfl, hc3, hr3, hb3⟩
        obtain ⟨c, hc⟩ : ∃ c : UInt8, c = UInt8.ofNat (48 + m % 10) := ⟨_, rfl⟩
        have hcn : c.toNat = 48 + m % 10 := by rw [hc]; simp; omega
        obtain ⟨r, hr⟩ : ∃ r, r = m % 10 := ⟨_, rfl⟩
        rw [← hr]
        have hr10 : (r : Int) < 10 := by omega
        have f1 : 48 + (r : Int) = (c.toNat : Int) := by omega
        have f2 : (c.toNat : Int) % 4294967296 = (c.toNat : Int) := by omega
        have f3 : (c.toNat : Int) % 256 = (c.toNat : Int) := by omega
        have hcr : revD m = c :: revD (m / 10) := by rw [hc]; exact revD_pos (by assumption)
        have HCR := Lib.hid hcr
        have ho3 := own_below HO.out hb3
        have HM0 := Lib.hid hm
        clear SM hr hcn hc hcr hm
        go_wp2_with (at_builtin; refine wpList_append_any _ rfl (.tmp 36) (.tmp 40) _ rfl (w.heap.size) 5 i0 _ 1 1 Tryz.underlying86 hi hz0 hz1 hz2 rfl (by omega) (u5) (L.length) (bytesC L) rfl (ho3.alloc _) _ (some ⟨w2.heap.size, 0, none⟩) (1) (1) (bytesC [c]) rfl (reads_newL _ _ [c] 1 rfl _ rfl _ rfl) (bytesC_one _) ?c1 ?c2 ?c3 ?_)
        try case c1 => have := congrArg List.length HL.out; have := HRD.out; simp only [List.length_append] at *; simp only [maxLen]; omega
        try case c2 => have := congrArg List.length HL.out; have := HRD.out; simp only [List.length_append] at *; omega
        try case c3 => have := HB.out.size; have := hb3.size; simp; omega
        intro v4 w4 ho4 hg4 hat4
        have hb4 : Below w.heap.size w w4 := ((HB.out.trans (hb3.mono HB.out.size)).alloc (by have := HB.out.size; have := hb3.size; omega) _).grown hg4 (by have := HB.out.size; have := hb3.size; simp; omega) (fun g hg => (own_lt HO.out hg).1)
        have hA4 : Hid (Reads (fun b => b < w4.heap.size ∧ v4.ownBlock ≠ some b) w4 1 A3 (wd (m / 10)).length (u32C (wd (m / 10)))) := by
          refine (hr3.keep fun b hb => (hg4.block b (by have := hb.2; simp; omega) (fun e => by have := (own_lt HO.out e.symm).2; have := hb.1; omega)).trans (Below.heap_alloc w2 _ b hb.2)).more fun b hb => ⟨by have := hb.2; have := hg4.size; simp at this; omega, fun e => ?_⟩
          rcases hat4 with h | h
          · rw [h] at e
            have := (own_lt HO.out e).2
            have := hb.1
            omega
          · rw [h] at e
            have := Option.some.inj e
            have := hb.2
            omega
        have HO4 : Hid (w4.ownsRow w.heap.size 5 1 v4 (L ++ [c]).length (bytesC (L ++ [c]))) := by
          show w4.ownsRow _ _ _ _ _ _
          rw [List.length_append, bytesC_append]
          exact ho4
        have hk3 : (wd (m / 10)).length ≤ 2 := (wd_two _).2 (by omega)
        clear hr3 hb3 ho3 ho4 hg4 hat4
        go_wp2_with fail
        go_roundg (m / 10)
        case measure => have := HM0.out; omega
        case rel => exact ⟨L ++ [c], m / 10, _, c3, A3, Nat.le_refl _, by omega, rfl, hk3, rfl, hA4, by show _ = _; rw [List.append_assoc, ← HL.out, HCR.out]; rfl, HO4, hb4⟩
end Go.Proofs.YtfaihilehdjfjaaGreatDoor
