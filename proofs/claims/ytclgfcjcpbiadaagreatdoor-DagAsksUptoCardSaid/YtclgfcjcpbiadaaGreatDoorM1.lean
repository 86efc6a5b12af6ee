/- Contracts: package bytes, numbers packed. -/
import Derived.Test.YtclgfcjcpbiadaaGreatDoorM0
import Derived.OwnWalk
import Derived.StillTailTactics
import Derived.RegionTactic
import Derived.Maps.RangeWalk
import Derived.Test.YtclgfcjcpbiadaaGreatDoorProg
set_option linter.unusedVariables false
set_option linter.unusedSimpArgs false
namespace Go.Proofs.YtclgfcjcpbiadaaGreatDoor
open Go.ChangeShapes Go.WideShapes Go.ChangeAt Go.RowKit

set_option maxHeartbeats 1000000 in
theorem putR_any (n : Nat) (hn : Hid (n < 2 ^ 64)) (w : World) :
    Calls Tryz.prog 97 #[.int .u64 n] w fun e w' => ∃ v, e = .returned v ∧ w'.ownsRow w.heap.size 5 1 v (putN n).length (bytesC (putN n)) ∧ Below w.heap.size w w' := by
  obtain ⟨i0, hi, hz0, hz1, hz2⟩ := info_parts infoByte
  go_enter Tryz.func97, Tryz.ntmps97
  go_wp2
  go_loopw [0, 3] (fun s0 v wr => ∃ (f cur : Nat) (pre : List UInt8), s0 = .int .u64 cur ∧ Hid (PutAt n f cur pre) ∧
      wr.ownsRow w.heap.size 5 1 v pre.length (bytesC pre) ∧ Below w.heap.size w wr) (fun s0 _ _ => (intOf s0).toNat)
  case atStart => exact ⟨9, n, [], rfl, PutAt.start hn.out, own_nil _ _ _ _, Below.refl _ _⟩
  obtain ⟨f, cur, pre, rfl, hpa, hown, hb⟩ := hrel
  have hlen := hpa.out.len
  by_cases hlt : cur < 128
  · have hd : decide ((127 : Int) < (cur : Int)) = false := by simp; omega
    have hc8 : (cur : Int) % 256 = (cur : Int) := by omega
    have HL := Lib.hid (hpa.out.last hlt)
    go_wp2_with (at_builtin; refine wpList_append_any _ rfl (.tmp 15) (.tmp 18) _ rfl (w.heap.size) 5 i0 _ 1 1 Tryz.underlying71 hi hz0 hz1 hz2 rfl (by omega) (u3) (pre.length) (bytesC pre) rfl (hown.alloc _) _ (some ⟨wr.heap.size, 0, none⟩) (1) (1) (bytesC [UInt8.ofNat cur]) rfl (reads_new _ _ _ _ (by rw [ofNat_toNat (by omega)]) _ rfl) (bytesC_one _) ?c1 ?c2 ?c3 ?_)
    try case c1 => simp only [maxLen]; omega
    try case c2 => omega
    try case c3 => have := hb.size; simp; omega
    intro v1 w1 hown1 hg1 hat1
    have hb1 : Below w.heap.size w w1 := (hb.alloc hb.size _).grown hg1 (by have := hb.size; simp; omega) (fun g hg => (own_lt hown hg).1)
    go_wp2
    go_ret
    exact ⟨_, rfl, by rw [HL.out, List.length_append, bytesC_append]; exact hown1, hb1⟩
  · have hd : decide ((127 : Int) < (cur : Int)) = true := by simp; omega
    obtain ⟨m, hm⟩ : ∃ m, m = cur % 128 := ⟨_, rfl⟩
    obtain ⟨q, hq⟩ : ∃ q, q = cur / 128 := ⟨_, rfl⟩
    have hm1 : (cur : Int).tmod 128 = (m : Int) := by rw [Int.tmod_eq_emod_of_nonneg (by omega)]; omega
    have hm2 : (cur : Int) % 128 = (m : Int) := by omega
    have hq1 : (cur : Int).tdiv 128 = (q : Int) := by rw [Int.tdiv_eq_ediv_of_nonneg (by omega)]; omega
    have hq2 : (cur : Int) / 128 = (q : Int) := by omega
    have hm8 : m < 128 := by omega
    have HX : Hid ((m : Int) + 128 = ((loB cur).toNat : Int)) := by show _ = _; rw [loB_toNat]; omega
    obtain ⟨f', hp'⟩ := hpa.out.step hlt
    rw [← hq] at hp'
    have HP := Lib.hid hp'
    have hqc : q < cur := by omega
    have hq3 : IntKind.u64.wrap (q : Int) = (q : Int) := u64_keep (by have := hpa.out.lt; omega)
    clear hm hq hp'
    go_wp2_with (at_builtin; refine wpList_append_any _ rfl (.tmp 6) (.tmp 11) _ rfl (w.heap.size) 5 i0 _ 1 1 Tryz.underlying71 hi hz0 hz1 hz2 rfl (by omega) (u3) (pre.length) (bytesC pre) rfl (hown.alloc _) _ (some ⟨wr.heap.size, 0, none⟩) (1) (1) (bytesC [loB cur]) rfl (reads_new _ _ _ _ HX.out _ rfl) (bytesC_one _) ?c1 ?c2 ?c3 ?_)
    try case c1 => simp only [maxLen]; omega
    try case c2 => omega
    try case c3 => have := hb.size; simp; omega
    intro v1 w1 hown1 hg1 hat1
    have hb1 : Below w.heap.size w w1 := (hb.alloc hb.size _).grown hg1 (by have := hb.size; simp; omega) (fun g hg => (own_lt hown hg).1)
    go_wp2
    exact ⟨⟨f', q, pre ++ [loB cur], rfl, HP, by rw [List.length_append, bytesC_append]; exact hown1, hb1⟩, by simp [intOf]; omega⟩

set_option maxHeartbeats 1000000 in
theorem putSR_any (n : Int) (hn : (Lit.int .i64 n).wf = true) (w : World) :
    Calls Tryz.prog 72 #[.int .i64 n] w fun e w' => ∃ v, e = .returned v ∧ w'.ownsRow w.heap.size 5 1 v (putS n).length (bytesC (putS n)) ∧ Below w.heap.size w w' := by
  have hb := bounds_i64 hn
  have HL : Hid (zz n < 2 ^ 64) := zz_lt hb
  by_cases h0 : n < 0
  · have HZ : Hid (IntKind.u64.wrap (IntKind.u64.wrap (IntKind.u64.wrap (wrap64 (-wrap64 (n + 1))) * 2) + 1) = ((zz n : Nat) : Int)) := by
      show _ = _
      rw [wrap_u64, wrap_u64, wrap_u64, wrap_i64, wrap_i64]
      unfold zz
      split <;> omega
    have hd : decide (n < 0) = true := by simpa using h0
    clear hn hb h0
    go_enter Tryz.func72, Tryz.ntmps72
    go_wp2_with fail
    rw [HZ.out]
    refine (putR_any (zz n) HL w).mono ?_
    rintro e w1 ⟨v, rfl, ho, hb⟩
    go_wp2
    go_ret
    exact ⟨v, rfl, ho, hb⟩
  · have HZ : Hid (IntKind.u64.wrap (IntKind.u64.wrap n * 2) = ((zz n : Nat) : Int)) := by
      show _ = _
      rw [wrap_u64, wrap_u64]
      unfold zz
      split <;> omega
    have hd : decide (n < 0) = false := by simpa using h0
    clear hn hb
    go_enter Tryz.func72, Tryz.ntmps72
    go_wp2_with fail
    rw [HZ.out]
    refine (putR_any (zz n) HL w).mono ?_
    rintro e w1 ⟨v, rfl, ho, hb⟩
    go_wp2
    go_ret
    exact ⟨v, rfl, ho, hb⟩
end Go.Proofs.YtclgfcjcpbiadaaGreatDoor

namespace Go.Proofs.YtclgfcjcpbiadaaGreatDoor
open Go.ChangeShapes Go.WideShapes Go.ChangeAt Go.RowKit

theorem intsC_at_ {l : List Int} {k : Nat} {x : Int} (h : l[k]? = some x) : (intsC l)[k]? = some (.int .i64 x) := by simp [intsC, h]
/-- numbers as bytes -/
def numsL (l : List Int) : List UInt8 := l.flatMap fun x => putN x.toNat
theorem numsL_len : ∀ (l : List Int), (numsL l).length ≤ 10 * l.length
  | [] => by simp [numsL]
  | x :: l => by
    have := numsL_len l
    have h := (putN_length x.toNat).2
    simp only [numsL, List.flatMap_cons, List.length_append, List.length_cons] at this ⊢
    omega
theorem numsL_append (a b : List Int) : numsL (a ++ b) = numsL a ++ numsL b := by simp [numsL]
theorem numsL_take {l : List Int} {k : Nat} {x : Int} (h : l[k]? = some x) : numsL (l.take (k + 1)) = numsL (l.take k) ++ putN x.toNat := by
  rw [List.take_add_one, h, numsL_append]; simp [numsL]
theorem u64_nat {x : Int} (h0 : 0 ≤ x) (h1 : x ≤ 9223372036854775807) : IntKind.u64.wrap x = ((x.toNat : Nat) : Int) := by
  rw [wrap_u64]; omega

theorem Evo.of_append' {w w' : World} {o o' : Option Nat} (h : w.grownBy w' o) (ho : o' = o ∨ o' = some w.heap.size) : Evo w o w' o' := Evo.of_append h ho
set_option maxHeartbeats 4000000 in
theorem refNums_any (xs : List Int) (pre : List UInt8) (v : Value) (base : Nat) (D : Nat → Prop) (A : Option Addr) (n c : Nat) (w : World)
    (hown : w.ownsRow base 5 1 v pre.length (bytesC pre)) (hbase : base ≤ w.heap.size) (hr : Reads D w 1 A n (intsC xs)) (hD : ∀ k, D k → k < w.heap.size ∧ v.ownBlock ≠ some k)
    (hn : xs.length = n) (hn1 : n ≤ 100) (hp : pre.length ≤ 1000000) (hx : ∀ x ∈ xs, 0 ≤ x ∧ x ≤ 9223372036854775807) :
    Calls Tryz.prog 71 #[v, .slice A n c] w fun e w' => ∃ v', e = .returned v' ∧ w'.ownsRow base 5 1 v' (pre ++ numsL xs).length (bytesC (pre ++ numsL xs)) ∧ Evo w v.ownBlock w' v'.ownBlock := by
  obtain ⟨i0, hi, hz0, hz1, hz2⟩ := info_parts infoByte
  have HR := Lib.hid hr
  have HD := Lib.hid hD
  have HN := Lib.hid hn
  have HX := Lib.hid hx
  have HP := Lib.hid hp
  clear hr hD hn hx hp
  go_enter Tryz.func71, Tryz.ntmps71
  go_wp2_with fail
  go_loopw [0, 5] (fun s0 s5 wr => ∃ k : Nat, k ≤ n ∧ s5 = .int .i64 k ∧ wr.ownsRow base 5 1 s0 (pre ++ numsL (xs.take k)).length (bytesC (pre ++ numsL (xs.take k))) ∧ Hid (Evo w v.ownBlock wr s0.ownBlock)) (fun _ s5 _ => n - (intOf s5).toNat)
  case atStart => exact ⟨0, by omega, rfl, by simpa [numsL] using hown, Evo.refl _ _⟩
  case round =>
    clear hown
    obtain ⟨k, hk, rfl, hown, HE⟩ := hrel
    by_cases hlt : k < n
    · obtain ⟨x, hx⟩ : ∃ x, xs[k]? = some x := get_lt (by rw [HN.out]; exact hlt)
      obtain ⟨b, off, hA, hb, hcell⟩ := HR.out.at_ (by omega) (by omega)
      subst hA
      have hxb := HX.out x (List.mem_of_getElem? hx)
      have hcx : wr.cell? ⟨b, off + k, none⟩ = some (.int .i64 x) := by
        rw [HE.out.cell (p := ⟨b, off + k, none⟩) (HD.out b hb).1 (HD.out b hb).2]
        exact hcell k _ (intsC_at_ hx)
      have hu := u64_nat hxb.1 hxb.2
      have hlen := numsL_len (xs.take k)
      have hst : Hid (pre ++ numsL (xs.take (k + 1)) = (pre ++ numsL (xs.take k)) ++ putN x.toNat) := by show _ = _; rw [numsL_take hx, List.append_assoc]
      have hpl : (pre ++ numsL (xs.take k)).length ≤ 1001000 := by
        have := HP.out
        simp only [List.length_append, List.length_take] at hlen ⊢
        omega
      have HQ : Hid (x.toNat < 2 ^ 64) := by show _ < _; omega
      generalize pre ++ numsL (xs.take k) = acc at hown hst hpl
      generalize x.toNat = q at hu hst HQ
      clear hx hxb hlen
      go_wp2_with fail
      refine (putR_any q HQ wr).mono ?_
      rintro e w3 ⟨v3, rfl, ho3, hb3⟩
      obtain ⟨A3, c3, hv3, _, _, hr3⟩ := Reads.of_own ho3
      subst hv3
      have HE3 : Hid (Evo w v.ownBlock w3 u0.ownBlock) := HE.out.trans (Evo.of_below hb3)
      have hown3 := own_keep hown fun g hg => hb3.block g (own_lt hown hg).2
      have hpn := (putN_length q).2
      have HR3 := Lib.hid hr3
      have hs3 : base ≤ w3.heap.size := Nat.le_trans hbase HE3.out.size
      clear ho3 hb3 hr3 hcx
      go_wp2_with (at_builtin; refine wpList_append_any _ rfl (.tmp 12) (.tmp 18) _ rfl (base) 5 i0 _ 1 1 Tryz.underlying71 hi hz0 hz1 hz2 rfl (by omega) (u0) (acc.length) (bytesC acc) rfl (hown3) _ (A3) ((putN q).length) (c3) (bytesC (putN q)) rfl (HR3.out) (bytesC_one _) ?c1 ?c2 ?c3 ?_)
      try case c1 => simp only [maxLen]; omega
      try case c2 => omega
      try case c3 => exact hs3
      intro v4 w4 ho4 hg4 hat4
      have HE4 : Hid (Evo w v.ownBlock w4 v4.ownBlock) := HE3.out.trans (Evo.of_append' hg4 hat4)
      rw [← bytesC_append] at ho4
      clear hown3 hg4 hat4 HR3 hs3
      go_wp2_with fail
      first
        | exact ⟨⟨k + 1, by omega, by go_num, by rw [hst.out]; simpa using ho4, HE4⟩, by simp [intOf]; omega⟩
        | (go_roundw
           case rel => exact ⟨k + 1, by omega, by go_num, by rw [hst.out]; simpa using ho4, HE4⟩
           case measure => simp [intOf]; omega)
    · have hkn : k = n := by omega
      have HF : Hid (xs.take k = xs) := by show _ = _; exact List.take_of_length_le (by rw [HN.out]; omega)
      rw [HF.out] at hown
      clear hkn
      go_wp2_with fail
      go_ret
      exact ⟨_, rfl, hown, HE.out⟩
end Go.Proofs.YtclgfcjcpbiadaaGreatDoor

namespace Go.Proofs.YtclgfcjcpbiadaaGreatDoor
open Go.ChangeShapes Go.WideShapes Go.ChangeAt Go.RowKit

/-- what Num reads -/
def rdNum (l : List UInt8) (most : Nat) (at_ : Nat) (bad : Bool) : Nat × Nat × Bool :=
  if bad then (0, at_, true) else
  match getN (l.drop at_) with
  | none => (0, at_, true)
  | some (n, k) => if n ≤ most then (n, at_ + k, false) else (0, at_, true)

end Go.Proofs.YtclgfcjcpbiadaaGreatDoor

namespace Go.Proofs.YtclgfcjcpbiadaaGreatDoor
open Go.ChangeShapes Go.WideShapes Go.ChangeAt Go.RowKit

/-- what Signed reads -/
def rdInt (l : List UInt8) (at_ : Nat) (bad : Bool) : Int × Nat × Bool :=
  if bad then (0, at_, true) else
  match getS (l.drop at_) with
  | none => (0, at_, true)
  | some (n, k) => (n, at_ + k, false)

theorem rdInt_bd {l : List UInt8} {at_ : Nat} {bad : Bool} : -9223372036854775808 ≤ (rdInt l at_ bad).1 ∧ (rdInt l at_ bad).1 ≤ 9223372036854775807 := by
  unfold rdInt
  split
  · simp
  · cases h : getS (l.drop at_) with
    | none => simp
    | some x =>
      obtain ⟨n, k⟩ := x
      unfold getS at h
      cases hg : getN (l.drop at_) with
      | none => rw [hg] at h; cases h
      | some y =>
        obtain ⟨m, k'⟩ := y
        rw [hg] at h
        simp only [Option.map_some, Option.some.injEq, Prod.mk.injEq] at h
        obtain ⟨rfl, _⟩ := h
        exact unzz_bd (getN_lt hg)
end Go.Proofs.YtclgfcjcpbiadaaGreatDoor

namespace Go.Proofs.YtclgfcjcpbiadaaGreatDoor
open Go
section
variable {P : Program} {ops : Array Oper} {md : Region.Mode} {w : World}
def sinkFrom (md : Region.Mode) (ops : Array Oper) (m n : Nat) : Bool :=
  (List.range n).all fun i => decide (i < m) || (List.range (n + 1)).any fun j => decide (i < j) && Region.waitsFor md ops j i
theorem tail_waitsF {m n : Nat} {listed : Array Bool} (hs : sinkFrom md ops m n = true) (hc : Region.chainB md ops n = true) (hn : n < ops.size) (inv : HeadInv md ops n listed) :
    ∀ (d i : Nat), n - i = d → m ≤ i → i < n → listed.getD i true = false → ∀ t, n ≤ t → t ∉ Region.ready md ops listed := by
  intro d
  induction d using Nat.strongRecOn with
  | _ d ih =>
    intro i hd hmi hi hun t ht hr
    obtain ⟨_, ot, hot, hall⟩ := mem_ready.1 hr
    have htlt : t < ops.size := (Array.getElem?_eq_some_iff.1 hot).1
    by_cases htn : t = n
    · subst htn
      have h1 := List.all_eq_true.1 hs i (List.mem_range.2 hi)
      simp only [Bool.or_eq_true, decide_eq_true_eq] at h1
      have h1 := h1.resolve_left (by omega)
      obtain ⟨j, hj, hj2⟩ := List.any_eq_true.1 h1
      simp only [Bool.and_eq_true, decide_eq_true_eq] at hj2
      obtain ⟨oj, hoj, e, he, hb, hon⟩ := Region.waitsFor_spec hj2.2
      have hjle : j ≤ t := by have := List.mem_range.1 hj; omega
      by_cases hjt : j = t
      · subst hjt
        have : oj = ot := Option.some.inj (hoj.symm.trans hot)
        subst this
        have h2 := hall e he hb
        rw [hon, getD_both hun] at h2
        cases h2
      · cases hl : listed.getD j false with
        | true =>
          have h2 := inv.closed j oj hoj hl e he hb
          rw [hon, getD_both hun] at h2
          cases h2
        | false =>
          have hjs : j < listed.size := by rw [inv.size]; omega
          exact ih (t - j) (by omega) j rfl (by omega) (by omega) (getD_in hjs hl) t (Nat.le_refl _) hr
    · have h1 := List.all_eq_true.1 hc t (List.mem_range.2 htlt)
      simp only [Bool.or_eq_true, decide_eq_true_eq] at h1
      rcases h1 with h1 | h1
      · omega
      · obtain ⟨o', ho', e, he, hb, hon⟩ := Region.waitsFor_spec h1
        have : o' = ot := Option.some.inj (ho'.symm.trans hot)
        subst this
        have h2 := hall e he hb
        rw [hon, getD_both (inv.tail (t - 1) (by omega) (by omega))] at h2
        cases h2
theorem wpAnyL_firstF {m n i : Nat} {oi : Oper} {v : Value} {L : Array Bool → Act → Prop} (hi : ops[i]? = some oi) (hsel : ∀ (j : Nat) (o : Oper) cs b, ops[j]? = some o → o.op ≠ .select cs b)
    (hs : sinkFrom md ops m n = true) (hc : Region.chainB md ops n = true) (hn : n < ops.size) (hin : i < n) (hmi : m ≤ i)
    (hdone : ∀ listed a, L listed a → ∀ j ∈ Region.ready md ops listed, n ≤ j) :
    ∀ (f : Nat) (listed : Array Bool) (a : Act), HeadInv md ops n listed →
      (∀ j oj, ops[j]? = some oj → j ≠ i → listed.getD j true = false → (∀ e ∈ oj.after, Region.binds md e = true → e.on ≠ i) → oi.apart ops oj = true) →
      i ∈ Region.ready md ops listed → YieldsAt P ops w oi v a →
      wpAnyL P md ops w n L f (listed.setIfInBounds i true) (a.put oi.dst v) → wpAnyL P md ops w n L (f + 1) listed a := by
  intro f
  induction f with
  | zero =>
    intro listed a inv _ hr hy H
    have hun := (mem_ready.1 hr).1
    refine ⟨fun h => (by rw [h] at hr; cases hr), fun j hj => ?_⟩
    have hjn : j < n := by
      rcases Nat.lt_or_ge j n with h | h
      · exact h
      · exact absurd hj (tail_waitsF hs hc hn inv _ i rfl hmi hin hun j h)
    refine ⟨hjn, ?_⟩
    by_cases hji : j = i
    · subst hji; exact hy.stOp hi H
    · have := hdone _ _ H j (ready_mono hj hji)
      omega
  | succ f ih =>
    intro listed a inv hfree hr hy H
    have hun := (mem_ready.1 hr).1
    refine ⟨fun h => (by rw [h] at hr; cases hr), fun j hj => ?_⟩
    have hjn : j < n := by
      rcases Nat.lt_or_ge j n with h | h
      · exact h
      · exact absurd hj (tail_waitsF hs hc hn inv _ i rfl hmi hin hun j h)
    refine ⟨hjn, ?_⟩
    by_cases hji : j = i
    · subst hji; exact hy.stOp hi H
    · have h1 := (H.2 j (ready_mono hj hji)).2
      obtain ⟨hjun, oj, hoj, hall⟩ := mem_ready.1 hj
      have hnot : ∀ e ∈ oj.after, Region.binds md e = true → e.on ≠ i := fun e he hb heq => by
        have h1 := hall e he hb
        rw [heq, getD_both hun] at h1
        cases h1
      have h2 := stOp_put hoj (hfree j oj hoj hji hjun hnot) (fun cs b => hsel i oi cs b hi) (fun cs b => hsel j oj cs b hoj) hy h1
      have hfree' : ∀ k ok, ops[k]? = some ok → k ≠ i → (listed.setIfInBounds j true).getD k true = false →
          (∀ e ∈ ok.after, Region.binds md e = true → e.on ≠ i) → oi.apart ops ok = true := fun k ok hk hki hun hno => by
        refine hfree k ok hk hki ?_ hno
        by_cases hjk : j = k
        · subst hjk; exact hjun
        · rw [getD_set_ne true hjk] at hun; exact hun
      refine stOp_mono (fun a' h3 => ih (listed.setIfInBounds j true) a' (inv.set hj hjn) hfree' (ready_mono hr (Ne.symm hji)) h3.1 ?_) h2
      rw [Array.setIfInBounds_comm _ _ hji]
      exact h3.2
theorem wpAnyL_lexF {m n g : Nat} {Lq : Act → Prop} (hsel : Region.noSelect ops = true) (hs : sinkFrom md ops m n = true) (hc : Region.chainB md ops n = true) (hn : n < ops.size) :
    ∀ (l : List Oper) (k : Nat) (listed : Array Bool) (a : Act), (∀ j, j < l.length → l[j]? = ops[k + j]?) → k + l.length = n → m ≤ k → HeadInv md ops n listed →
    Region.lexHead md ops g l.length k listed = true → wpStill P ops w Lq l a →
    wpAnyL P md ops w n (fun listed' a' => Region.seqB md ops g n listed' = true ∧ Lq a') l.length listed a
  | [], k, listed, a, _, hk, _, _, hB, h => by
    have : k = n := by simpa using hk
    subst this
    exact ⟨by simpa [Region.lexHead] using hB, h⟩
  | o :: l, k, listed, a, hl, hk, hmk, inv, hB, h => by
    have h0 : ops[k]? = some o := by simpa using (hl 0 (by simp)).symm
    simp only [List.length_cons, Region.lexHead, Bool.and_eq_true] at hB
    obtain ⟨⟨hr, hf⟩, hB'⟩ := hB
    have hkn : k < n := by simp only [List.length_cons] at hk; omega
    have hr' : k ∈ Region.ready md ops listed := by simpa using hr
    have hst : stOp P ops w k (wpStill P ops w Lq l) a := by unfold stOp; simp only [h0]; exact h
    obtain ⟨v, hy, hK⟩ := yieldsAt_of_stOp h0 hst
    exact wpAnyL_firstF h0 (Region.noSelect_spec hsel) hs hc hn hkn hmk (fun listed' a' hL => seqB_ready hL.1) l.length listed a inv (Region.free_spec h0 hf) hr' hy
      (wpAnyL_lexF hsel hs hc hn l (k + 1) _ _ (fun j hj => by have := hl (j + 1) (by simp; omega); simpa [Nat.add_assoc, Nat.add_comm 1 j] using this) (by simp only [List.length_cons] at hk; omega) (by omega) (inv.set hr' hkn) hB' hK)
end
/-- what the kernel looks at -/
def moveTailB (md : Region.Mode) (ops : Array Oper) (n : Nat) : Bool :=
  Region.noSelect ops && decide (n < ops.size) && decide (1 ≤ n) && sinkFrom md ops 1 n && Region.chainB md ops n && Region.free md ops (Array.replicate ops.size false) 0 && (Region.ready md ops (Array.replicate ops.size false)).contains 0 &&
    Region.lexHead md ops (ops.size - n) (n - 1) 1 ((Array.replicate ops.size false).setIfInBounds 0 true)
theorem wp_region_move_tail {P : Program} {id : Nat} {Q : Exit → Act → World → Prop} {a : Act} {w : World} {o : Oper} {l : List Oper} (n : Nat) (v : Value) (hm : P.follows .mixedOrders = true) (hB : moveTailB .any (o :: l).toArray n = true)
    (hQ : ∀ c a w, Q (.panic c) (a.put o.dst v) w → Q (.panic c) a w) (hy : Yields P (o :: l).toArray o v a)
    (h : wpStill P (o :: l).toArray w.drew (fun a' => wpList P (o :: l).toArray Q (l.drop (n - 1)) a' w.drew) (l.take (n - 1)) (a.put o.dst v)) : (Code.region id (o :: l).toArray true).wp P Q a w := by
  simp only [moveTailB, Bool.and_eq_true, decide_eq_true_eq] at hB
  obtain ⟨⟨⟨⟨⟨⟨⟨hsel, hn⟩, hn1⟩, hs⟩, hc⟩, hf⟩, hr⟩, hlex⟩ := hB
  have hn' : n < l.length + 1 := by simpa using hn
  have hsz : (o :: l).toArray.size = l.length + 1 := by simp
  have inv0 : HeadInv .any (o :: l).toArray n (Array.replicate (o :: l).toArray.size false) :=
    ⟨by simp, fun j oj _ hl => (by rw [getD_replicate_false] at hl; cases hl), fun t _ ht => getD_in (by simpa using ht) (getD_replicate_false _ _)⟩
  have hr' : 0 ∈ Region.ready .any (o :: l).toArray (Array.replicate (o :: l).toArray.size false) := by simpa using hr
  have inv1 := inv0.set hr' (by omega)
  have htl : (l.take (n - 1)).length = n - 1 := by simp; omega
  have hdl : (l.drop (n - 1)).length = (o :: l).toArray.size - n := by simp; omega
  have H := wpAnyL_lexF (md := .any) (w := w.drew) (m := 1) (g := (o :: l).toArray.size - n) hsel hs hc hn (l.take (n - 1)) 1 _ _ (fun j hj => by
    have hj' : j < n - 1 := by rw [htl] at hj; exact hj
    rw [List.getElem?_take_of_lt hj', show 1 + j = j + 1 from by omega]
    simp) (by rw [htl]; omega) (Nat.le_refl _) inv1 (by rw [htl]; exact hlex) h
  refine wp_region_any hm ?_
  have := wpAny_of_head (Q' := Q) (g := (o :: l).toArray.size - n) (fun listed a' hL => by
    have := wpAny_of_seq (md := .any) (Q' := Q) (l.drop (n - 1)) n listed a' w.drew (fun j => by
      rw [List.getElem?_drop, show n + j = (n - 1 + j) + 1 from by omega]
      simp) (by rw [hdl]; exact hL.1) hL.2
    rwa [hdl] at this) _ _ _ H
  rw [htl, show n - 1 + ((o :: l).toArray.size - n) = l.length from by rw [hsz]; omega] at this
  show wpAny P .any (o :: l).toArray Q (o :: l).toArray.size _ a w.drew
  rw [hsz]
  rw [hsz] at this hf hr
  exact wpAny_take (i := 0) (oi := o) (by simp) hsel hf hr hQ hy this
end Go.Proofs.YtclgfcjcpbiadaaGreatDoor

namespace Go.Proofs.YtclgfcjcpbiadaaGreatDoor
open Go.ChangeMaps (setBlock modify_eq_set set_perm map_eraseIdx heap_setBlock_same heap_setBlock_other)
open Go.MapKept Go.WideShapes Go.RowKit
open Go.WideElems (Fit rd rg pl rd_key rd_val rg_of rd_mk other_key)
open Go.Maps (Keyed)

/-- an element as it stands -/
def heldR (v : Value) : Option (DataW Value × List MemPlace) := some (.held v, [])
def ents (es : Array MapEntry) : List (Value × Value) := es.toList.map fun e => (e.key, e.val)
/-- block b is a map whose entries are those of l -/
def MapL (w : World) (k : TypeId) (b : Nat) (l : List (Value × Value)) : Prop :=
  ∃ es clock, w.heap[b]? = some (.map es clock) ∧ Fit Tryz.prog k heldR es clock ∧ (ents es).Perm l
section
variable {w : World} {k e t : TypeId} {b : Nat} {l : List (Value × Value)}
theorem rd_held {P : Program} {x : MapEntry} {kl : Lit} (h : keyOf P k x.key = some kl) : rd P k heldR x = some (kl, .held x.val) := by
  unfold rd
  rw [h]
  rfl
theorem pick_perm {α : Type} (l : List α) (j : Nat) (x : α) (h : l[j]? = some x) : l.Perm (x :: l.eraseIdx j) := by
  obtain ⟨h1, h2⟩ := List.getElem?_eq_some_iff.1 h
  have := set_perm l j h1 x
  rw [← h2, List.set_getElem_self, h2] at this
  exact this
theorem MapL.perm {l' : List (Value × Value)} (h : MapL w k b l) (hp : l.Perm l') : MapL w k b l' := by
  obtain ⟨es, c, hb, F, h⟩ := h
  exact ⟨es, c, hb, F, h.trans hp⟩
theorem MapL.lt (h : MapL w k b l) : b < w.heap.size := by
  obtain ⟨es, c, hb, _⟩ := h
  exact (Array.getElem?_eq_some_iff.1 hb).1
theorem MapL.made (w : World) (k : TypeId) : MapL (w.alloc (.map #[] 0)) k w.heap.size [] :=
  ⟨#[], 0, (MapKept.heap_alloc w _).1, ⟨by simp, stamped_empty 0, by simp⟩, List.Perm.refl _⟩
theorem MapL.keep {w' : World} (h : MapL w k b l) (hk : w'.heap[b]? = w.heap[b]?) : MapL w' k b l := by
  obtain ⟨es, c, hb, F, h⟩ := h
  exact ⟨es, c, hk.trans hb, F, h⟩
theorem MapL.no_cells (h : MapL w k b l) : ∀ cs t, w.heap[b]? ≠ some (.cells cs t) := by
  obtain ⟨es, c, hb, _⟩ := h
  intro cs t e
  rw [hb] at e; cases e
theorem MapL.keys (h : MapL w k b l) : ∀ p ∈ l, ∃ kl, keyOf Tryz.prog k p.1 = some kl := by
  obtain ⟨es, c, hb, F, h⟩ := h
  intro p hp
  obtain ⟨x, hx, rfl⟩ := List.mem_map.1 (h.mem_iff.2 hp)
  obtain ⟨y, hy⟩ := F.reads x hx
  exact ⟨_, rd_key hy⟩
theorem ents_apart {es : Array MapEntry} {c : Nat} (F : Fit Tryz.prog k heldR es c) : (ents es).Pairwise (fun p q => p.1 ≠ q.1) := by
  unfold ents
  rw [List.pairwise_map]
  exact ((stamped_iff es c).1 F.stamped).2.2
theorem MapL.apart (h : MapL w k b l) : l.Pairwise (fun p q => p.1 ≠ q.1) := by
  obtain ⟨es, c, hb, F, h⟩ := h
  exact (h.pairwise_iff (fun {a b} (h : a.1 ≠ b.1) => h.symm)).1 (ents_apart F)
theorem MapL.one (h : MapL w k b l) {p q : Value × Value} (hp : p ∈ l) (hq : q ∈ l) (he : p.1 = q.1) : p = q := by
  have ha := h.apart
  clear h
  induction l with
  | nil => cases hp
  | cons x l ih =>
    obtain ⟨h1, h2⟩ := List.pairwise_cons.1 ha
    rcases List.mem_cons.1 hp with ep | hp
    · rcases List.mem_cons.1 hq with eq | hq
      · rw [ep, eq]
      · rw [ep] at he; exact absurd he (h1 q hq)
    · rcases List.mem_cons.1 hq with eq | hq
      · rw [eq] at he; exact absurd he.symm (h1 p hp)
      · exact ih hp hq h2
theorem MapL.hit (h : MapL w k b l) (K : Keyed Tryz.prog k) (ht : Tryz.prog.underlying t = some (.map k e)) {z : Value} (hz : (zeroValue e).run Tryz.prog w = .ok z w) {key v : Value} (hm : (key, v) ∈ l) (c : Bool) :
    (Instr.lookup t (.map (some b)) key c).run Tryz.prog w = .ok (if c then .tuple #[v, .bool true] else v) w := by
  have h0 := h
  obtain ⟨es, cl, hb, F, hp⟩ := h
  obtain ⟨kl, hkl⟩ := h0.keys _ hm
  rcases Maps.fit_look c K ht hz hb F hkl with ⟨_, h2, _⟩ | ⟨e0, y, h1, h2, h3, _⟩
  · obtain ⟨x, hx, hx2⟩ := List.mem_map.1 (hp.mem_iff.2 hm)
    exact absurd (congrArg Prod.fst hx2) (h2 x hx)
  · have : (e0.key, e0.val) = (key, v) := h0.one (hp.mem_iff.1 (List.mem_map.2 ⟨e0, h1, rfl⟩)) hm h2
    rw [h3, show e0.val = v from congrArg Prod.snd this]
theorem MapL.miss (h : MapL w k b l) (K : Keyed Tryz.prog k) (ht : Tryz.prog.underlying t = some (.map k e)) {z : Value} (hz : (zeroValue e).run Tryz.prog w = .ok z w) {key : Value} {kl : Lit} (hkl : keyOf Tryz.prog k key = some kl) (hm : ∀ p ∈ l, p.1 ≠ key) (c : Bool) :
    (Instr.lookup t (.map (some b)) key c).run Tryz.prog w = .ok (if c then .tuple #[z, .bool false] else z) w := by
  obtain ⟨es, cl, hb, F, hp⟩ := h
  rcases Maps.fit_look c K ht hz hb F hkl with ⟨h1, h2, _⟩ | ⟨e0, y, h1, h2, _⟩
  · exact h1
  · exact absurd h2 (hm (e0.key, e0.val) (hp.mem_iff.1 (List.mem_map.2 ⟨e0, h1, rfl⟩)))
theorem MapL.len (h : MapL w k b l) (ht : Tryz.prog.underlying t = some (.map k e)) (ty : TypeId) : (Builtin.len_ #[t] ty #[.map (some b)]).run Tryz.prog w = .ok (.int .i64 l.length) w := by
  obtain ⟨es, cl, hb, F, hp⟩ := h
  have : l.length = es.size := by rw [← hp.length_eq]; simp [ents]
  rw [this]
  simp [Builtin.len_, run_underlying ht, MapKept.run_getObj_map hb, goInt, Result.andThen]
theorem turned_of {es es' : Array MapEntry} {c c' : Nat} (hb : w.heap[b]? = some (.map es c)) : w.mapTurned (setBlock w b (.map es' c')) b := ⟨es, c, es', c', hb, rfl⟩
/-- 'm[k] = v' at a key that is not there -/
theorem MapL.store (h : MapL w k b l) (K : Keyed Tryz.prog k) (ht : Tryz.prog.underlying t = some (.map k e)) (hn : l.length < maxLen) {key v : Value} {kl : Lit} (hkl : keyOf Tryz.prog k key = some kl) (hm : ∀ p ∈ l, p.1 ≠ key) :
    ∃ w', (Instr.mapUpdate t (.map (some b)) key v).run Tryz.prog w = .ok () w' ∧ MapL w' k b (l ++ [(key, v)]) ∧ w.mapTurned w' b := by
  obtain ⟨es, cl, hb, F, hp⟩ := h
  have hsz : es.size = l.length := by rw [← hp.length_eq]; simp [ents]
  rcases K.find w hkl es.toList F.keys with ⟨h1, h2⟩ | ⟨j, e0, h1, h2, h3⟩
  · refine ⟨setBlock w b (.map (es.push ⟨key, v, cl⟩) (cl + 1)), ?_, ⟨es.push ⟨key, v, cl⟩, cl + 1, heap_setBlock_same hb _, ⟨by simp; omega, stamped_push F.stamped h2, ?_⟩, ?_⟩, turned_of hb⟩
    · simp [Instr.mapUpdate, run_underlying ht, MapKept.run_getObj_map hb, K.check w false hkl, h1, MapKept.run_setObj_map _ hb, Result.andThen, setBlock]
    · intro x hx
      simp only [Array.toList_push, List.mem_append, List.mem_singleton] at hx
      rcases hx with hx | rfl
      · exact F.reads x hx
      · exact ⟨_, rd_held hkl⟩
    · unfold ents at hp ⊢
      rw [Array.toList_push, List.map_append]
      exact hp.append_right _
  · exact absurd h3 (hm (e0.key, e0.val) (hp.mem_iff.1 (List.mem_map.2 ⟨e0, List.mem_of_getElem? h2, rfl⟩)))
theorem perm_tail {α β : Type} {l l' : List (α × β)} {p q : α × β} (hp : (p :: l).Perm (q :: l')) (he : p = q) : l.Perm l' := by
  subst he; exact hp.cons_inv
/-- .. at one that is there -/
theorem MapL.over (h : MapL w k b l) (K : Keyed Tryz.prog k) (ht : Tryz.prog.underlying t = some (.map k e)) {key v v0 : Value} {l' : List (Value × Value)} (hm : l.Perm ((key, v0) :: l')) :
    ∃ w', (Instr.mapUpdate t (.map (some b)) key v).run Tryz.prog w = .ok () w' ∧ MapL w' k b ((key, v) :: l') ∧ w.mapTurned w' b := by
  have h0 := h
  obtain ⟨kl, hkl⟩ := h.keys (key, v0) (hm.mem_iff.2 (by simp))
  obtain ⟨es, cl, hb, F, hp⟩ := h
  rcases K.find w hkl es.toList F.keys with ⟨h1, h2⟩ | ⟨j, e0, h1, h2, h3⟩
  · obtain ⟨x, hx, hx2⟩ := List.mem_map.1 ((hp.trans hm).mem_iff.2 (List.mem_cons_self ..))
    exact absurd (congrArg Prod.fst hx2) (h2 x hx)
  · have hj : es[j]? = some e0 := by simpa using h2
    have hjl : j < es.toList.length := (List.getElem?_eq_some_iff.1 h2).1
    have hlist : (es.modify j (fun e' => { e' with key := key, val := v })).toList = es.toList.set j { e0 with key := key, val := v } := by rw [Array.toList_modify, modify_eq_set _ _ _ _ h2]
    have hkeyf : ∀ e', es[j]? = some e' → ({ e' with key := key, val := v } : MapEntry).key = e'.key := fun e' he' => by rw [hj] at he'; cases he'; exact h3.symm
    refine ⟨setBlock w b (.map (es.modify j (fun e' => { e' with key := key, val := v })) cl), ?_, ⟨es.modify j (fun e' => { e' with key := key, val := v }), cl, heap_setBlock_same hb _, ⟨by simpa using F.size, stamped_modify F.stamped _ _ (fun _ _ => rfl) (fun e' _ he' => hkeyf e' he'), ?_⟩, ?_⟩, turned_of hb⟩
    · simp [Instr.mapUpdate, run_underlying ht, MapKept.run_getObj_map hb, K.check w false hkl, h1, hj, h3, K.stays w hkl, MapKept.run_setObj_map _ hb, Result.andThen, setBlock]
    · intro x hx
      rw [hlist] at hx
      rcases List.mem_or_eq_of_mem_set hx with hx | rfl
      · exact F.reads x hx
      · exact ⟨_, rd_held (x := { e0 with key := key, val := v }) hkl⟩
    · unfold ents at hp ⊢
      rw [hlist, List.map_set]
      have e1 : ((es.toList.map fun e => (e.key, e.val)).set j (key, v)).Perm ((key, v) :: (es.toList.map fun e => (e.key, e.val)).eraseIdx j) := set_perm _ _ (by simpa using hjl) _
      refine e1.trans (List.Perm.cons _ ?_)
      have e2 : ((es.toList.map fun e => (e.key, e.val))).Perm ((e0.key, e0.val) :: (es.toList.map fun e => (e.key, e.val)).eraseIdx j) := by
        have h5 : (es.toList.map fun e => (e.key, e.val))[j]? = some (e0.key, e0.val) := by rw [List.getElem?_map, h2]; rfl
        exact pick_perm _ _ _ h5
      have e3 := (e2.symm.trans hp).trans hm
      refine perm_tail e3 ?_
      exact h0.one (hp.mem_iff.1 (e2.mem_iff.2 (List.mem_cons_self ..))) (hm.mem_iff.2 (List.mem_cons_self ..)) h3
/-- 'delete(m, k)' of a key that is there -/
theorem MapL.drop (h : MapL w k b l) (K : Keyed Tryz.prog k) (ht : Tryz.prog.underlying t = some (.map k e)) {key v0 : Value} {l' : List (Value × Value)} (hm : l.Perm ((key, v0) :: l')) (ty : TypeId) :
    ∃ w', (Builtin.delete_ #[t, k] ty #[.map (some b), key]).run Tryz.prog w = .ok (.tuple #[]) w' ∧ MapL w' k b l' ∧ w.mapTurned w' b := by
  have h0 := h
  obtain ⟨kl, hkl⟩ := h.keys (key, v0) (hm.mem_iff.2 (by simp))
  obtain ⟨es, cl, hb, F, hp⟩ := h
  rcases K.find w hkl es.toList F.keys with ⟨h1, h2⟩ | ⟨j, e0, h1, h2, h3⟩
  · obtain ⟨x, hx, hx2⟩ := List.mem_map.1 ((hp.trans hm).mem_iff.2 (List.mem_cons_self ..))
    exact absurd (congrArg Prod.fst hx2) (h2 x hx)
  · have hjl : j < es.toList.length := (List.getElem?_eq_some_iff.1 h2).1
    have hjs : j < es.size := by simpa using hjl
    have hsub : (es.eraseIdxIfInBounds j).toList = es.toList.eraseIdx j := by
      unfold Array.eraseIdxIfInBounds
      rw [dif_pos hjs]
      simp
    refine ⟨setBlock w b (.map (es.eraseIdxIfInBounds j) cl), ?_, ⟨_, cl, heap_setBlock_same hb _, ⟨Nat.le_trans (MapFrom.size_erase es j) F.size, stamped_erase F.stamped j, ?_⟩, ?_⟩, turned_of hb⟩
    · simp [Builtin.delete_, run_underlying ht, MapKept.run_getObj_map hb, K.check w _ hkl, h1, MapKept.run_setObj_map _ hb, Result.andThen, setBlock]
    · intro x hx
      rw [hsub] at hx
      exact F.reads x ((List.eraseIdx_sublist _ _).subset hx)
    · unfold ents at hp ⊢
      rw [hsub, map_eraseIdx]
      have e2 : ((es.toList.map fun e => (e.key, e.val))).Perm ((e0.key, e0.val) :: (es.toList.map fun e => (e.key, e.val)).eraseIdx j) := by
        have h5 : (es.toList.map fun e => (e.key, e.val))[j]? = some (e0.key, e0.val) := by rw [List.getElem?_map, h2]; rfl
        exact pick_perm _ _ _ h5
      have e3 := (e2.symm.trans hp).trans hm
      refine perm_tail e3 ?_
      exact h0.one (hp.mem_iff.1 (e2.mem_iff.2 (List.mem_cons_self ..))) (hm.mem_iff.2 (List.mem_cons_self ..)) h3

/-- 'for .. range m' under way: todo: the entries still to come -/
def IterL (w : World) (k : TypeId) (b r : Nat) (l todo : List (Value × Value)) : Prop :=
  ∃ es clock since seen c0, w.heap[b]? = some (.map es clock) ∧ Fit Tryz.prog k heldR es clock ∧ (ents es).Perm l ∧ w.heap[r]? = some (.mapIter (some b) since seen c0) ∧
    (∀ x ∈ es.toList, x.born < since) ∧ (ents (leftOf es seen)).Perm todo ∧ since ≤ c0 ∧ since ≤ clock
theorem IterL.map {r : Nat} {todo : List (Value × Value)} (h : IterL w k b r l todo) : MapL w k b l := by
  obtain ⟨es, c, _, _, _, hb, F, hp, _⟩ := h
  exact ⟨es, c, hb, F, hp⟩
theorem IterL.lt {r : Nat} {todo : List (Value × Value)} (h : IterL w k b r l todo) : r < w.heap.size := by
  obtain ⟨es, c, _, _, _, hb, F, hp, hr, _⟩ := h
  exact (Array.getElem?_eq_some_iff.1 hr).1
theorem IterL.keep {w' : World} {r : Nat} {todo : List (Value × Value)} (h : IterL w k b r l todo) (hk : w'.heap[b]? = w.heap[b]?) (hk' : w'.heap[r]? = w.heap[r]?) : IterL w' k b r l todo := by
  obtain ⟨es, c, s, sn, c0, hb, F, hp, hr, rest⟩ := h
  exact ⟨es, c, s, sn, c0, hk.trans hb, F, hp, hk'.trans hr, rest⟩
theorem IterL.no_cells {r : Nat} {todo : List (Value × Value)} (h : IterL w k b r l todo) : ∀ cs t, w.heap[r]? ≠ some (.cells cs t) := by
  obtain ⟨es, c, _, _, _, hb, F, hp, hr, _⟩ := h
  intro cs t e
  rw [hr] at e; cases e
theorem IterL.sub {r : Nat} {todo : List (Value × Value)} (h : IterL w k b r l todo) : ∀ p ∈ todo, p ∈ l := by
  obtain ⟨es, c, _, sn, _, hb, F, hp, hr, _, ht, _⟩ := h
  intro p hp'
  obtain ⟨x, hx, rfl⟩ := List.mem_map.1 (ht.mem_iff.2 hp')
  exact hp.mem_iff.1 (List.mem_map.2 ⟨x, by simp [leftOf] at hx; simpa using hx.1, rfl⟩)
theorem MapL.range (h : MapL w k b l) (ht : Tryz.prog.underlying t = some (.map k e)) :
    ∃ w', (Instr.range t (.map (some b))).run Tryz.prog w = .ok (.pointer (some ⟨w.heap.size, 0, none⟩)) w' ∧ IterL w' k b w.heap.size l l ∧ Below w.heap.size w w' ∧ w'.heap.size = w.heap.size + 1 := by
  have hlt := h.lt
  obtain ⟨es, clock, hb, F, hp⟩ := h
  refine ⟨_, run_range_map w t k e b es clock ht hb, ⟨es, clock, clock, #[], clock, ((MapKept.heap_alloc w _).2 b hlt).trans hb, F, hp, (MapKept.heap_alloc w _).1, F.stamped.1, ?_, Nat.le_refl _, Nat.le_refl _⟩, (Below.refl _ _).alloc (Nat.le_refl _) _, by simp⟩
  have : leftOf es #[] = es := by simp [leftOf]
  rw [this]; exact hp
/-- the step -/
theorem IterL.next {r : Nat} {todo : List (Value × Value)} (h : IterL w k b r l todo) (ty : TypeId) :
    (todo = [] ∧ (Instr.next (.pointer (some ⟨r, 0, none⟩)) false ty).run Tryz.prog w = .ok (.tuple #[.bool false]) w) ∨
    ∃ key v todo' w', todo.Perm ((key, v) :: todo') ∧ (Instr.next (.pointer (some ⟨r, 0, none⟩)) false ty).run Tryz.prog w = .ok (.tuple #[.bool true, key, v]) w' ∧
      IterL w' k b r l todo' ∧ w.grownBy w' (some r) ∧ w'.heap.size = w.heap.size ∧ (Instr.entry (.pointer (some ⟨r, 0, none⟩))).run Tryz.prog w' = .ok (.tuple #[key, v]) w' := by
  obtain ⟨es, clock, since, seen, c0, hb, F, hp, hr, hold, htodo, hsc, hsk⟩ := h
  have hne : r ≠ b := by intro e; rw [e, hb] at hr; cases hr
  rcases run_next_at (P := Tryz.prog) w ty r b since c0 seen es clock hr hb hold hsc with ⟨h0, hrun⟩ | ⟨x, hx, w1, hal, hrun⟩
  · left
    refine ⟨?_, hrun⟩
    have := htodo.length_eq
    simp only [ents, List.length_map, Array.length_toList, h0] at this
    exact List.length_eq_zero_iff.1 this.symm
  · right
    obtain ⟨hem, hes⟩ := mem_left hx
    have hr1 : w1.heap[r]? = some (.mapIter (some b) since seen c0) := by rcases hal with rfl | rfl <;> exact hr
    have hb1 : w1.heap[b]? = some (.map es clock) := by rcases hal with rfl | rfl <;> exact hb
    have hset := heap_set (o' := .mapIter (some b) since (seen.push x.born) clock) hr1
    have hb' : (setBlock w1 r (.mapIter (some b) since (seen.push x.born) clock)).heap[b]? = some (.map es clock) := (hset.2 b (fun e1 => hne e1.symm)).trans hb1
    have hborn := ((stamped_iff es clock).1 F.stamped).2.1
    refine ⟨x.key, x.val, ents (leftOf es (seen.push x.born)), _, htodo.symm.trans ?_, hrun, ⟨es, clock, since, seen.push x.born, clock, hb', F, hp, hset.1, hold, List.Perm.refl _, hsk, hsk⟩, ?_, ?_, run_entry_at _ r b since seen es clock x hset.1 hb' hem hborn⟩
    · have key : ∀ L : List MapEntry, (L.map (·.born)).Nodup → x ∈ L → seen.contains x.born = false → ((L.filter fun e => !seen.contains e.born).map fun e => (e.key, e.val)).Perm ((x.key, x.val) :: (L.filter fun e => !(seen.push x.born).contains e.born).map fun e => (e.key, e.val)) := by
        intro L
        induction L with
        | nil => intro _ h _; cases h
        | cons y L ih =>
          intro hn hm hs
          rw [List.map_cons, List.nodup_cons] at hn
          have hstep : ∀ z ∈ L, z.born ≠ y.born := fun z hz e => hn.1 (List.mem_map.2 ⟨z, hz, e⟩)
          by_cases hxy : x = y
          · subst hxy
            rw [List.filter_cons_of_pos (by rw [hs]; rfl), List.filter_cons_of_neg (by rw [contains_push]; simp), List.map_cons]
            refine List.Perm.cons _ (List.Perm.of_eq ?_)
            congr 1
            refine List.filter_congr fun z hz => ?_
            rw [contains_push]
            have : (z.born == x.born) = false := by simp [hstep z hz]
            rw [this]; simp
          · have hm' : x ∈ L := by rcases List.mem_cons.1 hm with e | h; exact absurd e hxy; exact h
            have ih' := ih hn.2 hm' hs
            have hb2 : (y.born == x.born) = false := by simp [(hstep x hm').symm]
            have hc : (seen.push x.born).contains y.born = seen.contains y.born := by rw [contains_push, hb2]; simp
            cases hsy : seen.contains y.born with
            | true => rw [List.filter_cons_of_neg (by rw [hsy]; simp), List.filter_cons_of_neg (by rw [hc, hsy]; simp)]; exact ih'
            | false =>
              rw [List.filter_cons_of_pos (by rw [hsy]; rfl), List.filter_cons_of_pos (by rw [hc, hsy]; rfl), List.map_cons, List.map_cons]
              exact (List.Perm.cons _ ih').trans (List.Perm.swap _ _ _)
      have := key es.toList hborn hem hes
      simpa [ents, leftOf] using this
    · rcases hal with rfl | rfl <;> exact ⟨rfl, rfl, rfl, by simp [setBlock], fun i _ hi => hset.2 i (fun e1 => hi (by rw [e1]))⟩
    · rcases hal with rfl | rfl <;> simp [setBlock]
end
end Go.Proofs.YtclgfcjcpbiadaaGreatDoor

namespace Go.Proofs.YtclgfcjcpbiadaaGreatDoor
open Go.ChangeShapes Go.WideShapes Go.ChangeAt Go.RowKit Go.Deep
theorem cells_int : Tryz.prog.cellsOf 3 = 1 := by kernel_rfl
theorem cells_string : Tryz.prog.cellsOf 9 = 1 := by kernel_rfl
theorem cells_bool : Tryz.prog.cellsOf 4 = 1 := by kernel_rfl

end Go.Proofs.YtclgfcjcpbiadaaGreatDoor

namespace Go.Proofs.YtclgfcjcpbiadaaGreatDoor
open Go.ChangeShapes Go.WideShapes Go.ChangeAt Go.RowKit Go.Deep

theorem bulk_one {H : Type} (d : DataW H) : 1 ≤ Rows.uptoBulk d := by
  cases d with
  | lit l => cases l <;> simp [Rows.uptoBulk]
  | nil => simp [Rows.uptoBulk]
  | ptr d => simp [Rows.uptoBulk]
  | slice elems spare => simp [Rows.uptoBulk]
  | agg parts => simp [Rows.uptoBulk]
  | iface t d => simp [Rows.uptoBulk]
  | map entries => simp [Rows.uptoBulk]
  | held h => simp [Rows.uptoBulk]
theorem bulk_len {H : Type} (l : List (DataW H)) : l.length ≤ Rows.uptoBulkAll l := by
  induction l with
  | nil => simp [Rows.uptoBulkAll]
  | cons x r ih => have := bulk_one x; simp only [Rows.uptoBulkAll, List.length_cons]; omega
theorem bulk_slice {H : Type} (elems spare : List (DataW H)) : elems.length ≤ Rows.uptoBulk (.slice elems spare) := by
  have h1 := bulk_len elems
  simp only [Rows.uptoBulk]; omega

theorem cell_lt {w : World} {p : Addr} {u : Value} (h : w.cell? p = some u) : p.block < w.heap.size := by
  unfold World.cell? at h
  cases hh : w.heap[p.block]? with
  | none => rw [hh] at h; simp at h
  | some o => exact (Array.getElem?_eq_some_iff.1 hh).1
theorem flat_at {α : Type} (cells : α → List Value) (size : Nat) (h : ∀ a, (cells a).length = size) : ∀ (l : List α) (i r : Nat) (a : α), l[i]? = some a → r < size → (l.flatMap cells)[i * size + r]? = (cells a)[r]?
  | [], i, r, a, hi, _ => by simp at hi
  | x :: l, 0, r, a, hi, hr => by
    simp at hi; subst hi
    rw [List.flatMap_cons, List.getElem?_append_left (by rw [h]; omega)]
    simp
  | x :: l, i + 1, r, a, hi, hr => by
    have e : (i + 1) * size + r = size + (i * size + r) := by rw [Nat.add_mul]; omega
    rw [List.flatMap_cons, List.getElem?_append_right (by rw [h, e]; omega), h, e, Nat.add_sub_cancel_left]
    exact flat_at cells size h l i r a (by simpa using hi) hr
theorem flat_len {α : Type} (cells : α → List Value) (size : Nat) (h : ∀ a, (cells a).length = size) : ∀ (l : List α), (l.flatMap cells).length = l.length * size
  | [] => by simp
  | x :: l => by rw [List.flatMap_cons, List.length_append, h, flat_len cells size h l, List.length_cons, Nat.add_mul]; omega

section
variable {H : Type} {enc : TypeId × Value → H} {P : Program} {w : World} {base : Nat} {spare : Nat → Bool} {held : Bool}

/-- a slice whose elements are each so many cells -/
theorem open_rows {α : Type} [Inhabited α] (cells : α → List Value) (size : Nat) (hsz : ∀ a, (cells a).length = size) (hs : 0 < size) (ok : α → DataW H → Prop) {b0 : Nat} {t e : TypeId} {v : Value} {d : DataW H} {ps : List MemPlace}
    (ht : P.underlying t = some (.slice e)) (hc : P.cellsOf e = size)
    (hel : ∀ fuel cs x, DataW.trod enc P w base spare held fuel e cs = some x → ∃ a, cs = cells a ∧ ok a x.1)
    (hval : Value.okWide P w .any b0 t v) (hd : DataW.Trod enc P w base spare held t v d ps) :
    ∃ A c, ∃ l : List α, v = .slice A l.length c ∧ l.length ≤ c ∧ c ≤ maxLen ∧ Reads (· < w.heap.size) w size A l.length (l.flatMap cells) ∧ l.length ≤ Rows.uptoBulk d ∧
      ((l = [] ∧ d = .nil) ∨ ∃ es sp, d = .slice es sp ∧ es.length = l.length ∧ ∀ (i : Nat) (a : α) (x : DataW H), l[i]? = some a → es[i]? = some x → ok a x) := by
  obtain ⟨A, n, c, rfl⟩ := okWide_slice ht hval
  obtain ⟨fuel, hf⟩ := hd
  rcases open_slice ht hf with ⟨h1, h2⟩ | ⟨a, len, cap, m, nn, Dd, Pl, h1, hb, hl, hm, hmm, hx, hi⟩
  · simp only [Value.cells, List.cons.injEq, and_true, Value.slice.injEq] at h1
    obtain ⟨rfl, rfl, rfl⟩ := h1
    simp only [Prod.mk.injEq] at h2
    obtain ⟨rfl, rfl⟩ := h2
    exact ⟨none, 0, [], rfl, by simp, by simp, Reads.none_, by simp, .inl ⟨rfl, rfl⟩⟩
  · simp only [Value.cells, List.cons.injEq, and_true, Value.slice.injEq] at h1
    obtain ⟨rfl, rfl, rfl⟩ := h1
    simp only [Prod.mk.injEq] at hx
    obtain ⟨rfl, rfl⟩ := hx
    have hlm : n ≤ m := by rw [hmm]; split <;> omega
    obtain ⟨f, hfx⟩ := choose_lt (α := α) (p := fun i x => w.cells? base (a.add (i * P.cellsOf e)) (P.cellsOf e) = some (cells x) ∧ ok x (Dd i)) (n := n) (fun i hin => by
      obtain ⟨cs', h1, h2⟩ := hi i (by omega)
      obtain ⟨x, rfl, hx⟩ := hel _ _ _ h2
      exact ⟨x, h1, hx⟩)
    have hget : ∀ i x, ((List.range n).map f)[i]? = some x → i < n ∧ x = f i := by
      intro i x h
      rw [List.getElem?_map] at h
      by_cases hin : i < n
      · rw [List.getElem?_range hin] at h; simp at h; exact ⟨hin, h.symm⟩
      · rw [List.getElem?_eq_none (by simpa using hin)] at h; simp at h
    refine ⟨some a, c, (List.range n).map f, by simp, by simpa using hl, hm, ⟨?_, fun h0 => ⟨a, rfl, ?_, ?_⟩⟩, ?_, .inr ⟨_, _, rfl, by simp, ?_⟩⟩
    · rw [flat_len cells size hsz]
    · simp only [List.length_map, List.length_range] at h0
      have h1 := (hfx 0 h0).1
      obtain ⟨_, _, h3⟩ := World.cells?_some h1
      have h4 := h3 0 (by omega)
      have h5 : 0 < (cells (f 0)).length := by rw [hsz]; omega
      rw [List.getElem?_eq_getElem h5] at h4
      have := cell_lt h4
      rw [block_of_add, block_of_add] at this
      exact this
    · intro j u hj
      have hjl : j < n * size := by
        have := (List.getElem?_eq_some_iff.1 hj).1
        rw [flat_len cells size hsz] at this
        simpa using this
      have hdm : j / size * size + j % size = j := by rw [Nat.mul_comm]; exact Nat.div_add_mod j size
      have hq : j / size < n := Nat.div_lt_of_lt_mul (by rw [Nat.mul_comm]; exact hjl)
      have hr : j % size < size := Nat.mod_lt _ hs
      have h1 := flat_at cells size hsz ((List.range n).map f) (j / size) (j % size) (f (j / size)) (by rw [List.getElem?_map, List.getElem?_range hq]; rfl) hr
      rw [hdm, hj] at h1
      obtain ⟨_, _, h3⟩ := World.cells?_some (hfx _ hq).1
      have h4 := h3 (j % size) (by omega)
      rw [← h1, hc, add_of_add, hdm] at h4
      exact h4
    · have := bulk_slice ((List.range n).map Dd) ((List.range (m - n)).map fun j => Dd (n + j))
      simpa using this
    · intro i x y h1 h2
      obtain ⟨hin, rfl⟩ := hget i x h1
      rw [List.getElem?_map, List.getElem?_range hin] at h2
      simp at h2
      subst h2
      exact (hfx i hin).2

end
end Go.Proofs.YtclgfcjcpbiadaaGreatDoor

namespace Go.Proofs.YtclgfcjcpbiadaaGreatDoor
open Go.ChangeShapes Go.WideShapes Go.ChangeAt Go.RowKit Go.Deep
set_option maxRecDepth 100000
section
variable {H : Type} {enc : TypeId × Value → H} {w : World} {base : Nat} {spare : Nat → Bool} {held : Bool}

theorem cells_id : Tryz.prog.cellsOf 82 = 2 := by kernel_rfl
theorem cells_value : Tryz.prog.cellsOf 84 = 5 := by kernel_rfl

/-- the cells of an id -/
theorem trod_id {fuel : Nat} {cs : List Value} {x : DataW H × List MemPlace} (h : DataW.trod enc Tryz.prog w base spare held fuel 82 cs = some x) :
    ∃ a b, cs = [.int .i64 a, .int .i64 b] ∧ (Lit.int .i64 a).wf = true ∧ (Lit.int .i64 b).wf = true ∧ x = (.agg [.lit (.int .i64 a), .lit (.int .i64 b)], []) := by
  obtain ⟨xs, n, _, rfl, hl, hn, hf⟩ := DataW.trod_struct Tryz.underlying82 h
  rw [cells_id] at hl
  match cs, hl with
  | [c0, c1], _ =>
    match xs, hn with
    | [y0, y1], _ =>
      have f0 : DataW.trod enc Tryz.prog w base spare held n 3 (List.take (Tryz.prog.cellsOf 3) (List.drop 0 [c0, c1])) = some y0 := hf 0 _ rfl
      have f1 : DataW.trod enc Tryz.prog w base spare held n 3 (List.take (Tryz.prog.cellsOf 3) (List.drop 1 [c0, c1])) = some y1 := hf 1 _ rfl
      rw [cells_int] at f0 f1
      obtain ⟨a, e0, rfl, wa⟩ := DataW.trod_int Tryz.underlying3 f0
      obtain ⟨b, e1, rfl, wb⟩ := DataW.trod_int Tryz.underlying3 f1
      simp at e0 e1
      subst e0 e1
      exact ⟨a, b, rfl, wa, wb, rfl⟩

/-- the cells of a value -/
theorem trod_value {fuel : Nat} {cs : List Value} {x : DataW H × List MemPlace} (h : DataW.trod enc Tryz.prog w base spare held fuel 84 cs = some x) :
    ∃ k n t a b, cs = [.int .i64 k, .int .i64 n, .string t, .int .i64 a, .int .i64 b] ∧ (Lit.int .i64 k).wf = true ∧ (Lit.int .i64 n).wf = true ∧ t.size ≤ maxLen ∧ (Lit.int .i64 a).wf = true ∧ (Lit.int .i64 b).wf = true ∧
      x = (.agg [.lit (.int .i64 k), .lit (.int .i64 n), .lit (.string t.data.toList), .agg [.lit (.int .i64 a), .lit (.int .i64 b)]], []) := by
  obtain ⟨xs, n, _, rfl, hl, hn, hf⟩ := DataW.trod_struct Tryz.underlying84 h
  rw [cells_value] at hl
  match cs, hl with
  | [c0, c1, c2, c3, c4], _ =>
    match xs, hn with
    | [y0, y1, y2, y3], _ =>
      have f0 : DataW.trod enc Tryz.prog w base spare held n 3 (List.take (Tryz.prog.cellsOf 3) (List.drop 0 [c0, c1, c2, c3, c4])) = some y0 := hf 0 _ rfl
      have f1 : DataW.trod enc Tryz.prog w base spare held n 3 (List.take (Tryz.prog.cellsOf 3) (List.drop 1 [c0, c1, c2, c3, c4])) = some y1 := hf 1 _ rfl
      have f2 : DataW.trod enc Tryz.prog w base spare held n 9 (List.take (Tryz.prog.cellsOf 9) (List.drop 2 [c0, c1, c2, c3, c4])) = some y2 := hf 2 _ rfl
      have f3 : DataW.trod enc Tryz.prog w base spare held n 82 (List.take (Tryz.prog.cellsOf 82) (List.drop 3 [c0, c1, c2, c3, c4])) = some y3 := hf 3 _ rfl
      rw [cells_int] at f0 f1
      rw [cells_string] at f2
      rw [cells_id] at f3
      obtain ⟨k, e0, rfl, wk⟩ := DataW.trod_int Tryz.underlying3 f0
      obtain ⟨n, e1, rfl, wn⟩ := DataW.trod_int Tryz.underlying3 f1
      obtain ⟨t, e2, rfl, wt⟩ := DataW.trod_string Tryz.underlying9 f2
      obtain ⟨a, b, e3, wa, wb, rfl⟩ := trod_id f3
      simp at e0 e1 e2 e3
      obtain ⟨rfl, rfl⟩ := e3
      subst e0 e1 e2
      exact ⟨k, n, t, a, b, rfl, wk, wn, wt, wa, wb, rfl⟩

end
end Go.Proofs.YtclgfcjcpbiadaaGreatDoor
