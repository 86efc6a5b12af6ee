/- Contracts: package bytes, the Reader. -/
import Derived.Test.YtoolpppbbphbjaaPutC
namespace Go.Proofs.Ytoolpppbbphbjaa
open Go.ChangeShapes Go.WideShapes Go.ChangeAt Go.RowKit

theorem flipR {P : Program} {f : FuncId} {args : Array Value} {w : World} {v : Value} (h : Calls P f args w fun e w' => e = .returned v ∧ w = w') : Calls P f args w fun e w' => e = .returned v ∧ w' = w :=
  h.mono fun _ _ ⟨a, b⟩ => ⟨a, b.symm⟩
theorem get_len (l : List UInt8) (n : Nat) (hn : l.length = n) (D : Nat → Prop) (A : Option Addr) (c : Nat) (w : World) (hr : Reads D w 1 A n (bytesC l)) (hl : n ≤ maxLen) :
    Calls Try.prog 20 #[.slice A n c] w fun e w' => e = .returned (getV (getN l)) ∧ w' = w := by
  subst hn
  exact flipR (get_any l D A c w hr hl)
theorem getS_len (l : List UInt8) (n : Nat) (hn : l.length = n) (D : Nat → Prop) (A : Option Addr) (c : Nat) (w : World) (hr : Reads D w 1 A n (bytesC l)) (hl : n ≤ maxLen) :
    Calls Try.prog 22 #[.slice A n c] w fun e w' => e = .returned (getSV (getS l)) ∧ w' = w := by
  subst hn
  exact flipR (getSigned_any l D A c w hr hl)

/-- a reader's three cells -/
def rdErr (bad : Bool) : Value := if bad then .iface 56 (.int .i64 9) else .nilIface
def RdAt (w : World) (g : Nat) (A : Option Addr) (n c at_ : Nat) (bad : Bool) : Prop := Blk w g 50 #[.slice A n c, .int .i64 at_, rdErr bad]

theorem Chg.put1 {a w : World} {g : Nat} (h : Chg (fun k => k = g) a w) (i : Nat) (u : Value) : Chg (fun k => k = g) a (w.setCell ⟨g, i, none⟩ u) := h.setCell (p := ⟨g, i, none⟩) (.inl rfl) u
theorem RdAt.drewN {w : World} {g n c at_ : Nat} {A : Option Addr} {bad : Bool} (h : RdAt w g A n c at_ bad) (x : Nat) : RdAt (w.drewN x) g A n c at_ bad := h
theorem RdAt.step {w : World} {g n c at_ : Nat} {A : Option Addr} {bad : Bool} (h : RdAt w g A n c at_ bad) (k : Nat) : RdAt (w.setCell ⟨g, 1, none⟩ (.int .i64 ((at_ : Int) + (k : Int)))) g A n c (at_ + k) bad := by
  have := Blk.set_ h 1 (.int .i64 ((at_ : Int) + (k : Int)))
  simpa [RdAt] using this

theorem fail_any (g : Nat) (A : Option Addr) (n c at_ : Nat) (bad : Bool) (w : World) (hb : RdAt w g A n c at_ bad) :
    Calls Try.prog 21 #[.pointer (some ⟨g, 0, none⟩)] w fun e w' => e = .returned (.tuple #[]) ∧ RdAt w' g A n c at_ true ∧ Chg (fun k => k = g) w w' := by
  have hc2 : w.cell? ⟨g, 2, none⟩ = some (rdErr bad) := hb.cell 2
  have hf2 := hb.frozen 2
  go_enter Try.func21, Try.ntmps21
  go_wp2
  go_end0
  exact ⟨rfl, hb.set_ 2 _, (Chg.refl w).put1 2 _⟩

theorem bytesC_drop (l : List UInt8) (k : Nat) : bytesC (l.drop k) = (bytesC l).drop k := by simp [bytesC, List.map_drop]

/-- the call of Get in a region that draws -/
theorem get_at {l : List UInt8} {D : Nat → Prop} {A : Option Addr} {c at_ : Nat} {w : World} (hr : Reads D w 1 A l.length (bytesC l)) (hat : at_ ≤ l.length) (hc : l.length ≤ c) (hl : l.length ≤ 9223372036854775807) :
    Hid (∀ x, Calls Try.prog 20 #[.slice (if c = at_ then A else A.map (fun x => x.add at_)) (l.length - at_) (c - at_)] (w.drewN x) fun e w' => e = .returned (getV (getN (l.drop at_))) ∧ w' = w.drewN x) := by
  intro x
  have h1 := hr.cut hat hc
  simp only [Nat.mul_one] at h1
  rw [← bytesC_drop] at h1
  exact get_len (l.drop at_) (l.length - at_) (by simp) D _ _ _ h1 (by simp only [maxLen]; omega)
theorem getS_at {l : List UInt8} {D : Nat → Prop} {A : Option Addr} {c at_ : Nat} {w : World} (hr : Reads D w 1 A l.length (bytesC l)) (hat : at_ ≤ l.length) (hc : l.length ≤ c) (hl : l.length ≤ 9223372036854775807) :
    Hid (∀ x, Calls Try.prog 22 #[.slice (if c = at_ then A else A.map (fun x => x.add at_)) (l.length - at_) (c - at_)] (w.drewN x) fun e w' => e = .returned (getSV (getS (l.drop at_))) ∧ w' = w.drewN x) := by
  intro x
  have h1 := hr.cut hat hc
  simp only [Nat.mul_one] at h1
  rw [← bytesC_drop] at h1
  exact getS_len (l.drop at_) (l.length - at_) (by simp) D _ _ _ h1 (by simp only [maxLen]; omega)

/-- a reader's world: its block, what it reads -/
structure RdW (w : World) (g : Nat) (D : Nat → Prop) (A : Option Addr) (l : List UInt8) (c at_ : Nat) (bad : Bool) : Prop where
  blk : RdAt w g A l.length c at_ bad
  reads : Reads D w 1 A l.length (bytesC l)
  apart : ¬ D g
  le : at_ ≤ l.length
  cap : l.length ≤ c
  small : l.length ≤ 9223372036854775807
theorem RdW.next {w w' : World} {g : Nat} {D : Nat → Prop} {A : Option Addr} {l : List UInt8} {c at_ at' : Nat} {bad bad' : Bool} (h : RdW w g D A l c at_ bad) (hb : RdAt w' g A l.length c at' bad') (hc : Chg (fun k => k = g) w w')
    (hD : ∀ k, D k → k < w.heap.size) (hle : at' ≤ l.length) : RdW w' g D A l c at' bad' :=
  ⟨hb, h.reads.keep (hc.keeps fun k hk => ⟨hD k hk, fun e => h.apart (by rw [← e]; exact hk)⟩), h.apart, hle, h.cap, h.small⟩

/-- what Num reads -/
def rdNum (l : List UInt8) (most : Nat) (at_ : Nat) (bad : Bool) : Nat × Nat × Bool :=
  if bad then (0, at_, true) else
  match getN (l.drop at_) with
  | none => (0, at_, true)
  | some (n, k) => if n ≤ most then (n, at_ + k, false) else (0, at_, true)

set_option maxHeartbeats 2000000 in
theorem rnum_bad (g : Nat) (A : Option Addr) (n c at_ : Nat) (most : Int) (w : World) (hb : RdAt w g A n c at_ true) :
    Calls Try.prog 11 #[.pointer (some ⟨g, 0, none⟩), .int .i64 most] w fun e w' => e = .returned (.int .i64 0) ∧ w = w' := by
  have hc2 : w.cell? ⟨g, 2, none⟩ = some (.iface 56 (.int .i64 9)) := hb.cell 2
  clear hb
  go_enter Try.func11, Try.ntmps11
  go_wp2_with fail
  go_ret
  exact ⟨rfl, rfl⟩

set_option maxHeartbeats 2000000 in
theorem rnum_ok {l : List UInt8} {g : Nat} {D : Nat → Prop} {A : Option Addr} {c at_ : Nat} (most : Nat) (n k : Nat) {w : World} (hr : RdW w g D A l c at_ false) (hm : most ≤ 2000000) (h : Hid (getN (l.drop at_) = some (n, k))) (hnm : n ≤ most) :
    Calls Try.prog 11 #[.pointer (some ⟨g, 0, none⟩), .int .i64 most] w fun e w' => e = .returned (.int .i64 n) ∧ RdAt w' g A l.length c (at_ + k) false ∧ Chg (fun k => k = g) w w' := by
  obtain ⟨hb, hrd, hg, hat, hc, hl⟩ := hr
  have hc0 : w.cell? ⟨g, 0, none⟩ = some (.slice A l.length c) := hb.cell 0
  have hc1 : w.cell? ⟨g, 1, none⟩ = some (.int .i64 at_) := hb.cell 1
  have hc2 : w.cell? ⟨g, 2, none⟩ = some .nilIface := hb.cell 2
  have hf1 := hb.frozen 1
  have HB := Lib.hid hb
  have C := get_at hrd hat hc hl
  rw [h.out] at C
  simp only [getV] at C
  have hk : k ≤ l.length - at_ := by have := (getN_at h.out).2; simpa using this
  have e1 : IntKind.u64.wrap (most : Int) = (most : Int) := u64_keep (by omega)
  have hdn : decide ((most : Int) < (n : Int)) = false := by simp; omega
  clear hb hrd hg h
  go_enter Try.func11, Try.ntmps11
  go_wp2_with fail
  go_quiet ((go_at_call 20; exact Calls.quiet_of_same (C.out _)))
  go_wp2_with fail
  all_goals
    try (have h3 : c = at_ := by assumption
         rw [h3] at HB)
    go_ret
    refine ⟨rfl, ?_, ?_⟩
    · exact (HB.out.drewN nq).step k
    · exact ((Chg.refl w).drewN_ nq).put1 1 _

set_option maxHeartbeats 2000000 in
theorem rnum_no {l : List UInt8} {g : Nat} {D : Nat → Prop} {A : Option Addr} {c at_ : Nat} (most : Nat) {w : World} (hr : RdW w g D A l c at_ false) (hm : most ≤ 2000000)
    (h : Hid (getN (l.drop at_) = none ∨ ∃ n k, getN (l.drop at_) = some (n, k) ∧ most < n)) :
    Calls Try.prog 11 #[.pointer (some ⟨g, 0, none⟩), .int .i64 most] w fun e w' => e = .returned (.int .i64 0) ∧ RdAt w' g A l.length c at_ true ∧ Chg (fun k => k = g) w w' := by
  obtain ⟨hb, hrd, hg, hat, hc, hl⟩ := hr
  have hc0 : w.cell? ⟨g, 0, none⟩ = some (.slice A l.length c) := hb.cell 0
  have hc1 : w.cell? ⟨g, 1, none⟩ = some (.int .i64 at_) := hb.cell 1
  have hc2 : w.cell? ⟨g, 2, none⟩ = some .nilIface := hb.cell 2
  have HB := Lib.hid hb
  have C := get_at hrd hat hc hl
  have e1 : IntKind.u64.wrap (most : Int) = (most : Int) := u64_keep (by omega)
  clear hb hrd hg
  rcases h.out with h1 | ⟨n, k, h1, hn⟩
  · rw [h1] at C
    simp only [getV] at C
    clear h1 h
    go_enter Try.func11, Try.ntmps11
    go_wp2_with fail
    go_quiet ((go_at_call 20; exact Calls.quiet_of_same (C.out _)))
    go_wp2_with fail
    all_goals
      try (have h3 : c = at_ := by assumption
           rw [h3] at HB)
      refine (fail_any _ _ _ _ _ _ _ (HB.out.drewN nq)).mono ?_
      rintro e w1 ⟨rfl, hb1, hch⟩
      have HB1 := Lib.hid hb1
      clear hb1
      go_wp2_with fail
      go_ret
      refine ⟨rfl, ?_, ((Chg.refl w).drewN_ nq).trans hch (fun _ _ h => h)⟩
      first | exact HB1.out | (rw [show c = at_ by assumption]; exact HB1.out)
  · rw [h1] at C
    simp only [getV] at C
    have hdn : decide ((most : Int) < (n : Int)) = true := by simp; omega
    clear h1 h
    go_enter Try.func11, Try.ntmps11
    go_wp2_with fail
    go_quiet ((go_at_call 20; exact Calls.quiet_of_same (C.out _)))
    go_wp2_with fail
    all_goals
      try (have h3 : c = at_ := by assumption
           rw [h3] at HB)
      refine (fail_any _ _ _ _ _ _ _ (HB.out.drewN nq)).mono ?_
      rintro e w1 ⟨rfl, hb1, hch⟩
      have HB1 := Lib.hid hb1
      clear hb1
      go_wp2_with fail
      go_ret
      refine ⟨rfl, ?_, ((Chg.refl w).drewN_ nq).trans hch (fun _ _ h => h)⟩
      first | exact HB1.out | (rw [show c = at_ by assumption]; exact HB1.out)

/-- Num, whatever stands there -/
theorem rnum_any {l : List UInt8} {g : Nat} {D : Nat → Prop} {A : Option Addr} {c at_ : Nat} {bad : Bool} (most : Nat) {w : World} (hr : RdW w g D A l c at_ bad) (hD : ∀ k, D k → k < w.heap.size) (hm : most ≤ 2000000) :
    Calls Try.prog 11 #[.pointer (some ⟨g, 0, none⟩), .int .i64 most] w fun e w' =>
      e = .returned (.int .i64 (rdNum l most at_ bad).1) ∧ RdW w' g D A l c (rdNum l most at_ bad).2.1 (rdNum l most at_ bad).2.2 ∧ Chg (fun k => k = g) w w' := by
  cases bad with
  | true => exact (rnum_bad g A l.length c at_ most w hr.blk).mono fun e w' ⟨he, hw⟩ => by subst hw; exact ⟨he, hr, Chg.refl w⟩
  | false =>
    cases h : getN (l.drop at_) with
    | none =>
      have e : rdNum l most at_ false = (0, at_, true) := by simp [rdNum, h]
      rw [e]
      exact (rnum_no most hr hm (Lib.hid (.inl h))).mono fun e w' ⟨he, hb, hc⟩ => ⟨he, hr.next hb hc hD hr.le, hc⟩
    | some x =>
      obtain ⟨n, k⟩ := x
      by_cases hn : n ≤ most
      · have e : rdNum l most at_ false = (n, at_ + k, false) := by simp [rdNum, h, hn]
        rw [e]
        have hk := (getN_at h).2
        simp only [List.length_drop] at hk
        exact (rnum_ok most n k hr hm (Lib.hid h) hn).mono fun e w' ⟨he, hb, hc⟩ => ⟨he, hr.next hb hc hD (by have := hr.le; show at_ + k ≤ l.length; omega), hc⟩
      · have e : rdNum l most at_ false = (0, at_, true) := by simp [rdNum, h, hn]
        rw [e]
        exact (rnum_no most hr hm (Lib.hid (.inr ⟨n, k, h, by omega⟩))).mono fun e w' ⟨he, hb, hc⟩ => ⟨he, hr.next hb hc hD hr.le, hc⟩
end Go.Proofs.Ytoolpppbbphbjaa
