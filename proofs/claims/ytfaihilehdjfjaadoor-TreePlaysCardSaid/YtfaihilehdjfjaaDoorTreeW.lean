/- A row of the call's own; and pick. -/
import Derived.Test.YtfaihilehdjfjaaDoorTree13
namespace Go.Proofs.YtfaihilehdjfjaaDoor
open Go.ChangeShapes Go.WideShapes Go.ChangeAt Go.RowKit

theorem tmod_low (k n : Int) (hn : 0 < n) : -n < k.tmod n := by
  rcases Int.le_total 0 k with h | h
  · have := Int.tmod_nonneg n h; omega
  · have h1 : (-k).tmod n < n := Int.tmod_lt_of_pos (-k) hn
    rw [Int.neg_tmod] at h1
    omega
theorem pick_any (k n : Int) (w : World) (hk : -9223372036854775808 ≤ k ∧ k ≤ 9223372036854775807) (hn : 0 < n ∧ n ≤ 1000000) :
    Calls Tryd.prog 22 #[.int .i64 k, .int .i64 n] w fun e w' => e = .returned (.int .i64 ((k.tmod n + n) % n)) ∧ w' = w := by
  have h1 : -n < k.tmod n := tmod_low k n hn.1
  have h2 : k.tmod n < n := Int.tmod_lt_of_pos k hn.1
  have hn0 : n ≠ 0 := by omega
  go_enter Tryd.func22, Tryd.ntmps22
  go_wp2_with fail
  go_ret
  exact ⟨rfl, rfl⟩
theorem pick_nat (k : Int) (n : Nat) (hn : 0 < n) : ∃ p : Nat, (k.tmod n + n) % n = p ∧ p < n := by
  have h1 := Int.emod_nonneg (k.tmod n + n) (b := n) (by omega)
  have h2 := Int.emod_lt_of_pos (k.tmod n + n) (b := n) (by omega)
  exact ⟨((k.tmod n + n) % n).toNat, by omega, by omega⟩
structure WorkI (w wr : World) (b : Nat) (t : T) (k : Nat) : Prop where
  row : RowOf wr b t k
  base : w.heap.size ≤ b
  ads : ∀ g ∈ t.ads, w.heap.size ≤ g
  below : Below w.heap.size w wr
theorem WorkI.step {w wr w' : World} {b : Nat} {t t' : T} {k k' : Nat} (h : WorkI w wr b t k) (hr : RowOf w' b t' k') (hc : Chg (fun j => j = b ∨ j ∈ t.ads) wr w') (ha : ∀ g ∈ t'.ads, w.heap.size ≤ g) : WorkI w w' b t' k' :=
  ⟨hr, h.base, ha, h.below.trans (hc.below h.below.size fun _ e => e.elim (fun e => e ▸ h.base) (h.ads _))⟩
theorem WorkI.same {w wr w' : World} {b : Nat} {t : T} {k k' : Nat} (h : WorkI w wr b t k) (hr : RowOf w' b t k') (hc : Chg (fun j => j = b) wr w') : WorkI w w' b t k' :=
  h.step hr (hc.mono fun _ _ e => .inl e) h.ads
end Go.Proofs.YtfaihilehdjfjaaDoor
