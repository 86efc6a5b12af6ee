/- Contracts of the clocks, in the words of values that read as lists. -/
import Derived.Test.YtfaihilehdjfjaaDoorRefClock
import Derived.Test.YtfaihilehdjfjaaDoorAs
namespace Go.Proofs.YtfaihilehdjfjaaDoor
open Go.ChangeShapes Go.WideShapes Go.ChangeAt Go.RowKit

/-- a value that reads as a list of refs -/
def RdS (w : World) (l : List Rf) (v : Value) : Prop :=
  ∃ A c, v = .slice A l.length c ∧ l.length ≤ 9223372036854775807 ∧ Reads (fun k => k < w.heap.size) w 2 A l.length (refC l)
theorem RdS.keep {w w' : World} {l : List Rf} {v : Value} (h : RdS w l v) (hb : Below w.heap.size w w') : RdS w' l v := by
  obtain ⟨A, c, rfl, h1, h2⟩ := h
  exact ⟨A, c, rfl, h1, (h2.keep fun k hk => hb.block k hk).more fun k hk => Nat.lt_of_lt_of_le hk hb.size⟩
theorem joinS {w : World} {a b : List Rf} {va vb : Value} (ha : RdS w a va) (hb : RdS w b vb) (va' : Vc a) (vb' : Vc b) :
    Calls Tryd.prog 13 #[va, vb] w fun e w' => Below w.heap.size w w' ∧ ∃ R v, e = .returned (.tuple #[v, .nilIface]) ∧ JoinV a b R ∧ RdS w' R v := by
  obtain ⟨A, ca, rfl, la, ra⟩ := ha
  obtain ⟨B, cb, rfl, lb, rb⟩ := hb
  have hz : bothE a b = 0 := (bothE_iff a b).mpr ⟨va', vb'⟩
  refine (join_any a b _ _ A B ca cb w ra rb (fun k h => h) (fun k h => h) la lb).mono ?_
  rintro e w1 ⟨h1, h2⟩
  rw [if_pos hz] at h2
  obtain ⟨v, rfl, L, A', c, hp, hd, rfl, h3, h4, h5⟩ := h2
  refine ⟨h1, _, _, rfl, JoinV.of va' vb' hp hd, A', c, rfl, by omega, h5.more fun k h => h.2⟩
theorem RdS.nil (w : World) : RdS w [] (.slice none 0 0) := ⟨none, 0, rfl, by simp, Reads.none_⟩
theorem joinE {w : World} {a b : List Rf} {va vb : Value} {k : Nat} (ha : RdS w a va) (hb : RdS w b vb) (hk : bothE a b = k) (h0 : k ≠ 0) :
    Calls Tryd.prog 13 #[va, vb] w fun e w' => e = .returned (.tuple #[.slice none 0 0, .iface 80 (.int .i64 k)]) ∧ Below w.heap.size w w' := by
  obtain ⟨A, ca, rfl, la, ra⟩ := ha
  obtain ⟨B, cb, rfl, lb, rb⟩ := hb
  refine (join_any a b _ _ A B ca cb w ra rb (fun k h => h) (fun k h => h) la lb).mono ?_
  rintro e w1 ⟨h1, h2⟩
  rw [hk, if_neg h0, errN_pos h0] at h2
  exact ⟨h2, h1⟩
theorem coversE {w : World} {a b : List Rf} {va vb : Value} {k : Nat} (ha : RdS w a va) (hb : RdS w b vb) (hk : bothE a b = k) (h0 : k ≠ 0) :
    Calls Tryd.prog 14 #[va, vb] w fun e w' => e = .returned (.tuple #[.bool false, .iface 80 (.int .i64 k)]) ∧ Below w.heap.size w w' := by
  obtain ⟨A, ca, rfl, la, ra⟩ := ha
  obtain ⟨B, cb, rfl, lb, rb⟩ := hb
  refine (covers_any a b _ _ A B ca cb w ra rb (fun k h => h) (fun k h => h) la lb).mono ?_
  rintro e w1 ⟨h1, h2⟩
  rw [hk, if_neg h0, errN_pos h0] at h2
  exact ⟨h2, h1⟩
theorem coversS {w : World} {a b : List Rf} {va vb : Value} (ha : RdS w a va) (hb : RdS w b vb) (va' : Vc a) (vb' : Vc b) :
    Calls Tryd.prog 14 #[va, vb] w fun e w' => e = .returned (.tuple #[.bool (!(aheadB a b)), .nilIface]) ∧ Below w.heap.size w w' := by
  obtain ⟨A, ca, rfl, la, ra⟩ := ha
  obtain ⟨B, cb, rfl, lb, rb⟩ := hb
  have hz : bothE a b = 0 := (bothE_iff a b).mpr ⟨va', vb'⟩
  refine (covers_any a b _ _ A B ca cb w ra rb (fun k h => h) (fun k h => h) la lb).mono ?_
  rintro e w1 ⟨h1, h2⟩
  rw [if_pos hz] at h2
  exact ⟨h2, h1⟩
theorem sameD {w : World} {a b : List Rf} {va vb : Value} (ha : RdS w a va) (hb : RdS w b vb) {x : Bool} (hx : decide (a = b) = x) :
    Calls Tryd.prog 12 #[va, vb] w fun e w' => e = .returned (.bool x) ∧ Below w.heap.size w w' := by
  obtain ⟨A, ca, rfl, la, ra⟩ := ha
  obtain ⟨B, cb, rfl, lb, rb⟩ := hb
  refine (sameRefs_any a b _ _ A B ca cb w ra rb la).mono ?_
  rintro e w1 ⟨h1, n, rfl⟩
  rw [hx] at h1
  exact ⟨h1, below_drewN (Below.refl _ _) n⟩
theorem refsS {w : World} {l : List Rf} {v : Value} (h : RdS w l v) : Calls Tryd.prog 9 #[v] w fun e w' => e = .returned (errN (refsE 0 l)) ∧ Below w.heap.size w w' := by
  obtain ⟨A, c, rfl, l, r⟩ := h
  exact refs_any _ _ A c w r (fun k h => h) l
theorem refClockS {w : World} {l : List Rf} {v : Value} (h : RdS w l v) : Calls Tryd.prog 8 #[v] w fun e w' => e = .returned (.int .i64 (refsE 0 l)) ∧ Below w.heap.size w w' := by
  obtain ⟨A, c, rfl, l, r⟩ := h
  exact refClock_any _ _ A c w r (fun k h => h) l
theorem refJoinS {w : World} {a b : List Rf} {va vb : Value} (ha : RdS w a va) (hb : RdS w b vb) (va' : Vc a) (vb' : Vc b) :
    Calls Tryd.prog 11 #[va, vb] w fun e w' => ∃ v, e = .returned v ∧ RdS w' (refJ a b 99) v ∧ Below w.heap.size w w' := by
  obtain ⟨A, ca, rfl, la, ra⟩ := ha
  obtain ⟨B, cb, rfl, lb, rb⟩ := hb
  refine (refJoin_any a b va' vb' _ _ A B ca cb w ra rb (fun k h => h) (fun k h => h)).mono ?_
  rintro e w1 ⟨h1, v, rfl, ho⟩
  obtain ⟨A', c', rfl, -, -, hr⟩ := Reads.of_own ho
  exact ⟨_, rfl, ⟨A', c', rfl, by have := refJ_len a b 99; omega, hr.more fun k hk => (own_lt ho hk).2⟩, h1⟩
theorem told0 (w : World) (hE : ErrT w) : Calls Tryd.prog 10 #[.nilIface, .int .i64 0] w fun e w' => e = .returned (.bool true) ∧ Below w.heap.size w w' := same_error 0 0 w hE
theorem toldk (k : Nat) (h0 : k ≠ 0) (w : World) (hE : ErrT w) : Calls Tryd.prog 10 #[.iface 80 (.int .i64 k), .int .i64 k] w fun e w' => e = .returned (.bool true) ∧ Below w.heap.size w w' := by
  have := same_error k k w hE
  rw [show errV k = .iface 80 (.int .i64 k) from if_neg h0] at this
  simpa only [beq_self_eq_true] using this
end Go.Proofs.YtfaihilehdjfjaaDoor
