/- Contracts: the comparison of ints, of strings, of ids, of values. -/
import Derived.Test.YtoolpppbbphbjaaBytes0
import Derived.WalkKit
import Derived.ProofKit
import Derived.OpenShut
import Derived.LoopTactic
import Derived.WalkLawsBesides
import Derived.WalkSpells
import Derived.BigQuiet
import Derived.Deep.QuietTactic
import Derived.Deep.RegionHeld3
import Derived.Lib.Hide
import Derived.Deep.DeepFit
namespace Go.Proofs.Ytoolpppbbphbjaa
open Go.ChangeShapes Go.WideShapes Go.ChangeAt Go.RowKit

def cmpI (a b : Int) : Int := if a < b then -1 else if b < a then 1 else 0
def cmpS (a b : List UInt8) : Int := if Op.bytesLess a b then -1 else if !Op.bytesLess a b && !(a == b) then 1 else 0

theorem cmpI_lt {a b : Int} (h : a < b) : -1 = cmpI a b := by simp [cmpI, h]
theorem cmpI_gt {a b : Int} (h : b < a) : 1 = cmpI a b := by rw [cmpI, if_neg (by omega), if_pos h]
theorem cmpI_eq {a b : Int} (h1 : ¬ a < b) (h : ¬ b < a) : 0 = cmpI a b := by rw [cmpI, if_neg h1, if_neg h]
theorem cmpS_lt {a b : List UInt8} (h : Op.bytesLess a b = true) : -1 = cmpS a b := by simp [cmpS, h]
theorem cmpS_gt {a b : List UInt8} (h : Op.bytesLess a b = false) (h2 : (!a == b) = true) : 1 = cmpS a b := by simp only [cmpS, h, h2]; rfl
theorem cmpS_eq {a b : List UInt8} (h : Op.bytesLess a b = false) (h2 : (!a == b) = false) : 0 = cmpS a b := by simp only [cmpS, h, h2]; rfl

set_option maxHeartbeats 400000 in
theorem cmpInt_any (a b : Int) (w : World) :
    Calls Try.prog 36 #[.int .i64 a, .int .i64 b] w fun e w' => e = .returned (.int .i64 (cmpI a b)) ∧ w = w' := by
  by_cases h1 : a < b
  · go_enter Try.func36, Try.ntmps36
    go_wp2
    go_ret
    exact ⟨ret_int (cmpI_lt h1), rfl⟩
  · by_cases h2 : b < a
    · go_enter Try.func36, Try.ntmps36
      go_wp2
      go_ret
      exact ⟨ret_int (cmpI_gt h2), rfl⟩
    · go_enter Try.func36, Try.ntmps36
      go_wp2
      go_ret
      exact ⟨ret_int (cmpI_eq (by omega) (by omega)), rfl⟩

/-- the first that is not 0 -/
def firstNZ : List Int → Int
  | [] => 0
  | x :: l => if x = 0 then firstNZ l else x

theorem firstNZ_at : ∀ (l : List Int) (k : Nat) (x : Int), (∀ j, j < k → l.getD j 0 = 0) → l[k]? = some x → x ≠ 0 → firstNZ l = x
  | [], _, _, _, h, _ => by simp at h
  | y :: l, 0, x, _, h, hx => by
    simp at h; subst h; simp [firstNZ, hx]
  | y :: l, k + 1, x, h0, h, hx => by
    have hy : y = 0 := h0 0 (by omega)
    subst hy
    simp only [firstNZ, if_true]
    exact firstNZ_at l k x (fun j hj => by simpa using h0 (j + 1) (by omega)) (by simpa using h) hx
theorem firstNZ_none : ∀ (l : List Int), (∀ j, j < l.length → l.getD j 0 = 0) → firstNZ l = 0
  | [], _ => rfl
  | y :: l, h0 => by
    have hy : y = 0 := h0 0 (by simp)
    subst hy
    simp only [firstNZ, if_true]
    exact firstNZ_none l (fun j hj => by simpa using h0 (j + 1) (by simpa using hj))

set_option maxHeartbeats 400000 in
theorem or_any (xs : List Int) (n : Nat) (hn : n = xs.length) (b : Nat) (w : World) (hlen : n ≤ 1000000)
    (hc : ∀ (k : Nat) (x : Int), xs[k]? = some x → w.cell? ⟨b, k, none⟩ = some (.int .i64 x)) :
    Calls Try.prog 35 #[.slice (some ⟨b, 0, none⟩) n n] w fun e w' => e = .returned (.int .i64 (firstNZ xs)) ∧ w = w' := by
  have HN := Lib.hid hn
  have HC := Lib.hid hc
  clear hn hc
  go_enter Try.func35, Try.ntmps35
  go_wp2
  go_loop [5, 8] (fun _ i => ∃ k : Nat, k ≤ n ∧ i = .int .i64 k ∧ ∀ j, j < k → xs.getD j 0 = 0) (fun _ i => n - (intOf i).toNat)
  case atStart => exact ⟨0, by omega, rfl, fun j hj => absurd hj (by omega)⟩
  case round =>
    obtain ⟨k, hk, rfl, hz⟩ := hrel
    have HZ := Lib.hid hz
    clear hz
    by_cases hlt : k < n
    · obtain ⟨x, hx⟩ : ∃ x, xs[k]? = some x := by have := HN.out; exact ⟨xs[k], List.getElem?_eq_getElem (by omega)⟩
      have HX := Lib.hid hx
      have hcell := HC.out k x hx
      clear hx
      by_cases h0 : x = 0
      · subst h0
        go_wp2
        go_round
        case rel => exact ⟨k + 1, by omega, by go_num, fun j hj => by
          by_cases e : j = k
          · subst e; rw [List.getD_eq_getElem?_getD, HX.out]; rfl
          · exact HZ.out j (by omega)⟩
        case measure => simp [intOf]; omega
      · have hb : (x != 0) = true := by simpa using h0
        have H0 := Lib.hid h0
        clear h0
        go_wp2
        go_ret
        exact ⟨ret_int (firstNZ_at xs k x HZ.out HX.out H0.out).symm, rfl⟩
    · go_wp2
      go_ret
      exact ⟨ret_int (firstNZ_none xs (fun j hj => HZ.out j (by have := HN.out; omega))).symm, rfl⟩

theorem flipW {P : Program} {f : FuncId} {args : Array Value} {w : World} {v : Value} (h : Calls P f args w fun e w' => e = .returned v ∧ w = w') : Calls P f args w fun e w' => e = .returned v ∧ w' = w :=
  h.mono fun _ _ ⟨he, hw⟩ => ⟨he, hw.symm⟩

/-- ids, refs: two ints -/
def cmp2 (a b c d : Int) : Int := firstNZ [cmpI a c, cmpI b d]

theorem or2_any (x y : Int) (b : Nat) (w : World) (h0 : w.cell? ⟨b, 0, none⟩ = some (.int .i64 x)) (h1 : w.cell? ⟨b, 1, none⟩ = some (.int .i64 y)) :
    Calls Try.prog 35 #[.slice (some ⟨b, 0, none⟩) 2 2] w fun e w' => e = .returned (.int .i64 (firstNZ [x, y])) ∧ w = w' :=
  or_any [x, y] 2 rfl b w (by omega) fun k u hk => by
    match k, hk with
    | 0, hk => simp at hk; subst hk; exact h0
    | 1, hk => simp at hk; subst hk; exact h1
    | k + 2, hk => simp at hk
theorem or4_any (x y z t : Int) (b : Nat) (w : World) (h0 : w.cell? ⟨b, 0, none⟩ = some (.int .i64 x)) (h1 : w.cell? ⟨b, 1, none⟩ = some (.int .i64 y))
    (h2 : w.cell? ⟨b, 2, none⟩ = some (.int .i64 z)) (h3 : w.cell? ⟨b, 3, none⟩ = some (.int .i64 t)) :
    Calls Try.prog 35 #[.slice (some ⟨b, 0, none⟩) 4 4] w fun e w' => e = .returned (.int .i64 (firstNZ [x, y, z, t])) ∧ w = w' :=
  or_any [x, y, z, t] 4 rfl b w (by omega) fun k u hk => by
    match k, hk with
    | 0, hk => simp at hk; subst hk; exact h0
    | 1, hk => simp at hk; subst hk; exact h1
    | 2, hk => simp at hk; subst hk; exact h2
    | 3, hk => simp at hk; subst hk; exact h3
    | k + 4, hk => simp at hk

set_option maxHeartbeats 1600000 in
theorem idCompare_any (a b c d : Int) (w : World) :
    Calls Try.prog 34 #[.agg #[.int .i64 a, .int .i64 b], .agg #[.int .i64 c, .int .i64 d]] w fun e w' => e = .returned (.int .i64 (cmp2 a b c d)) ∧ Below w.heap.size w w' := by
  go_enter Try.func34, Try.ntmps34
  go_wp2
  go_region_held3 (fun w' => w'.cell? ⟨w.heap.size, 0, none⟩ = some (.int .i64 a) ∧ w'.cell? ⟨w.heap.size, 1, none⟩ = some (.int .i64 b) ∧ w'.cell? ⟨w.heap.size + 1, 0, none⟩ = some (.int .i64 c) ∧ w'.cell? ⟨w.heap.size + 1, 1, none⟩ = some (.int .i64 d)) (go_keep)
    (first | (go_at_call 36; refine (cmpInt_any _ _ _).mono ?_; rintro e w' ⟨rfl, rfl⟩) | (go_at_call 35; refine (or2_any (cmpI a c) (cmpI b d) _ _ ?_ ?_).mono ?_; (go_simp); (go_simp); rintro e w' ⟨rfl, rfl⟩))
  go_wp2
  go_ret
  exact ⟨rfl, ((((Below.refl _ _).alloc (Nat.le_refl _) _).alloc (by simp) _).alloc (by simp; omega) _).drew⟩

def cmpV (k n : Int) (t : List UInt8) (a b : Int) (k' n' : Int) (t' : List UInt8) (a' b' : Int) : Int := firstNZ [cmpI k k', cmpI n n', cmpS t t', cmp2 a b a' b']

end Go.Proofs.Ytoolpppbbphbjaa
