/- Contracts: package bytes, Unpack. -/
import Derived.Test.YtgkpeeilmknmfaaDoorReader2
namespace Go.Proofs.YtgkpeeilmknmfaaDoor
open Go.ChangeShapes Go.WideShapes Go.ChangeAt Go.RowKit

def expandL (p : List (Int × Int)) : List Int := p.flatMap fun x => List.replicate x.1.toNat x.2
def manys : List (Int × Int) → Nat
  | [] => 0
  | x :: p => x.1.toNat + manys p
theorem manys_append : ∀ (p q : List (Int × Int)), manys (p ++ q) = manys p + manys q
  | [], q => by simp [manys]
  | x :: p, q => by simp [manys, manys_append p q]; omega
theorem expandL_length : ∀ (p : List (Int × Int)), (expandL p).length = manys p
  | [] => rfl
  | x :: p => by
    have := expandL_length p
    simp only [expandL] at this
    simp [expandL, manys, this]
theorem spreadF_ok : ∀ (p : List (Int × Int)) (acc : List Int), (∀ x ∈ p, 1 ≤ x.1) → acc.length + manys p ≤ 400 → spreadF acc p = .ok (acc ++ expandL p)
  | [], acc, _, _ => by simp [spreadF, expandL]
  | (m, n) :: p, acc, h1, h2 => by
    have hm : 1 ≤ m := h1 (m, n) (by simp)
    simp only [manys] at h2
    rw [spreadF, if_neg (by omega), if_neg (by omega), spreadF_ok p _ (fun x hx => h1 x (by simp [hx])) (by simp; omega)]
    simp [expandL]

/-- the pieces that bytes hold, from a place on -/
def upkG : Nat → List UInt8 → Nat → Nat → List (Int × Int) → Option (List (Int × Int) × Nat)
  | 0, _, _, _, _ => none
  | f + 1, l, left, at_, p =>
    if left = 0 then some (p, at_) else
    let a := rdNum l left at_ false
    let b := rdInt l a.2.1 a.2.2
    if b.2.2 = true ∨ a.1 < 1 ∨ p.getLast?.map (·.2) = some b.1 then none
    else upkG f l (left - a.1) b.2.1 (p ++ [((a.1 : Int), b.1)])
def unpackL (l : List UInt8) : Option (List Int × Nat) :=
  if (rdNum l 400 0 false).2.2 = true then none
  else (upkG 401 l (rdNum l 400 0 false).1 (rdNum l 400 0 false).2.1 []).map fun x => (sumsF 0 (expandL x.1), x.2)

/-- where the loop stands -/
def UpAt (l : List UInt8) (left at_ : Nat) (bad : Bool) (p : List (Int × Int)) : Prop :=
  if bad then unpackL l = none ∧ p.length ≤ 402
  else (∃ f, left < f ∧ unpackL l = (upkG f l left at_ p).map fun x => (sumsF 0 (expandL x.1), x.2)) ∧ (∀ x ∈ p, 1 ≤ x.1) ∧ manys p + left ≤ 400 ∧ p.length ≤ manys p
section
variable {l : List UInt8} {left at_ m at1 at2 : Nat} {bad bad1 bad2 : Bool} {s : Int} {p : List (Int × Int)}
theorem UpAt.bad_none (h : UpAt l left at_ true p) : unpackL l = none := by simp only [UpAt, if_true] at h; exact h.1
theorem UpAt.len (h : UpAt l left at_ bad p) : p.length ≤ 402 := by
  unfold UpAt at h
  split at h
  · exact h.2
  · obtain ⟨_, _, h3, h4⟩ := h; omega
theorem UpAt.fin (h : UpAt l 0 at_ false p) : unpackL l = some (sumsF 0 (expandL p), at_) ∧ spreadF [] p = .ok (expandL p) ∧ (expandL p).length ≤ 400 := by
  simp only [UpAt, Bool.false_eq_true, if_false] at h
  obtain ⟨⟨f, hf, hu⟩, h1, h2, _⟩ := h
  refine ⟨?_, by rw [spreadF_ok p [] h1 (by simpa using h2)]; simp, by rw [expandL_length]; omega⟩
  obtain _ | f := f
  · omega
  · simpa [upkG] using hu
theorem UpAt.open_ (h : UpAt l left at_ false p) (hl : 0 < left) (e1 : Hid (rdNum l left at_ false = (m, at1, bad1))) (e2 : Hid (rdInt l at1 bad1 = (s, at2, bad2))) :
    ∃ f, left ≤ f ∧ unpackL l = ((if bad2 = true ∨ m < 1 ∨ p.getLast?.map (·.2) = some s then none else upkG f l (left - m) at2 (p ++ [((m : Int), s)])).map fun x => (sumsF 0 (expandL x.1), x.2)) := by
  simp only [UpAt, Bool.false_eq_true, if_false] at h
  obtain ⟨⟨f, hf, hu⟩, _⟩ := h
  obtain _ | f := f
  · omega
  · refine ⟨f, by omega, ?_⟩
    rw [hu, upkG, if_neg (by omega)]
    simp only [e1.out, e2.out]
theorem UpAt.fall (h : UpAt l left at_ false p) (hl : 0 < left) (e1 : Hid (rdNum l left at_ false = (m, at1, bad1))) (e2 : Hid (rdInt l at1 bad1 = (s, at2, bad2)))
    (hc : bad2 = true ∨ m < 1 ∨ p.getLast?.map (·.2) = some s) (x : Int × Int) (left' at' : Nat) : UpAt l left' at' true (p ++ [x]) := by
  obtain ⟨f, _, hu⟩ := h.open_ hl e1 e2
  simp only [UpAt, if_true]
  refine ⟨by rw [hu, if_pos hc]; rfl, ?_⟩
  simp only [UpAt, Bool.false_eq_true, if_false] at h
  obtain ⟨_, _, h3, h4⟩ := h
  simp; omega
theorem UpAt.step (h : UpAt l left at_ false p) (hl : 0 < left) (e1 : Hid (rdNum l left at_ false = (m, at1, bad1))) (e2 : Hid (rdInt l at1 bad1 = (s, at2, bad2)))
    (hm : 1 ≤ m) (hc : p.getLast?.map (·.2) ≠ some s) : UpAt l (left - m) at2 bad2 (p ++ [((m : Int), s)]) := by
  cases bad2 with
  | true => exact h.fall hl e1 e2 (.inl rfl) _ _ _
  | false =>
    obtain ⟨f, hf, hu⟩ := h.open_ hl e1 e2
    have hle : m ≤ left := by have := rdNum_le (l := l) (most := left) (at_ := at_) (bad := false); rw [e1.out] at this; exact this
    simp only [UpAt, Bool.false_eq_true, if_false] at h ⊢
    obtain ⟨_, h2, h3, h4⟩ := h
    refine ⟨⟨f, by omega, by rw [hu, if_neg]; simp [hc]; omega⟩, ?_, by rw [manys_append]; simp [manys]; omega, by rw [manys_append]; simp [manys]; omega⟩
    intro x hx
    rw [List.mem_append] at hx
    rcases hx with hx | hx
    · exact h2 x hx
    · simp only [List.mem_singleton] at hx; subst hx; simp; omega
end

def UnOr (r : Option (List Int × Nat)) (B : Nat) (en : Ending) (w' : World) : Prop :=
  match r with
  | some x => ∃ v, en = .returned (.tuple #[v, .int .i64 x.2, .nilIface]) ∧ w'.ownsRow B 3 1 v x.1.length (intsC x.1)
  | none => en = .returned (.tuple #[.slice none 0 0, .int .i64 0, .iface 76 (.int .i64 9)])

def okBit (w : World) (g : Nat) : Nat := match w.cell? ⟨g, 2, none⟩ with | some .nilIface => 1 | _ => 0
theorem RdAt.ok {w : World} {g n c at_ : Nat} {A : Option Addr} (h : RdAt w g A n c at_ false) : okBit w g = 1 := by
  unfold okBit; rw [show w.cell? ⟨g, 2, none⟩ = some .nilIface from h.cell 2]
theorem RdAt.bad {w : World} {g n c at_ : Nat} {A : Option Addr} (h : RdAt w g A n c at_ true) : okBit w g = 0 := by
  unfold okBit; rw [show w.cell? ⟨g, 2, none⟩ = some (.iface 76 (.int .i64 9)) from h.cell 2]
end Go.Proofs.YtgkpeeilmknmfaaDoor
