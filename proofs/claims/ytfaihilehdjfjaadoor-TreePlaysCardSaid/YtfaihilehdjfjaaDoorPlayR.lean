/- The law TreePlays: its frame, cut out of the loop. -/
import Derived.Test.YtfaihilehdjfjaaDoorPlay3
import Derived.Test.YtfaihilehdjfjaaDoorOpenI
namespace Go.Proofs.YtfaihilehdjfjaaDoor
open Go.ChangeShapes Go.WideShapes Go.ChangeAt Go.RowKit

def firstLoop : Code → Option Code
  | .loop c => some c
  | .seq a b => match firstLoop a with
    | some c => some c
    | none => firstLoop b
  | .block _ c => firstLoop c
  | .scope c => firstLoop c
  | .cond _ a b => match firstLoop a with
    | some c => some c
    | none => firstLoop b
  | _ => none
def blockOf (n : Nat) : Code → Option Code
  | .block k c => if k = n then some (.block k c) else blockOf n c
  | .seq a b => match blockOf n a with
    | some c => some c
    | none => blockOf n b
  | .loop c => blockOf n c
  | .scope c => blockOf n c
  | .cond _ a b => match blockOf n a with
    | some c => some c
    | none => blockOf n b
  | _ => none
noncomputable def playBody : Code := (Tryd.f5.body.bind firstLoop).getD .skip
noncomputable def playSw : Code := (Tryd.f5.body.bind (blockOf 2)).getD .skip
def AllL : Nat → (List Value → Prop) → Prop
  | 0, P => P []
  | n + 1, P => ∀ u, AllL n (fun l => P (u :: l))
theorem all_frames : ∀ (n : Nat) (P : List Value → Prop), AllL n P → ∀ l : List Value, l.length = n → P l
  | 0, P, h, [], _ => h
  | n + 1, P, h, u :: l, hl => all_frames n (fun l => P (u :: l)) (h u) l (by simpa using hl)
theorem frame_of {a : Act} (P : Act → Prop) (hs : a.tmps.size = 328) (hd : a.defers = []) (h : AllL 328 (fun l => P ⟨l.toArray, []⟩)) : P a := by
  obtain ⟨⟨l⟩, d⟩ := a
  simp only at hd
  subst hd
  exact all_frames 328 _ h l (by simpa using hs)
/-- a slot's value -/
def At (a : Act) (i : Nat) (v : Value) : Prop := a.tmps[i]? = some v
structure Shape (a : Act) (E : Value) (b : Nat) : Prop where
  size : a.tmps.size = 328
  defers : a.defers = []
  s0 : At a 0 E
  s3 : At a 3 (.pointer (some ⟨b, 0, none⟩))
/-- the loop's own relation -/
def PlayL (w : World) (E : Value) (b : Nat) (a : Act) (wr : World) : Prop :=
  Shape a E b ∧ ∃ (i : Nat) (t : T) (k : Nat) (v4 v5 : Value), At a 4 v4 ∧ At a 5 v5 ∧ At a 6 (.int .i64 i) ∧ i ≤ 200 ∧ Hid (PlayI w wr b t k v4 v5 ∧ t.cnt ≤ i ∧ k ≤ 1000 * i)
/-- .. behind the switch -/
def PlayS (w : World) (E : Value) (b i : Nat) (a : Act) (wr : World) : Prop :=
  Shape a E b ∧ At a 6 (.int .i64 i) ∧ ∃ (t : T) (k : Nat) (v4 v5 : Value), At a 4 v4 ∧ At a 5 v5 ∧ Hid (PlayI w wr b t k v4 v5 ∧ t.cnt ≤ i + 1 ∧ k ≤ 1000 * (i + 1))
theorem at_s {w wr : World} {A1 : Option Addr} {s : List Int} (HS : Hid (Reads (· < w.heap.size) w 1 A1 s.length (intsC s))) (hb : Below w.heap.size w wr) (i c1 : Nat) :
    Calls Tryd.prog 21 #[.slice A1 s.length c1, .int .i64 i] wr fun e w' => e = .returned (.int .i64 (s.getD i 0)) ∧ w' = wr :=
  at_any s i _ A1 c1 wr (HS.out.keep (Below.keeps hb))
end Go.Proofs.YtfaihilehdjfjaaDoor
