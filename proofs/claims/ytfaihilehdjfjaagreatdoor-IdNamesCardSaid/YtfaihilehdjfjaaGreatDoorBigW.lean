/- Plain: how many words a number has. -/
import Derived.Test.YtfaihilehdjfjaaGreatDoorBig1
namespace Go.Proofs.YtfaihilehdjfjaaGreatDoor
open Go.ChangeShapes Go.WideShapes Go.ChangeAt Go.RowKit
theorem wd_two (n : Nat) : (wd n).length ≤ 2 ↔ n < 18446744073709551616 := by
  constructor
  · intro h
    have h1 := val_lt (ok_wd n)
    rw [val_wd] at h1
    have : 4294967296 ^ (wd n).length ≤ 4294967296 ^ 2 := Nat.pow_le_pow_right (by omega) h
    omega
  · intro h
    exact wd_len (by omega)
end Go.Proofs.YtfaihilehdjfjaaGreatDoor
