/- ValueQuotes: the law's walk. -/
import Derived.Test.YtgkpeeilmknmfaaDoorRefUnquote
import Derived.Test.YtgkpeeilmknmfaaDoorAs
namespace Go.Proofs.YtgkpeeilmknmfaaDoor
open Go.ChangeShapes Go.WideShapes Go.ChangeAt Go.RowKit

theorem unqV_some (t : List UInt8) (n : Nat) : unqV (some (t, n)) = .tuple #[.string ⟨t.toArray⟩, .int .i64 n, errV 0] := rfl
theorem unqV_none : unqV none = .tuple #[.string ⟨#[]⟩, .int .i64 0, errV 2] := rfl

set_option maxRecDepth 20000 in
set_option maxHeartbeats 4000000 in
theorem valueQuotes_walk (l m : List UInt8) (w : World) (hE : Hid (ErrT w)) (hl : l.length ≤ 1048576) (hm : m.length ≤ 1048576) :
    Calls Tryd.prog 6 #[.string ⟨l.toArray⟩, .string ⟨m.toArray⟩] w fun e w' => e = .returned (.bool true) ∧ Below w.heap.size w w' := by
  go_enter Tryd.func6, Tryd.ntmps6
  go_wp2_with fail
  refine (quote_any l w hl).mono ?_
  rintro e w1 ⟨rfl, hb1⟩
  have HB1 := Lib.hid hb1
  clear hb1
  go_wp2_with fail
  refine (quoteR_any l w1 hl).mono ?_
  rintro e w2 ⟨rfl, hb2⟩
  have HB2 : Hid (Below w.heap.size w w2) := HB1.out.trans (hb2.mono HB1.out.size)
  clear hb2 HB1
  generalize quoteL l = q
  go_wp2_with fail
  refine (unquoteR_any m w2 (by omega)).mono ?_
  rintro e w3 ⟨rfl, hb3⟩
  have HB3 : Hid (Below w.heap.size w w3) := HB2.out.trans (hb3.mono HB2.out.size)
  clear hb3 HB2
  cases hu : unquoteL m with
  | none =>
    have HU := Lib.hid hu
    clear hu
    simp only [unqRV]
    go_wp2_with fail
    refine (unquote_any m w3 (by omega)).mono ?_
    rw [HU.out, unqV_none]
    rintro e w4 ⟨rfl, hb4⟩
    have HB4 : Hid (Below w.heap.size w w4) := HB3.out.trans (hb4.mono HB3.out.size)
    clear hb4 HB3
    generalize hev : errV 2 = ev
    go_wp2_with fail
    rw [← hev]
    refine (same_error 2 2 w4 (hE.out.keep HB4.out)).mono ?_
    rintro e w5 ⟨rfl, hb5⟩
    have HB5 : Hid (Below w.heap.size w w5) := HB4.out.trans (hb5.mono HB4.out.size)
    clear hb5 HB4
    go_wp2_with fail
    go_ret
    exact ⟨rfl, HB5.out⟩
  | some x =>
    obtain ⟨t, n⟩ := x
    have HU := Lib.hid hu
    clear hu
    simp only [unqRV]
    go_wp2_with fail
    refine (unquote_any m w3 (by omega)).mono ?_
    rw [HU.out, unqV_some]
    rintro e w4 ⟨rfl, hb4⟩
    have HB4 : Hid (Below w.heap.size w w4) := HB3.out.trans (hb4.mono HB3.out.size)
    clear hb4 HB3
    generalize hev : errV 0 = ev
    go_wp2_with fail
    rw [← hev]
    refine (same_error 0 0 w4 (hE.out.keep HB4.out)).mono ?_
    rintro e w5 ⟨rfl, hb5⟩
    have HB5 : Hid (Below w.heap.size w w5) := HB4.out.trans (hb5.mono HB4.out.size)
    clear hb5 HB4
    go_wp2_with fail
    go_ret
    exact ⟨rfl, HB5.out⟩
end Go.Proofs.YtgkpeeilmknmfaaDoor
