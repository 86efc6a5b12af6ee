/-
  No cell of these rows narrows 'for every input' (looked for: loops, veiled, ifaces, maps, wideKeys, modest, calm, conditions, laid).
  DERIVED. THE GIVEN ROWS OF THIS SEAT. 3 by the template 'for every input the law returns true; each argument reads behind the call as it read before'; 0 by the template 'total and deterministic' (their statements: YtjhkcbideddlgaaGreatTotals.lean).
  GIVEN WITH THE SEED: the statements are not yours to turn. If you find one false, say at which input.
  Laid BY PROGRAM, IN A SANDBOX (cutbox-rows.mjs): the forced cells as the released guide's own fill.sh prints them over the translation e3ea4b634913bceb… (all of the seat's roots in one cut). By AI agents, Wed Nov 11 2026. No macro, syntax, notation, axiom, sorry.
-/
import Derived.Test.YtjhkcbideddlgaaGreatChecked
import GoSem.Claim
import GoSem.ClaimJoined
import GoSem.ClaimMapViews
import Derived.JoinedTies
import Derived.KernelRfl
namespace Go.Proofs.YtjhkcbideddlgaaGreat
/- THE CELL 'sum', in the pinned program and in every row, IS THE sha256 OF THE DUMP (.gsa) THAT YtjhkcbideddlgaaGreatProg.lean LOADS. Nothing in Lean hashes anything: it is a label: what it is worth is what the hold of that sum in a sandbox is worth. -/
noncomputable def Tryz.pinned : Pinned := { name := "ytjhkcbideddlgaagreat", sum := "e3ea4b634913bcebc66bffe2318ab965f417d4ea351a2a8e895136b3e4652f95", checked := Tryz.checked }
namespace Rows
def none {H : Type} : Left H := { results := [], args := [] }

/-- 'booklaw2.DagOrders': WHATEVER THE INPUT: true; the input reads as it did. -/
def dagOrdersSpec : ChangeSpec := { name := "dagOrders", fn := fun _ => fun
  | [d1, d2] => { results := [.lit (.bool true)], args := [d1, d2] }
  | _ => none }
def dagOrdersRow : OpenClaim := { program := "ytjhkcbideddlgaagreat", sum := "e3ea4b634913bcebc66bffe2318ab965f417d4ea351a2a8e895136b3e4652f95", func := "commonbook/booklaw2.DagOrders", spec := "dagOrders", unfollowed := true, recurses := true, plainKeys := false, apart := false }
def DagOrdersSaid : Prop := dagOrdersRow.holds Tryz.pinned (OpenSpec.ofChange dagOrdersSpec)

/-- ITS FALSE NEIGHBOUR: 'it returns false'. Refute it at one input. -/
def dagOrdersWrong : ChangeSpec := { name := "dagOrders", fn := fun _ => fun
  | [d1, d2] => { results := [.lit (.bool false)], args := [d1, d2] }
  | _ => none }
def DagOrdersWrongFalsely : Prop := dagOrdersRow.holds Tryz.pinned (OpenSpec.ofChange dagOrdersWrong)

/-- 'booklaw2.DagHeads': WHATEVER THE INPUT: true; the input reads as it did. -/
def dagHeadsSpec : ChangeSpec := { name := "dagHeads", fn := fun _ => fun
  | [d] => { results := [.lit (.bool true)], args := [d] }
  | _ => none }
def dagHeadsRow : OpenClaim := { program := "ytjhkcbideddlgaagreat", sum := "e3ea4b634913bcebc66bffe2318ab965f417d4ea351a2a8e895136b3e4652f95", func := "commonbook/booklaw2.DagHeads", spec := "dagHeads", unfollowed := true, recurses := true, plainKeys := false, apart := false }
def DagHeadsSaid : Prop := dagHeadsRow.holds Tryz.pinned (OpenSpec.ofChange dagHeadsSpec)

/-- ITS FALSE NEIGHBOUR: 'it returns false'. Refute it at one input. -/
def dagHeadsWrong : ChangeSpec := { name := "dagHeads", fn := fun _ => fun
  | [d] => { results := [.lit (.bool false)], args := [d] }
  | _ => none }
def DagHeadsWrongFalsely : Prop := dagHeadsRow.holds Tryz.pinned (OpenSpec.ofChange dagHeadsWrong)

/-- 'booklaw2.MarkStays': WHATEVER THE INPUT: true; the input reads as it did. -/
def markStaysSpec : ChangeSpec := { name := "markStays", fn := fun _ => fun
  | [d1, d2] => { results := [.lit (.bool true)], args := [d1, d2] }
  | _ => none }
def markStaysRow : OpenClaim := { program := "ytjhkcbideddlgaagreat", sum := "e3ea4b634913bcebc66bffe2318ab965f417d4ea351a2a8e895136b3e4652f95", func := "commonbook/booklaw2.MarkStays", spec := "markStays", unfollowed := true, recurses := true, plainKeys := false, apart := false }
def MarkStaysSaid : Prop := markStaysRow.holds Tryz.pinned (OpenSpec.ofChange markStaysSpec)

/-- ITS FALSE NEIGHBOUR: 'it returns false'. Refute it at one input. -/
def markStaysWrong : ChangeSpec := { name := "markStays", fn := fun _ => fun
  | [d1, d2] => { results := [.lit (.bool false)], args := [d1, d2] }
  | _ => none }
def MarkStaysWrongFalsely : Prop := markStaysRow.holds Tryz.pinned (OpenSpec.ofChange markStaysWrong)

/- THE SECOND FORM. 'bulk': how many values and letters a reading holds, each counted each time it is reached (what is shared counts as often as it is met; a slice's spare places count too). A statement '..UptoSaid' is the law's where the arguments, and the package variables that the reading takes, are together of bulk at most 1048576: NARROWER than '..Said'. Prove '..Said' where nothing that the law and all that it calls make is longer than what came in: it says more and counts as full. Else prove '..UptoSaid'. A law counts once. -/
mutual
def uptoBulk {H : Type} : DataW H → Nat
  | .lit (.string bytes) => bytes.length + 1
  | .lit _ => 1
  | .nil => 1
  | .ptr d => uptoBulk d + 1
  | .slice elems spare => uptoBulkAll elems + uptoBulkAll spare + 1
  | .agg parts => uptoBulkAll parts + 1
  | .iface _ d => uptoBulk d + 1
  | .map entries => uptoBulkEntries entries + 1
  | .held _ => 1
def uptoBulkAll {H : Type} : List (DataW H) → Nat
  | [] => 0
  | d :: r => uptoBulk d + uptoBulkAll r
def uptoBulkEntries {H : Type} : List (Lit × DataW H) → Nat
  | [] => 0
  | x :: r => uptoBulkEntry x + uptoBulkEntries r
def uptoBulkEntry {H : Type} : Lit × DataW H → Nat
  | (.string bytes, d) => bytes.length + uptoBulk d + 1
  | (_, d) => uptoBulk d + 1
 end
def uptoSmall : (H : Type) → List (DataW H) → Bool := fun _ ds => decide (uptoBulkAll ds ≤ 1048576)
def OpenSpec.upto (s : _root_.Go.ChangeSpec) : _root_.Go.OpenSpec := { _root_.Go.OpenSpec.ofChange s with cond := some uptoSmall }

/-- 'booklaw2.DagOrders', WHERE WHAT IT READS IS OF BULK AT MOST 1048576: true; the input reads as it did. -/
def dagOrdersUptoRow : OpenClaim := { program := "ytjhkcbideddlgaagreat", sum := "e3ea4b634913bcebc66bffe2318ab965f417d4ea351a2a8e895136b3e4652f95", func := "commonbook/booklaw2.DagOrders", spec := "dagOrders", unfollowed := true, recurses := true, plainKeys := false, apart := false, narrowed := true }
def DagOrdersUptoSaid : Prop := dagOrdersUptoRow.holds Tryz.pinned (OpenSpec.upto dagOrdersSpec)

/-- 'booklaw2.DagHeads', WHERE WHAT IT READS IS OF BULK AT MOST 1048576: true; the input reads as it did. -/
def dagHeadsUptoRow : OpenClaim := { program := "ytjhkcbideddlgaagreat", sum := "e3ea4b634913bcebc66bffe2318ab965f417d4ea351a2a8e895136b3e4652f95", func := "commonbook/booklaw2.DagHeads", spec := "dagHeads", unfollowed := true, recurses := true, plainKeys := false, apart := false, narrowed := true }
def DagHeadsUptoSaid : Prop := dagHeadsUptoRow.holds Tryz.pinned (OpenSpec.upto dagHeadsSpec)

/-- 'booklaw2.MarkStays', WHERE WHAT IT READS IS OF BULK AT MOST 1048576: true; the input reads as it did. -/
def markStaysUptoRow : OpenClaim := { program := "ytjhkcbideddlgaagreat", sum := "e3ea4b634913bcebc66bffe2318ab965f417d4ea351a2a8e895136b3e4652f95", func := "commonbook/booklaw2.MarkStays", spec := "markStays", unfollowed := true, recurses := true, plainKeys := false, apart := false, narrowed := true }
def MarkStaysUptoSaid : Prop := markStaysUptoRow.holds Tryz.pinned (OpenSpec.upto markStaysSpec)

end Rows
end Go.Proofs.YtjhkcbideddlgaaGreat
