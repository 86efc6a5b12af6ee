/- A still operation that is wanted, with the list of what yielded left aside. -/
import Derived.Test.YtoolpppbbphbjaaFrame
import Derived.StillTailTactics
namespace Go.Proofs.Ytoolpppbbphbjaa

theorem wpStill_want {P : Program} {ops : Array Oper} {w : World} {Q : Act → Prop} {a : Act} {o : Oper} {rest : List Oper} (hw : Region.wanted o (yielded ops a.tmps) = true)
    (h : ∀ K : Act → Prop, (∀ a, wpStill P ops w Q rest a → K a) → o.still P a w K) : wpStill P ops w Q (o :: rest) a :=
  wpStill_step fun K hK => by rw [if_pos hw]; exact h K hK
end Go.Proofs.Ytoolpppbbphbjaa
