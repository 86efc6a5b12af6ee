/- What the listed variable gives: its cell; a world that meets the list (the witness's). -/
import Derived.Test.YtmpkejflgpodkaaGreatDoorP2
import Derived.Test.YtmpkejflgpodkaaGreatDoorP1
import Derived.Test.YtmpkejflgpodkaaGreatDoorTie
import Derived.Test.YtmpkejflgpodkaaGreatDoorCards
import Derived.LaidHandle
import Derived.LaidLaws
import Derived.Deep.DeepHandedRow
import Derived.JoinedCond
set_option linter.unusedVariables false
set_option linter.unusedSimpArgs false
namespace Go.Proofs.YtmpkejflgpodkaaGreatDoor
open Go.ChangeShapes Go.WideShapes Go.ChangeAt Go.RowKit Go.Deep
theorem et_ : Tryz.prog.globalNamed "errors.errorType" = some 0 := by kernel_rfl
theorem rt_ : (Tryz.prog.cutTypes.find? (·.1 == "internal/reflectlite.rtype")).map (·.2) = some 212 := by kernel_rfl
theorem oneRow_:((List.range 319).filter fun t=>Tryz.prog.rowNamed t [101,114,114,111,114])=[38]:=by kernel_rfl
theorem size_:Tryz.prog.types.size=319:=by kernel_rfl
theorem handle_of_laid {W : World} (h : laidMetH Tryz.prog [("errors.errorType", Rows.laid_errors_errorType)] W) : qH W := by
 have h' : laidMet Tryz.prog [] W ∧ handlesMet Tryz.prog [("errors.errorType", Rows.laid_errors_errorType)] W := h
 obtain⟨name,u,ty,e1,e2,e3,e4,e5⟩:=h'.2 _ (sN.2 rfl)
 have en:name=[101,114,114,111,114]:=(tF e1).symm;subst en;obtain rfl:=tF (rt_.symm.trans e2);have hm:ty∈(List.range 319).filter fun t=>Tryz.prog.rowNamed t [101,114,114,111,114]:=uH.2 ⟨List.mem_range.2 (by rw[←size_];exact e3),e4⟩
 rw[oneRow_]at hm;obtain rfl:=sN.1 hm;have hh:typeHandle Tryz.prog 38=.pointer (some ⟨4,38,none⟩):=by kernel_rfl
 rw[hh]at e5;simpa[qH] using World.var?_cell et_ e5 0
noncomputable def laidWorld (os:Os):World :=
 let w0:=World.holding Tryz.prog os ⟨#[],#[],[]⟩
 { w0 with heap:=w0.heap.modify 0 fun
  | .cells _ t frozen=>.cells #[.iface 212 (.agg #[.pointer (some ⟨4,38,none⟩)])] t frozen
  |o=>o }
theorem laidWorld_met (os : Os) (args : Array Value) : laidMetH Tryz.prog [("errors.errorType", Rows.laid_errors_errorType)] ((laidWorld os).forCall (fun _ _ => 0) ⟨#[], args, []⟩).memory :=
 laidMetH_of_parts (laidMet_nil _ _) (by kernel_rfl)
end Go.Proofs.YtmpkejflgpodkaaGreatDoor
