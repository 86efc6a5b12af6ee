/- Contracts of the program's books: a map of refs to empty changes (Behind, Missing). -/
import Derived.Test.YtclgfcjcpbiadaaGreatDoorDag19
namespace Go.Proofs.YtclgfcjcpbiadaaGreatDoor
open Go.ChangeShapes Go.WideShapes Go.ChangeAt Go.RowKit

/-- a map whose keys are S, each of an empty change -/
def ZM (w : World) (b : Nat) (S : List Rf) : Prop := MapL w 25 b (S.map fun r => (refV r, zeroCh))
theorem ZM.made (w : World) : ZM (w.alloc (.map #[] 0)) w.heap.size [] := MapL.made w _
theorem ZM.keep {w w' : World} {b : Nat} {S : List Rf} (h : ZM w b S) (hk : w'.heap[b]? = w.heap[b]?) : ZM w' b S := MapL.keep h hk
theorem ZM.kv {w : World} {b : Nat} {S : List Rf} (h : ZM w b S) : MapL w 25 b ((S.map fun r => (r, zeroCh)).map kv) := by
  rw [List.map_map]; exact h
theorem ZM.nodup {w : World} {b : Nat} {S : List Rf} (h : ZM w b S) : S.Nodup := by
  have h1 := MapL.apart h
  rw [List.pairwise_map] at h1
  exact h1.imp fun h e => h (by rw [e])
theorem ZM.add {w : World} {b : Nat} {S : List Rf} (h : ZM w b S) {r : Rf} (hr : I64R r) (hn : S.length < maxLen) :
    ∃ w', (Instr.mapUpdate 57 (.map (some b)) (refV r) zeroCh).run Tryz.prog w = .ok () w' ∧ (∃ S', ZM w' b S' ∧ (∀ x, x ∈ S' ↔ x ∈ S ∨ x = r) ∧ S'.length ≤ S.length + 1) ∧ w.mapTurned w' b := by
  by_cases hm : r ∈ S
  · obtain ⟨S', hp⟩ := perm_pick hm
    obtain ⟨w', h1, h2, h3⟩ := MapL.over (v := zeroCh) (v0 := zeroCh) (l' := S'.map fun r => (refV r, zeroCh)) h keyed_ref Tryz.underlying57 (hp.map _)
    refine ⟨w', h1, ⟨r :: S', h2, fun x => ?_, by rw [hp.length_eq]; exact Nat.le_succ _⟩, h3⟩
    rw [hp.mem_iff, List.mem_cons]
    constructor
    · exact Or.inl
    · rintro (h | h)
      · exact h
      · exact Or.inl h
  · obtain ⟨kl, hk⟩ := keyOf_ref hr
    obtain ⟨w', h1, h2, h3⟩ := MapL.store (v := zeroCh) h keyed_ref Tryz.underlying57 (by rw [List.length_map]; exact hn) hk (fun p hp e => by
      obtain ⟨q, hq, rfl⟩ := List.mem_map.1 hp
      exact hm (refV_inj e ▸ hq))
    refine ⟨w', h1, ⟨S ++ [r], ?_, fun x => by simp, by simp⟩, h3⟩
    have e : (S ++ [r]).map (fun r => (refV r, zeroCh)) = S.map (fun r => (refV r, zeroCh)) ++ [(refV r, zeroCh)] := by simp
    unfold ZM; rw [e]; exact h2
end Go.Proofs.YtclgfcjcpbiadaaGreatDoor
