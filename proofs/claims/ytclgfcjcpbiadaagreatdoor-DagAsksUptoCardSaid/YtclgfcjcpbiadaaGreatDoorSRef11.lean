/- Contracts of the document's books: all the changes, in their order. -/
import Derived.Test.YtclgfcjcpbiadaaGreatDoorSRef10
set_option linter.unusedVariables false
set_option linter.unusedSimpArgs false
namespace Go.Proofs.YtclgfcjcpbiadaaGreatDoor
open Go.ChangeShapes Go.WideShapes Go.ChangeAt Go.RowKit

theorem nodup_len {α : Type} [DecidableEq α] : ∀ (a b : List α), a.Nodup → (∀ x ∈ a, x ∈ b) → a.length ≤ b.length
  | [], _, _, _ => by simp
  | x :: a, b, hn, hs => by
    obtain ⟨hx, hn'⟩ := List.nodup_cons.1 hn
    have hxb := hs x (by simp)
    have := nodup_len a (b.erase x) hn' (fun y hy => (List.mem_erase_of_ne (fun e => hx (by rw [← e]; exact hy))).2 (hs y (by simp [hy])))
    rw [List.length_erase_of_mem hxb] at this
    have : 0 < b.length := List.length_pos_of_mem hxb
    simp only [List.length_cons]
    omega
theorem next_go {L : List ChD} (h : Bk L) (out : List ChD) (hex : ∃ c ∈ L, c.rf ∉ refsOf out) : ∃ c ∈ L, nextP L out c = true := by
  induction h with
  | nil => obtain ⟨c, hc, _⟩ := hex; cases hc
  | @snoc L c h1 h2 h3 h4 h5 h6 ih =>
    by_cases he : ∃ c ∈ L, c.rf ∉ refsOf out
    · obtain ⟨d, hd, hp⟩ := ih he
      exact ⟨d, List.mem_append.2 (.inl hd), by unfold nextP at hp ⊢; exact hp⟩
    · have hall : ∀ d ∈ L, d.rf ∈ refsOf out := fun d hd => Decidable.byContradiction fun hh => he ⟨d, hd, hh⟩
      obtain ⟨c', hc', hn⟩ := hex
      rcases List.mem_append.1 hc' with hc' | hc'
      · exact absurd (hall c' hc') hn
      · obtain rfl := List.mem_singleton.1 hc'
        refine ⟨c', by simp, ?_⟩
        unfold nextP
        rw [Bool.and_eq_true]
        refine ⟨by simp [hn], List.all_eq_true.2 fun d hd => decide_eq_true ?_⟩
        have hr := List.all_eq_true.1 h5 d hd
        obtain ⟨e, he1, he2⟩ := List.mem_map.1 (of_decide_eq_true hr)
        rw [← he2]
        exact hall e he1
theorem next_ex {L : List ChD} (h : Bk L) {out : List ChD} (hlt : out.length < L.length) : ∃ c ∈ L, nextP L out c = true := by
  refine next_go h out ?_
  refine Decidable.byContradiction fun hh => ?_
  have hall : ∀ r ∈ refsOf L, r ∈ refsOf out := fun r hr => by
    obtain ⟨c, hc, rfl⟩ := List.mem_map.1 hr
    exact Decidable.byContradiction fun h' => hh ⟨c, hc, h'⟩
  have := nodup_len _ _ h.nodup hall
  simp only [refsOf, List.length_map] at this
  omega
theorem allGo_step {L out : List ChD} {m i : Nat} {r : Rf} {x : ChD} (h : leastAt (nextP L out) L = some (i, r)) (hx : L[i]? = some x) : allGo L (m + 1) out = allGo L m (out ++ [x]) := by
  conv => lhs; unfold allGo
  rw [h]
  simp only [hx]
def slen (v : Value) : Nat := match v with | .slice _ n _ => n | _ => 0
theorem findI_mem {L : List ChD} {r : Rf} {i : Int} (h : FindI L r i) : decide (0 ≤ i) = decide (r ∈ refsOf L) := by
  rcases h with ⟨rfl, h⟩ | ⟨k, c, rfl, hk, hf⟩
  · rw [decide_eq_false h]; rfl
  · have h1 := findC_some hf
    rw [decide_eq_true (show (0 : Int) ≤ (k : Int) from by omega), decide_eq_true (show r ∈ refsOf L from by rw [← h1.2]; exact mem_refs h1.1)]

end Go.Proofs.YtclgfcjcpbiadaaGreatDoor
