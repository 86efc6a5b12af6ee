/- append behind a slice of the call's own: a string's bytes; a slice of another type with the same elements. -/
import Derived.Test.YtclgfcjcpbiadaaGreatDoorM0
set_option linter.unusedVariables false
set_option linter.unusedSimpArgs false
namespace Go.Proofs.YtclgfcjcpbiadaaGreatDoor
open Go.ChangeShapes Go.WideShapes Go.ChangeAt Go.RowKit

section
variable {P : Program} (w : World)
theorem run_firstCells_str (S : ByteArray) : (Builtin.firstCells 1 S.size (.string S)).run P w = .ok (bytesC S.data.toList).toArray w := by
  have hx : (Array.map (fun b : UInt8 => Value.int IntKind.u8 (b.toNat : Int)) S.data).extract 0 S.size = Array.map (fun b : UInt8 => Value.int IntKind.u8 (b.toNat : Int)) S.data := by
    have hs : S.size = (Array.map (fun b : UInt8 => Value.int IntKind.u8 (b.toNat : Int)) S.data).size := by rw [Array.size_map]; rfl
    rw [hs, Array.extract_size]
  have e : (bytesC S.data.toList).toArray = Array.map (fun b : UInt8 => Value.int IntKind.u8 (b.toNat : Int)) S.data := by
    apply Array.ext'
    simp [bytesC]
  rw [e]
  simp [Builtin.firstCells, hx]
theorem str_len (S : ByteArray) : (bytesC S.data.toList).length = S.size := by
  rw [bytesC_length, ByteArray.size, Array.length_toList]

theorem run_append_str (base : Nat) (t u ty e : TypeId) (i : TypeInfo) (z : Value) (bytes : Nat) (ht : P.underlying t = some (.slice e)) (hu : P.underlying u = some .string) (hi : P.info? e = some i) (hz : i.zero = some z)
    (hsize : i.size = 1) (hby : i.bytes = bytes) (hzs : z.cells.size = 1)
    (v : Value) (n : Nat) (xs : List Value) (hown : w.ownsRow base e 1 v n xs) (S : ByteArray)
    (h63 : n + S.size ≤ maxLen) (hbytes : (n + S.size) * bytes ≤ 140737488355328) (hbase : base ≤ w.heap.size) :
    ∃ v' w', (Builtin.append_ #[t, u] ty #[v, .string S]).run P w = .ok v' w' ∧ w'.ownsRow base e 1 v' (n + S.size) (xs ++ bytesC S.data.toList) ∧ w.grownBy w' v.ownBlock ∧
      (v'.ownBlock = v.ownBlock ∨ v'.ownBlock = some w.heap.size) := by
  subst hby
  have hnl := str_len S
  have hf := fun w => run_firstCells_str (P := P) w S
  have h1 := bytesC_one S.data.toList
  generalize bytesC S.data.toList = news at hnl hf h1 ⊢
  have hsmall : n + S.size ≤ 9223372036854775807 := by simp only [maxLen] at h63; omega
  have hlen : (xs ++ news).length = (n + S.size) * 1 := by rw [List.length_append, hown.1, hnl]; omega
  have grown : ∀ (old : Nat), old < n + S.size → ∀ (row : Option Nat),
      (w.drew.alloc (.cells (xs.toArray ++ news.toArray ++ Builtin.zeroCells z.cells (grownCap w (n + S.size) old e - (n + S.size))) e)).ownsRow base e 1
        (.slice (some ⟨w.heap.size, 0, none⟩) (n + S.size) (grownCap w (n + S.size) old e)) (n + S.size) (xs ++ news) ∧
      w.grownBy (w.drew.alloc (.cells (xs.toArray ++ news.toArray ++ Builtin.zeroCells z.cells (grownCap w (n + S.size) old e - (n + S.size))) e)) row := by
    intro old ho row
    have hge := grownCap_ge w (n + S.size) old e
    have hcm : grownCap w (n + S.size) old e ≤ maxLen := grownCap_le_maxLen w (n + S.size) old e h63
    refine ⟨⟨hlen, .inr ⟨w.heap.size, _, _, rfl, hbase, heap_alloc_new w.drew _, hge, hcm, ?_, ?_⟩⟩, ⟨rfl, rfl, rfl, by simp, fun k hk _ => Below.heap_alloc w.drew _ k hk⟩⟩
    · simp only [Array.size_append, List.size_toArray, size_zeroCells, hzs, hown.1, hnl]
      omega
    · simp only [Array.toList_append, List.append_assoc]
      rw [← List.append_assoc, ← hlen]
      exact List.take_left
  rcases hown.2 with ⟨rfl, rfl⟩ | ⟨g, cap, cur, rfl, hbg, hg, hnc, hcm, hcs, htake⟩
  · have hx : xs = [] := List.eq_nil_of_length_eq_zero (by simpa using hown.1)
    subst hx
    by_cases hm : S.size = 0
    · have hn : news = [] := List.eq_nil_of_length_eq_zero (by rw [hnl, hm])
      subst hn
      refine ⟨.slice none 0 0, w, ?_, by rw [hm]; exact World.ownsRow_nil w base e 1, ⟨rfl, rfl, rfl, Nat.le_refl _, fun _ _ _ => rfl⟩, Or.inl rfl⟩
      rw [hm] at hf
      simp [Builtin.append_, run_underlying ht, run_underlying hu, sizeOf, typeInfo, hi, hsize, Builtin.lenOf, hf, hm]
    · have hgr := grown 0 (by omega) (Value.ownBlock (.slice none 0 0))
      have h63' : ¬ (9223372036854775807 < (S.size : Int)) := by omega
      have h48' : ¬ (281474976710656 < Builtin.nextslicecap S.size 0 * i.bytes) := by rw [nextslicecap_zero (by omega)]; simp only [Nat.zero_add] at hbytes; omega
      simp only [Nat.zero_add, List.nil_append, Array.empty_append] at hgr ⊢
      refine ⟨_, _, ?_, hgr.1, hgr.2, Or.inr rfl⟩
      simp [Builtin.append_, run_underlying ht, run_underlying hu, sizeOf, typeInfo, zeroValue, hi, hz, hsize, Builtin.lenOf, hm, h63', h48', Question.forced, run_firstCells_none, hf, newRow, grownCap]
  · by_cases hroom : n + S.size ≤ cap
    · have hfit : n * 1 + news.length ≤ cur.size := by rw [hnl, hcs]; omega
      have hst := run_storeCells_at P g (n * 1) e news 0 cur w hg (by simpa using hfit) h1
      simp only [Nat.add_zero] at hst
      have hr : (Builtin.append_ #[t, u] ty #[.slice (some ⟨g, 0, none⟩) n cap, .string S]).run P w =
          .ok (.slice (some ⟨g, 0, none⟩) (n + S.size) cap) (w.setRow g (cur.toList.take (n * 1) ++ news ++ cur.toList.drop (n * 1 + news.length)).toArray) := by
        simp only [Nat.mul_one] at hst ⊢
        simp [Builtin.append_, run_underlying ht, run_underlying hu, sizeOf, typeInfo, hi, hsize, Builtin.lenOf, hroom, hf, Addr.add_lit, hst]
      refine ⟨_, _, hr, ⟨hlen, .inr ⟨g, cap, _, rfl, hbg, setRow_heap w g cur _ e _ hg, hroom, hcm, ?_, ?_⟩⟩, ⟨rfl, rfl, rfl, by simp, fun k _ hk => setRow_other w g k _ (fun e => hk (by simp [Value.ownBlock, e]))⟩, Or.inl rfl⟩
      · simp only [List.size_toArray, List.length_append, List.length_take, List.length_drop, Array.length_toList]
        omega
      · rw [htake, ← hlen]
        exact List.take_left
    · have holds : ∀ j u, xs[j]? = some u → w.cell? ((⟨g, 0, none⟩ : Addr).add j) = some u := hown.cells (g := g) rfl
      have hfo := run_firstCells_some (P := P) w.drew 1 n ⟨g, 0, none⟩ n cap xs hown.1 (by simpa using holds)
      have h63' : ¬ (9223372036854775807 < ((n : Int) + (S.size : Int))) := by omega
      have h48' : ¬ (281474976710656 < Builtin.nextslicecap (n + S.size) cap * i.bytes) := by have := growslice_fits (old := cap) (need := n + S.size) (bytes := i.bytes) (by omega) hbytes; omega
      have hgr := grown cap (by omega) (Value.ownBlock (.slice (some ⟨g, 0, none⟩) n cap))
      refine ⟨_, _, ?_, hgr.1, hgr.2, Or.inr rfl⟩
      simp [Builtin.append_, run_underlying ht, run_underlying hu, sizeOf, typeInfo, zeroValue, hi, hz, hsize, Builtin.lenOf, hroom, h63', h48', Question.forced, hf, hfo, newRow, grownCap]
      congr 2
      apply Array.ext'
      simp [List.append_assoc]
end
/-- append at the operation: in a list of operations, in a drawn region -/
theorem wpList_app {P : Program} {w : World} {ops : Array Oper} {rest : List Oper} {o : Oper} {a : Act} {Q : Exit → Act → World → Prop} (hgd : o.guard = none) (s x : Operand) (t t2 : TypeId)
    (ho : o.op = .call { callee := .builtin .append, args := #[s, x], argTypes := #[t, t2] }) (v y : Value) (hs : a.eval s = v) (hx : a.eval x = y) (R : Value → World → Prop)
    (hr : ∃ v' w', (Builtin.append_ #[t, t2] o.type #[v, y]).run P w = .ok v' w' ∧ R v' w') (h : ∀ v' w', R v' w' → wpList P ops Q rest (a.put o.dst v') w') : wpList P ops Q (o :: rest) a w :=
  wpList_plain hgd fun _ hK => by
    obtain ⟨v', w', hrun, hR⟩ := hr
    unfold Oper.wp execOp
    simp only [ho, resolve, invoke, builtin, Sem.run_bind, Sem.run_pure, Result.andThen_ok, List.map_toArray, List.map_cons, List.map_nil, hs, hx, hrun]
    exact hK _ _ (h v' w' hR)
end Go.Proofs.YtclgfcjcpbiadaaGreatDoor
