/- A row of refs, one struck out in place: append behind a part of the row itself; clear. -/
import Derived.Test.YtclgfcjcpbiadaaGreatDoorM34
import Derived.Test.YtclgfcjcpbiadaaGreatDoorM1
import Derived.Test.YtclgfcjcpbiadaaGreatDoorSRef11
import Derived.Test.YtclgfcjcpbiadaaGreatDoorM30
import Derived.Test.YtclgfcjcpbiadaaGreatDoorM18
import Derived.Test.YtclgfcjcpbiadaaGreatDoorM26
set_option linter.unusedVariables false
set_option linter.unusedSimpArgs false
namespace Go.Proofs.YtclgfcjcpbiadaaGreatDoor
open Go.ChangeShapes Go.WideShapes Go.ChangeAt Go.RowKit

theorem RefRow.cell1 {w : World} {g : Nat} {l : List Rf} (h : RefRow w g l) {k : Nat} {r : Rf} (hr : l[k]? = some r) : w.cell? ⟨g, k * 2, none⟩ = some (.int .i64 r.1) := (h _ _ (refC_at hr).1).1
theorem RefRow.cell2 {w : World} {g : Nat} {l : List Rf} (h : RefRow w g l) {k : Nat} {r : Rf} (hr : l[k]? = some r) : w.cell? ⟨g, k * 2 + 1, none⟩ = some (.int .i64 r.2) := (h _ _ (refC_at hr).2).1
theorem refC_cons (r : Rf) (l : List Rf) : refC (r :: l) = [.int .i64 r.1, .int .i64 r.2] ++ refC l := by simp [refC]
theorem RefRow.set {w : World} {g : Nat} {l : List Rf} (h : RefRow w g l) (k : Nat) (r : Rf) (hk : k < l.length) : RefRow ((w.setCell ⟨g, k * 2, none⟩ (.int .i64 r.1)).setCell ⟨g, k * 2 + 1, none⟩ (.int .i64 r.2)) g (l.set k r) := by
  have ew : (w.setCell ⟨g, k * 2, none⟩ (.int .i64 r.1)).setCell ⟨g, k * 2 + 1, none⟩ (.int .i64 r.2) = w.setCells g (k * 2) [.int .i64 r.1, .int .i64 r.2] := rfl
  rw [ew]
  intro j u hu
  have e1 : l.set k r = l.take k ++ r :: l.drop (k + 1) := by rw [List.set_eq_take_append_cons_drop, if_pos hk]
  have e2 : l = l.take k ++ l[k] :: l.drop (k + 1) := by rw [← List.drop_eq_getElem_cons hk, List.take_append_drop]
  have hlt : (refC (l.take k)).length = k * 2 := by rw [refC_length, List.length_take]; omega
  have H : ∀ j u, (refC l)[j]? = some u → w.cell? ⟨g, j, none⟩ = some u ∧ w.frozen? ⟨g, j, none⟩ = false := h
  rw [e2, refC_append, refC_cons] at H
  rw [e1, refC_append, refC_cons] at hu
  have hz : ∀ i, i < 2 → (w.cell? ⟨g, k * 2 + i, none⟩).isSome = true ∧ w.frozen? ⟨g, k * 2 + i, none⟩ = false := by
    intro i hi
    have := H (k * 2 + i) (if i = 0 then .int .i64 l[k].1 else .int .i64 l[k].2) (by
      rw [List.getElem?_append_right (by omega), hlt, show k * 2 + i - k * 2 = i from by omega]
      match i, hi with
      | 0, _ => rfl
      | 1, _ => rfl)
    exact ⟨by rw [this.1]; rfl, this.2⟩
  rcases Nat.lt_or_ge j (k * 2) with hj | hj
  · rw [List.getElem?_append_left (by omega)] at hu
    have := H j u (by rw [List.getElem?_append_left (by omega)]; exact hu)
    rw [World.frozen?_setCells, World.cell?_setCells_out g _ _ _ _ (fun _ _ => .inl hj)]
    exact this
  · rw [List.getElem?_append_right (by omega), hlt] at hu
    rcases Nat.lt_or_ge j (k * 2 + 2) with hj2 | hj2
    · obtain ⟨i, hi, rfl⟩ : ∃ i, i < 2 ∧ j = k * 2 + i := ⟨j - k * 2, by omega, by omega⟩
      rw [show k * 2 + i - k * 2 = i from by omega, List.getElem?_append_left (by simpa using hi)] at hu
      rw [World.frozen?_setCells, World.cell?_setCells_in g [.int .i64 r.1, .int .i64 r.2] (k * 2) w (fun j hj => (hz j (by simpa using hj)).1) i (by simpa using hi)]
      refine ⟨?_, (hz i hi).2⟩
      rw [List.getElem?_eq_getElem (by simpa using hi)] at hu
      exact hu
    · rw [List.getElem?_append_right (by simp; omega)] at hu
      have := H j u (by rw [List.getElem?_append_right (by omega), hlt, List.getElem?_append_right (by simp; omega)]; exact hu)
      rw [World.frozen?_setCells, World.cell?_setCells_out g _ _ _ _ (fun _ _ => .inr (by simpa using hj2))]
      exact this
theorem chg_setCells {w : World} {g : Nat} : ∀ (vs : List Value) (o : Nat) {w' : World}, Chg (fun k => k = g) w w' → Chg (fun k => k = g) w (w'.setCells g o vs)
  | [], _, _, h => h
  | v :: vs, o, _, h => chg_setCells vs (o + 1) (h.setCell (p := ⟨g, o, none⟩) (.inl rfl) v)
end Go.Proofs.YtclgfcjcpbiadaaGreatDoor

namespace Go.Proofs.YtclgfcjcpbiadaaGreatDoor
open Go.ChangeShapes Go.WideShapes Go.ChangeAt Go.RowKit

/-- a set of refs in a variable of its own -/
structure SetV (w : World) (q m : Nat) (S : List Rf) : Prop where
  cell : w.cell? ⟨q, 0, none⟩ = some (.map (some m))
  lt : q < w.heap.size
  set : SetM w m S
theorem SetV.below {w w' : World} {q m : Nat} {S : List Rf} (h : SetV w q m S) (hb : Below w.heap.size w w') : SetV w' q m S :=
  ⟨(World.cell?_of_block (hb.block _ h.lt)).trans h.cell, Nat.lt_of_lt_of_le h.lt hb.size, h.set.keep (hb.block _ (MapL.lt h.set))⟩
end Go.Proofs.YtclgfcjcpbiadaaGreatDoor

namespace Go.Proofs.YtclgfcjcpbiadaaGreatDoor
open Go.ChangeShapes Go.WideShapes Go.ChangeAt Go.RowKit

end Go.Proofs.YtclgfcjcpbiadaaGreatDoor

namespace Go.Proofs.YtclgfcjcpbiadaaGreatDoor
open Go.RowKit

/-- All under way: the refs that are left, ascending (S); what came (out) -/
structure AllG (L : List ChD) (S : List Rf) (out : List ChD) : Prop where
  fin : allP L = allGo L S.length out
  len : S.length + out.length = L.length
  mem : ∀ r, r ∈ S ↔ r ∈ refsOf L ∧ r ∉ refsOf out
  asc : AscW S
  nd : S.Nodup
section
variable {L out : List ChD} {S : List Rf} {k : Nat} {r : Rf} {x : ChD}
theorem AllG.start (hn : (refsOf L).Nodup) (hp : S.Perm (refsOf L)) (ha : AscW S) : AllG L S [] := by
  have hl : S.length = L.length := by rw [hp.length_eq]; simp [refsOf]
  exact ⟨by rw [hl]; rfl, by simp [hl], fun r => by simp [refsOf, hp.mem_iff] , ha, hp.nodup_iff.2 hn⟩
theorem AscW.erase (h : AscW S) (k : Nat) : AscW (S.eraseIdx k) := by
  intro i j x y hij hx hy
  rw [List.getElem?_eraseIdx] at hx hy
  by_cases h1 : i < k
  · rw [if_pos h1] at hx
    by_cases h2 : j < k
    · rw [if_pos h2] at hy; exact h i j x y hij hx hy
    · rw [if_neg h2] at hy; exact h i (j + 1) x y (by omega) hx hy
  · rw [if_neg h1] at hx
    rw [if_neg (by omega)] at hy
    exact h (i + 1) (j + 1) x y (by omega) hx hy
/-- may it be next? -/
def mayNext (L out : List ChD) (r : Rf) : Bool := match findC L r with
  | some c => c.deps.all fun d => decide (d ∈ refsOf out)
  | none => false
theorem AllG.step (h : AllG L S out) (hb : Bk L) (hk : S.findIdx? (mayNext L out) = some k) (hr : S[k]? = some r) : ∃ x, findC L r = some x ∧ x ∈ L ∧ x.rf = r ∧ AllG L (S.eraseIdx k) (out ++ [x]) := by
  obtain ⟨hkl, hpk, hlt⟩ := List.findIdx?_eq_some_iff_getElem.1 hk
  have er : S[k] = r := by have := List.getElem?_eq_some_iff.1 hr; exact this.2
  rw [er] at hpk
  have hrL := (h.mem r).1 (List.mem_of_getElem? hr)
  cases hf : findC L r with
  | none => exact absurd hrL.1 (findC_none.1 hf)
  | some x =>
    obtain ⟨hx, hxr⟩ := findC_some hf
    have hall : (x.deps.all fun d => decide (d ∈ refsOf out)) = true := by unfold mayNext at hpk; rw [hf] at hpk; exact hpk
    have hnx : nextP L out x = true := by
      unfold nextP
      rw [hall, hxr, decide_eq_false hrL.2]; rfl
    obtain ⟨i, hi, ei⟩ := List.getElem_of_mem hx
    have hxi : L[i]? = some x := List.getElem?_eq_some_iff.2 ⟨hi, ei⟩
    have hl : leastAt (nextP L out) L = some (i, x.rf) := by
      refine leastAt_is hb.nodup hxi hnx fun d hd hpd => ?_
      unfold nextP at hpd
      rw [Bool.and_eq_true] at hpd
      have hdo : d.rf ∉ refsOf out := by simpa using hpd.1
      obtain ⟨j, hj, ej⟩ := List.getElem_of_mem ((h.mem d.rf).2 ⟨mem_refs hd, hdo⟩)
      have hdj : S[j]? = some d.rf := List.getElem?_eq_some_iff.2 ⟨hj, ej⟩
      rw [hxr]
      rcases Nat.lt_trichotomy j k with hlt' | rfl | hgt
      · have := hlt j hlt'
        rw [ej] at this
        unfold mayNext at this
        rw [findC_is hb.nodup hd] at this
        simp only [Bool.not_eq_true] at this
        rw [this] at hpd
        cases hpd.2
      · rw [hdj] at hr
        cases hr
        exact aheadR_irrefl _
      · have := h.asc k j r d.rf hgt hr hdj
        unfold aheadR
        rw [decide_eq_false_iff_not]; exact this
    have hln : S.length = (S.eraseIdx k).length + 1 := by rw [List.length_eraseIdx_of_lt hkl]; omega
    refine ⟨x, rfl, hx, hxr, ⟨by rw [h.fin, hln]; exact allGo_step hl hxi, by have := h.len; simp only [List.length_append, List.length_cons, List.length_nil]; omega, fun q => ?_, h.asc.erase k, h.nd.sublist (List.eraseIdx_sublist _ _)⟩⟩
    have hp := pick_perm S k r hr
    have hnd : (r :: S.eraseIdx k).Nodup := hp.nodup_iff.1 h.nd
    have h1 : q ∈ S ↔ q = r ∨ q ∈ S.eraseIdx k := by rw [hp.mem_iff, List.mem_cons]
    have h2 : q ∈ refsOf (out ++ [x]) ↔ q ∈ refsOf out ∨ q = r := by
      rw [refsOf_append, List.mem_append]; simp [refsOf, hxr]
    rw [h2]
    constructor
    · intro hq
      have := (h.mem q).1 (h1.2 (.inr hq))
      refine ⟨this.1, ?_⟩
      rintro (h' | rfl)
      · exact this.2 h'
      · exact (List.nodup_cons.1 hnd).1 hq
    · rintro ⟨hq, hn⟩
      rcases h1.1 ((h.mem q).2 ⟨hq, fun h' => hn (.inl h')⟩) with rfl | h'
      · exact absurd (.inr rfl) hn
      · exact h'
theorem AllG.more (h : AllG L S out) (hb : Bk L) (hs : 0 < S.length) : ∃ k, S.findIdx? (mayNext L out) = some k ∧ k < S.length := by
  cases hk : S.findIdx? (mayNext L out) with
  | some k => exact ⟨k, rfl, (List.findIdx?_eq_some_iff_getElem.1 hk).1⟩
  | none =>
    obtain ⟨c, hc, hp⟩ := next_ex hb (out := out) (by have := h.len; omega)
    unfold nextP at hp
    rw [Bool.and_eq_true] at hp
    have hm := (h.mem c.rf).2 ⟨mem_refs hc, by simpa using hp.1⟩
    have := List.findIdx?_eq_none_iff.1 hk c.rf hm
    unfold mayNext at this
    rw [findC_is hb.nodup hc] at this
    simp only at this
    rw [this] at hp
    cases hp.2
theorem AllG.done (h : AllG L S out) (hs : S.length = 0) : allP L = out := by
  rw [h.fin, hs]; rfl
end
/-! ### lists of refs, ascending -/
theorem aheadR_asc {l : List Rf} (h : AscR l) : AscW l ∧ l.Nodup := by
  unfold AscR at h
  constructor
  · intro i j x y hij hx hy hh
    obtain ⟨h1, e1⟩ := List.getElem?_eq_some_iff.1 hx
    obtain ⟨h2, e2⟩ := List.getElem?_eq_some_iff.1 hy
    have := List.pairwise_iff_getElem.1 h i j h1 h2 hij
    rw [e1, e2] at this
    unfold aheadR at this
    simp only [decide_eq_true_eq] at this
    omega
  · exact h.imp fun {a b} hab e => by subst e; rw [aheadR_irrefl] at hab; cases hab
theorem asc_eq : ∀ {a b : List Rf}, AscW a → a.Nodup → AscW b → b.Nodup → (∀ r, r ∈ a ↔ r ∈ b) → a = b
  | [], [], _, _, _, _, _ => rfl
  | [], y :: b, _, _, _, _, h => absurd ((h y).2 (List.mem_cons_self ..)) (by simp)
  | x :: a, [], _, _, _, _, h => absurd ((h x).1 (List.mem_cons_self ..)) (by simp)
  | x :: a, y :: b, ha, na, hb, nb, h => by
    have tail : ∀ {z : Rf} {l : List Rf}, AscW (z :: l) → AscW l := fun hl i j x y hij hx hy => hl (i + 1) (j + 1) x y (by omega) (by simpa using hx) (by simpa using hy)
    have least : ∀ {z : Rf} {l : List Rf}, AscW (z :: l) → ∀ u ∈ l, ¬ (u.1 < z.1 ∨ u.1 = z.1 ∧ u.2 < z.2) := fun {z l} hl u hu => by
      obtain ⟨j, hj, e⟩ := List.getElem_of_mem hu
      exact hl 0 (j + 1) z u (by omega) rfl (by simpa using List.getElem?_eq_some_iff.2 ⟨hj, e⟩)
    have hxy : x = y := by
      have h1 := (h x).1 (List.mem_cons_self ..)
      have h2 := (h y).2 (List.mem_cons_self ..)
      rcases List.mem_cons.1 h1 with e | h1
      · exact e
      rcases List.mem_cons.1 h2 with e | h2
      · exact e.symm
      have q1 := least hb x h1
      have q2 := least ha y h2
      exact Prod.ext (by omega) (by omega)
    subst hxy
    congr 1
    refine asc_eq (tail ha) (List.nodup_cons.1 na).2 (tail hb) (List.nodup_cons.1 nb).2 fun r => ?_
    have hr := h r
    rw [List.mem_cons, List.mem_cons] at hr
    constructor
    · intro h'
      rcases hr.1 (.inr h') with rfl | h''
      · exact absurd h' (List.nodup_cons.1 na).1
      · exact h''
    · intro h'
      rcases hr.2 (.inr h') with rfl | h''
      · exact absurd h' (List.nodup_cons.1 nb).1
      · exact h''
end Go.Proofs.YtclgfcjcpbiadaaGreatDoor

namespace Go.Proofs.YtclgfcjcpbiadaaGreatDoor
open Go.RowKit

theorem ins_asc {r : Rf} : ∀ {l : List Rf}, AscR l → r ∉ l → AscR (l.takeWhile (fun x => aheadR x r) ++ r :: l.dropWhile (fun x => aheadR x r))
  | [], _, _ => by simp [AscR]
  | x :: l, h, hn => by
    obtain ⟨h1, h2⟩ := List.pairwise_cons.1 h
    have hxr : x ≠ r := fun e => hn (by rw [e]; exact List.mem_cons_self ..)
    cases hx : aheadR x r with
    | true =>
      rw [List.takeWhile_cons_of_pos (by simpa using hx), List.dropWhile_cons_of_pos (by simpa using hx), List.cons_append]
      refine List.pairwise_cons.2 ⟨fun y hy => ?_, ins_asc h2 (fun e => hn (List.mem_cons_of_mem _ e))⟩
      rcases List.mem_append.1 hy with hy | hy
      · exact h1 y ((List.takeWhile_sublist _).subset hy)
      · rcases List.mem_cons.1 hy with rfl | hy
        · exact hx
        · exact h1 y ((List.dropWhile_sublist _).subset hy)
    | false =>
      rw [List.takeWhile_cons_of_neg (by simp [hx]), List.dropWhile_cons_of_neg (by simp [hx]), List.nil_append]
      have hrx : aheadR r x = true := by
        rcases aheadR_total hxr with h' | h'
        · rw [hx] at h'; cases h'
        · exact h'
      refine List.pairwise_cons.2 ⟨fun y hy => ?_, h⟩
      rcases List.mem_cons.1 hy with rfl | hy
      · exact hrx
      · exact aheadR_trans hrx (h1 y hy)
theorem putQ_asc {l : List Rf} {r : Rf} (h : AscR l) : AscR (putR l r) := by
  unfold putR
  by_cases hm : r ∈ l
  · rw [if_pos hm]; exact h
  · rw [if_neg hm]; exact ins_asc h hm
theorem putQ_mem {l : List Rf} {r q : Rf} : q ∈ putR l r ↔ q = r ∨ q ∈ l := by
  unfold putR
  by_cases hm : r ∈ l
  · rw [if_pos hm]
    exact ⟨.inr, fun h => h.elim (fun e => by rw [e]; exact hm) id⟩
  · rw [if_neg hm]
    have e : q ∈ l ↔ q ∈ l.takeWhile (fun x => aheadR x r) ∨ q ∈ l.dropWhile (fun x => aheadR x r) := by
      rw [← List.mem_append, List.takeWhile_append_dropWhile]
    rw [List.mem_append, List.mem_cons, e]
    constructor
    · rintro (h | h | h)
      · exact .inr (.inl h)
      · exact .inl h
      · exact .inr (.inr h)
    · rintro (h | h | h)
      · exact .inr (.inl h)
      · exact .inl h
      · exact .inr (.inr h)
theorem refsGo_asc : ∀ (L : List ChD) (out : List Rf), AscR out → AscR (L.foldl (fun out c => putR out c.rf) out) ∧ ∀ q, q ∈ L.foldl (fun out c => putR out c.rf) out ↔ q ∈ out ∨ q ∈ refsOf L
  | [], out, h => ⟨h, fun q => by simp [refsOf]⟩
  | c :: L, out, h => by
    obtain ⟨h1, h2⟩ := refsGo_asc L (putR out c.rf) (putQ_asc h)
    refine ⟨h1, fun q => ?_⟩
    rw [List.foldl_cons, h2 q, putQ_mem]
    simp only [refsOf, List.map_cons, List.mem_cons]
    constructor
    · rintro ((h | h) | h)
      · exact .inr (.inl h)
      · exact .inl h
      · exact .inr (.inr h)
    · rintro (h | h | h)
      · exact .inl (.inr h)
      · exact .inl (.inl h)
      · exact .inr h
theorem refsP_asc (L : List ChD) : AscR (refsP L) := (refsGo_asc L [] List.Pairwise.nil).1
theorem refsP_mem (L : List ChD) (q : Rf) : q ∈ refsP L ↔ q ∈ refsOf L := by
  have := (refsGo_asc L [] List.Pairwise.nil).2 q
  simpa [refsP] using this
theorem AscW.filter {S : List Rf} (h : AscW S) (hn : S.Nodup) (p : Rf → Bool) : AscW (S.filter p) := by
  have hpw : S.Pairwise (fun x y => ¬ (y.1 < x.1 ∨ y.1 = x.1 ∧ y.2 < x.2)) := by
    rw [List.pairwise_iff_getElem]
    intro i j hi hj hij
    exact h i j _ _ hij (List.getElem?_eq_some_iff.2 ⟨hi, rfl⟩) (List.getElem?_eq_some_iff.2 ⟨hj, rfl⟩)
  have := hpw.sublist (List.filter_sublist (l := S) (p := p))
  intro i j x y hij hx hy
  obtain ⟨h1, e1⟩ := List.getElem?_eq_some_iff.1 hx
  obtain ⟨h2, e2⟩ := List.getElem?_eq_some_iff.1 hy
  have := List.pairwise_iff_getElem.1 this i j h1 h2 hij
  rw [e1, e2] at this
  exact this
end Go.Proofs.YtclgfcjcpbiadaaGreatDoor

namespace Go.Proofs.YtclgfcjcpbiadaaGreatDoor
open Go.ChangeShapes Go.WideShapes Go.ChangeAt Go.RowKit

set_option maxHeartbeats 2000000 in
set_option maxRecDepth 20000 in
theorem sameRefs_any (a b : List Rf) (D D' : Nat → Prop) (A B : Option Addr) (ca cb : Nat) (w : World) (ha : Reads D w 2 A a.length (refC a)) (hb : Reads D' w 2 B b.length (refC b)) (hla : a.length ≤ 9223372036854775807) :
    Calls Tryz.prog 17 #[.slice A a.length ca, .slice B b.length cb] w fun e w' => e = .returned (.bool (decide (a = b))) ∧ ∃ n, w' = w.drewN n := by
  by_cases hl : a.length = b.length
  case neg =>
    have hne : decide (a = b) = false := decide_eq_false fun e => hl (by rw [e])
    rw [hne]
    have hl' : (a.length : Int) ≠ b.length := by omega
    clear ha hb hne hla
    generalize a.length = na at *
    generalize b.length = nb at *
    go_enter Tryz.func17, Tryz.ntmps17
    go_wp2_with fail
    go_ret
    exact ⟨rfl, 0, rfl⟩
  case pos =>
    have HA := Lib.hid ha
    have HB := Lib.hid hb
    obtain ⟨n, hn⟩ : ∃ n, a.length = n := ⟨_, rfl⟩
    have HN := Lib.hid hn
    have HN' : Hid (b.length = n) := hl.symm.trans hn
    rw [← hl, hn] 
    rw [hn] at hla
    clear ha hb hl hn
    go_enter Tryz.func17, Tryz.ntmps17
    go_wp2_with fail
    go_loopw [5] (fun s5 wr => ∃ k : Nat, s5 = .int .i64 k ∧ k ≤ n ∧ Hid (a.take k = b.take k ∧ ∃ m, wr = w.drewN m)) (fun s5 _ => n - (intOf s5).toNat)
    case atStart => exact ⟨0, rfl, by omega, ⟨by simp, 0, rfl⟩⟩
    case round =>
      obtain ⟨k, rfl, hk, HI⟩ := hrel
      obtain ⟨m, hm⟩ := HI.out.2
      have HM := Lib.hid hm
      by_cases hlt : k < n
      · obtain ⟨b1, o1, rfl, -, hc1⟩ := HA.out.at_ (by rw [HN.out]; omega) (by omega)
        obtain ⟨b2, o2, rfl, -, hc2⟩ := HB.out.at_ (by rw [HN'.out]; omega) (by omega)
        obtain ⟨r, hr⟩ : ∃ r, a[k]? = some r := ⟨_, List.getElem?_eq_getElem (by rw [HN.out]; exact hlt)⟩
        obtain ⟨q, hq⟩ : ∃ q, b[k]? = some q := ⟨_, List.getElem?_eq_getElem (by rw [HN'.out]; exact hlt)⟩
        have x1 : wr.cell? ⟨b1, o1 + k * 2, none⟩ = some (.int .i64 r.1) := by rw [hm]; exact hc1 _ _ (refC_at hr).1
        have x2 : wr.cell? ⟨b1, o1 + k * 2 + 1, none⟩ = some (.int .i64 r.2) := by rw [hm]; exact hc1 _ _ (refC_at hr).2
        have x3 : wr.cell? ⟨b2, o2 + k * 2, none⟩ = some (.int .i64 q.1) := by rw [hm]; exact hc2 _ _ (refC_at hq).1
        have x4 : wr.cell? ⟨b2, o2 + k * 2 + 1, none⟩ = some (.int .i64 q.2) := by rw [hm]; exact hc2 _ _ (refC_at hq).2
        have HX : Hid (a.take (k + 1) = a.take k ++ [r] ∧ b.take (k + 1) = b.take k ++ [q]) := by
          refine ⟨?_, ?_⟩
          · rw [List.take_add_one, hr]; rfl
          · rw [List.take_add_one, hq]; rfl
        have HRQ := Lib.hid (And.intro hr hq)
        clear hr hq hc1 hc2 hm
        obtain ⟨ra, rs⟩ := r
        obtain ⟨qa, qs⟩ := q
        dsimp only at x1 x2 x3 x4
        by_cases h1 : ra = qa
        · subst h1
          by_cases h2 : rs = qs
          · subst h2
            go_wp2_with fail
            go_quiet (fail)
            change Exit.then _ _ _ _ (wr.drewN nq)
            have HQ : Hid (wr.drewN nq = w.drewN (m + nq)) := by show _ = _; rw [HM.out, World.drewN_drewN]
            generalize wr.drewN nq = w3 at HQ ⊢
            clear x1 x2 x3 x4
            go_wp2_with fail
            go_roundw
            case rel => exact ⟨k + 1, by go_num, by omega, ⟨by rw [HX.out.1, HX.out.2, HI.out.1], _, HQ.out⟩⟩
            case measure => simp [intOf]; omega
          · have HD : Hid (decide (a = b) = false) := decide_eq_false fun e => by
              have := HRQ.out
              rw [e, this.2] at this
              simp only [Option.some.injEq, Prod.mk.injEq] at this
              exact h2 this.1.2.symm
            have d1 : decide (rs = qs) = false := decide_eq_false h2
            go_wp2_with fail
            go_quiet (fail)
            change Exit.then _ _ _ _ (wr.drewN nq)
            have HQ : Hid (wr.drewN nq = w.drewN (m + nq)) := by show _ = _; rw [HM.out, World.drewN_drewN]
            generalize wr.drewN nq = w3 at HQ ⊢
            clear x1 x2 x3 x4
            go_wp2_with fail
            go_ret
            exact ⟨by rw [HD.out]; rfl, _, HQ.out⟩
        · have HD : Hid (decide (a = b) = false) := decide_eq_false fun e => by
            have := HRQ.out
            rw [e, this.2] at this
            simp only [Option.some.injEq, Prod.mk.injEq] at this
            exact h1 this.1.1.symm
          have d1 : decide (ra = qa) = false := decide_eq_false h1
          go_wp2_with fail
          go_quiet (fail)
          change Exit.then _ _ _ _ (wr.drewN nq)
          have HQ : Hid (wr.drewN nq = w.drewN (m + nq)) := by show _ = _; rw [HM.out, World.drewN_drewN]
          generalize wr.drewN nq = w3 at HQ ⊢
          clear x1 x2 x3 x4
          go_wp2_with fail
          go_ret
          exact ⟨by rw [HD.out]; rfl, _, HQ.out⟩
      · have hkn : k = n := by omega
        have hd : decide (a = b) = true := by
          have h1 := HI.out.1
          rw [List.take_of_length_le (by rw [HN.out]; omega), List.take_of_length_le (by rw [HN'.out]; omega)] at h1
          exact decide_eq_true h1
        have HD := Lib.hid hd
        clear hd hm
        go_wp2_with fail
        go_ret
        exact ⟨by rw [HD.out]; rfl, m, HM.out⟩
theorem base_parts {x y : ChD} (h : x.base = y.base) : x.a = y.a ∧ x.s = y.s ∧ x.st = y.st ∧ x.enc = y.enc ∧ x.err = y.err := by
  have e1 : x.base.a = y.base.a := by rw [h]
  have e2 : x.base.s = y.base.s := by rw [h]
  have e3 : x.base.st = y.base.st := by rw [h]
  exact ⟨e1, e2, e3, by rw [← base_enc x, ← base_enc y, h], by rw [← base_err x, ← base_err y, h]⟩
theorem same_ch (x y : ChD) (w : World) (hx : ChIn (fun k => k < w.heap.size) w x) (hy : ChIn (fun k => k < w.heap.size) w y) (gx : EncG x.a x.s x.st x.deps x.ops) (gy : EncG y.a y.s y.st y.deps y.ops) (h : x.base = y.base) :
    Calls Tryz.prog 14 #[x.v, y.v] w fun e w' => e = .returned (.bool true) ∧ Below w.heap.size w w' := by
  obtain ⟨e1, e2, e3, e4, _⟩ := base_parts h
  unfold ChD.v
  unfold ChD.enc at e4
  rw [← e1, ← e2, ← e3] at gy e4 ⊢
  exact same_change x.a x.s x.st x.deps x.DA x.deps.length x.DC x.ops x.OA x.ops.length x.OC y.deps y.DA y.deps.length y.DC y.ops y.OA y.ops.length y.OC w (hx.chm fun _ h => h) (hy.chm fun _ h => h) rfl rfl rfl rfl gx gy e4
end Go.Proofs.YtclgfcjcpbiadaaGreatDoor
