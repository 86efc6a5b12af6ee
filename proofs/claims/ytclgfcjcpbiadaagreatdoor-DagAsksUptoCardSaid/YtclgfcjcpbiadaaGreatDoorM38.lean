/- Contracts of the program's books: what waits; a frame got back from its size. -/
import Derived.Test.YtclgfcjcpbiadaaGreatDoorDag11
import Derived.Test.YtclgfcjcpbiadaaGreatDoorM34
import Derived.Test.YtclgfcjcpbiadaaGreatDoorM26
import Derived.ScopeJumps
import Derived.WalkMore
import Derived.Deep.MidRow
import Derived.Test.YtclgfcjcpbiadaaGreatDoorM35
import Derived.Test.YtclgfcjcpbiadaaGreatDoorSRef9
set_option linter.unusedVariables false
set_option linter.unusedSimpArgs false
namespace Go.Proofs.YtclgfcjcpbiadaaGreatDoor
open Go.ChangeShapes Go.WideShapes Go.ChangeAt Go.RowKit

theorem PB.waits {w w' : World} {g bh bw bb : Nat} {X : List (ChD × Nat × List Rf)} {W W' : List ChD} (h : PB w g bh bw bb X W) (hc : Chg (fun k => k = bw) w w') (h1 : HasL w' bw W')
    (hs : ∀ c ∈ W', c ∈ W ∨ ChIn (NF w bh bw bb) w c) : PB w' g bh bw bb X W' := by
  have hg := h.gne
  have hk : Keeps (NF w bh bw bb) w w' := hc.keeps fun k hk => ⟨hk.1, fun e => hk.2.2.1 e⟩
  refine ⟨h.blk.keep (hc.block _ h.blk.lt hg.2.1), MapL.keep h.mh (hc.block _ (MapL.lt h.mh) h.ne.1), h1, MapL.keep h.mb (hc.block _ (MapL.lt h.mb) (fun e => h.ne.2.2 e.symm)), h.ne, fun x hx => ?_, fun x hx => ((h.inL x hx).keep hk).more fun k hk => hk.more hc.size, fun c hc' => ?_⟩
  · obtain ⟨a1, a2, a3⟩ := h.sets x hx
    exact ⟨a1.keep (hk _ a2), a2.more hc.size, a3⟩
  · rcases hs c hc' with h2 | h2
    · exact ((h.inW c h2).keep hk).more fun k hk => hk.more hc.size
    · exact (h2.keep hk).more fun k hk => hk.more hc.size
theorem HasL.drop {w : World} {b : Nat} {W : List ChD} (h : HasL w b W) {j : Nat} {x : ChD} (hx : W[j]? = some x) (ty : TypeId) :
    ∃ w', (Builtin.delete_ #[57, 25] ty #[.map (some b), refV x.rf]).run Tryz.prog w = .ok (.tuple #[]) w' ∧ (HasL w' b (W.eraseIdx j) ∧ w.mapTurned w' b) := by
  obtain ⟨w', h1, h2, h3⟩ := MapL.drop h keyed_ref Tryz.underlying57 (v0 := x.v) ((pick_perm W j x hx).map (fun c : ChD => (refV c.rf, c.v))) ty
  exact ⟨w', h1, h2, h3⟩
/-- how many entries a map has -/
def mlen (w : World) (b : Nat) : Nat := match w.heap[b]? with
  | some (.map es _) => es.size
  | _ => 0
theorem MapL.mlen {w : World} {k : TypeId} {b : Nat} {l : List (Value × Value)} (h : MapL w k b l) : mlen w b = l.length := by
  obtain ⟨es, c, hb, F, hp⟩ := h
  unfold Go.Proofs.YtclgfcjcpbiadaaGreatDoor.mlen
  rw [hb, ← hp.length_eq]
  simp [ents]
theorem HasL.mlen {w : World} {b : Nat} {L : List ChD} (h : HasL w b L) : mlen w b = L.length := by
  rw [MapL.mlen h, List.length_map]
theorem base_same {c c' : ChD} (h : c'.base = c.base) : c'.err = c.err ∧ c'.rf = c.rf ∧ ((∀ o ∈ c.ops, (Lit.int .i64 o.vn).wf = true) → ∀ o ∈ c'.ops, (Lit.int .i64 o.vn).wf = true) := by
  refine ⟨by rw [← base_err c', h, base_err], by rw [← base_rf c', h, base_rf], fun hw o ho => ?_⟩
  have e : c'.ops.map Go.Proofs.YtclgfcjcpbiadaaGreatDoor.base = c.ops.map Go.Proofs.YtclgfcjcpbiadaaGreatDoor.base := congrArg ChD.ops h
  have h1 : Go.Proofs.YtclgfcjcpbiadaaGreatDoor.base o ∈ c.ops.map Go.Proofs.YtclgfcjcpbiadaaGreatDoor.base := by rw [← e]; exact List.mem_map_of_mem ho
  obtain ⟨o2, h2, e2⟩ := List.mem_map.1 h1
  have e3 : (Go.Proofs.YtclgfcjcpbiadaaGreatDoor.base o2).vn = (Go.Proofs.YtclgfcjcpbiadaaGreatDoor.base o).vn := congrArg OpD.vn e2
  have e4 : o2.vn = o.vn := e3
  rw [← e4]
  exact hw o2 h2
theorem Reads.both {D D' : Nat → Prop} {w w' : World} {size n : Nat} {A : Option Addr} {xs : List Value} (h : Reads D w size A n xs) (h' : Reads D' w' size A n xs) : Reads (fun k => D k ∧ D' k) w' size A n xs :=
  ⟨h.1, fun h0 => by
    obtain ⟨a, e1, d1, _⟩ := h.2 h0
    obtain ⟨a', e2, d2, c2⟩ := h'.2 h0
    rw [e1] at e2
    cases e2
    exact ⟨a, e1, ⟨d1, d2⟩, c2⟩⟩
theorem ChIn.both {D D' : Nat → Prop} {w w' : World} {c : ChD} (h : ChIn D w c) (h' : ChIn D' w' c) : ChIn (fun k => D k ∧ D' k) w' c :=
  ⟨h.hd.both h'.hd, h.hdl, h.ho.both h'.ho, h.hol, fun o ho => ⟨(h.hp o ho).1.both (h'.hp o ho).1, (h.hp o ho).2⟩⟩
theorem take_fresh {w' : World} {B g bh bw bb : Nat} {X' : List (ChD × Nat × List Rf)} {L L' W W2 : List ChD} {c' : ChD} (hp : PB w' g bh bw bb X' W2) (hl : X'.map Prod.fst = L') (hy : ∀ y, y ∈ L' ∨ y ∈ W2 → y ∈ L ∨ y ∈ W ∨ y = c')
    (hc : ∃ V, ChIn (fun k => B ≤ k) V c') : ∀ y, y ∈ L' ∨ y ∈ W2 → y ∈ L ∨ y ∈ W ∨ ChIn (fun k => B ≤ k) w' y := fun y h => by
  rcases hy y h with h1 | h1 | rfl
  · exact .inl h1
  · exact .inr (.inl h1)
  · obtain ⟨V, hc⟩ := hc
    refine .inr (.inr ?_)
    rcases h with h | h
    · rw [← hl] at h
      obtain ⟨x, hx, e⟩ := List.mem_map.1 h
      exact (hc.both (e ▸ hp.inL x hx)).more fun k hk => hk.1
    · exact (hc.both (hp.inW y h)).more fun k hk => hk.1
theorem Blk.there {w : World} {g : Nat} {t : TypeId} {cs : Array Value} (h : Blk w g t cs) {n : Nat} (hn : cs.size = n) : w.there g 0 n := fun j hj => by
  rw [Nat.zero_add]
  refine ⟨?_, h.frozen j⟩
  rw [h.cell j, Array.getElem?_eq_getElem (by omega)]
  rfl
theorem info_ch : (Tryz.prog.info? 34).map (·.size) = some 5 := by kernel_rfl
theorem ch_one (a s st : Int) (A : Option Addr) (n c : Nat) (A' : Option Addr) (n' c' : Nat) : (#[.int .i64 a, .int .i64 s, .int .i64 st, .slice A n c, .slice A' n' c'] : Array Value).all (fun v => v.oneCell') = true := by
  refine Array.all_eq_true_iff_forall_mem.2 fun v hv => ?_
  simp only [List.mem_toArray, List.mem_cons, List.not_mem_nil, or_false] at hv
  rcases hv with rfl | rfl | rfl | rfl | rfl <;> rfl
theorem Blk.range {w : World} {g : Nat} {t : TypeId} {cs : List Value} (h : Blk w g t cs.toArray) : w.rangeAt g 0 cs := fun j u hj => by
  rw [Nat.zero_add, h.cell j]
  simpa using hj
theorem Blk.set5 {w : World} {g : Nat} {t : TypeId} {a0 a1 a2 a3 a4 : Value} (h : Blk w g t #[a0, a1, a2, a3, a4]) (b0 b1 b2 b3 b4 : Value) :
    Blk (((((w.setCell ⟨g, 0, none⟩ b0).setCell ⟨g, 1, none⟩ b1).setCell ⟨g, 2, none⟩ b2).setCell ⟨g, 3, none⟩ b3).setCell ⟨g, 4, none⟩ b4) g t #[b0, b1, b2, b3, b4] :=
  ((((h.set_ 0 b0).set_ 1 b1).set_ 2 b2).set_ 3 b3).set_ 4 b4
theorem Chg.set5 {w w' : World} {g : Nat} {M : Nat → Prop} (h : Chg M w w') (hg : M g ∨ w.heap.size ≤ g) (b0 b1 b2 b3 b4 : Value) :
    Chg M w (((((w'.setCell ⟨g, 0, none⟩ b0).setCell ⟨g, 1, none⟩ b1).setCell ⟨g, 2, none⟩ b2).setCell ⟨g, 3, none⟩ b3).setCell ⟨g, 4, none⟩ b4) :=
  ((((h.setCell (p := ⟨g, 0, none⟩) hg b0).setCell (p := ⟨g, 1, none⟩) hg b1).setCell (p := ⟨g, 2, none⟩) hg b2).setCell (p := ⟨g, 3, none⟩) hg b3).setCell (p := ⟨g, 4, none⟩) hg b4
theorem Below.set5 {B : Nat} {w w' : World} {g : Nat} (h : Below B w w') (hg : B ≤ g) (b0 b1 b2 b3 b4 : Value) :
    Below B w (((((w'.setCell ⟨g, 0, none⟩ b0).setCell ⟨g, 1, none⟩ b1).setCell ⟨g, 2, none⟩ b2).setCell ⟨g, 3, none⟩ b3).setCell ⟨g, 4, none⟩ b4) :=
  ((((h.setCell (p := ⟨g, 0, none⟩) hg b0).setCell (p := ⟨g, 1, none⟩) hg b1).setCell (p := ⟨g, 2, none⟩) hg b2).setCell (p := ⟨g, 3, none⟩) hg b3).setCell (p := ⟨g, 4, none⟩) hg b4
def AllL : Nat → (List Value → Prop) → Prop
  | 0, P => P []
  | n + 1, P => ∀ u, AllL n (fun l => P (u :: l))
theorem all_frames : ∀ (n : Nat) (P : List Value → Prop), AllL n P → ∀ l : List Value, l.length = n → P l
  | 0, P, h, [], _ => h
  | n + 1, P, h, u :: l, hl => all_frames n (fun l => P (u :: l)) (h u) l (by simpa using hl)
theorem frame_of (n : Nat) {a : Act} (P : Act → Prop) (hs : a.tmps.size = n) (hd : a.defers = []) (h : AllL n (fun l => P ⟨l.toArray, []⟩)) : P a := by
  obtain ⟨⟨l⟩, d⟩ := a
  simp only at hd
  subst hd
  exact all_frames n _ h l (by simpa using hs)
/-- a scope whose first pass comes to the label itself -/
theorem wp_scope_again {P : Program} {a : Act} {w : World} {Q : Exit → Act → World → Prop} {c X : Code} (l : Nat) (J : Act → World → Prop) (μ : Act → World → Nat) (hf : findLabel c l = some (Code.skip.seq X))
    (pass : ∀ a w, J a w → X.wp P (Exit.jump l (fun a' w' => J a' w' ∧ μ a' w' < μ a w) Q) a w)
    (first : (∀ a w, J a w → X.wp P (Exit.jump l J Q) a w) → c.wp P (Exit.jump l J Q) a w) : (Code.scope c).wp P Q a w := by
  refine wp_scope_jumps l J μ hf (first fun a w h => ?_) fun a w h => wp_seq (wp_skip (pass a w h))
  refine Code.wp_mono (fun e a' w' h' => ?_) (pass a w h)
  cases e with
  | goto k => exact ⟨h'.1, h'.2.1⟩
  | _ => exact h'
end Go.Proofs.YtclgfcjcpbiadaaGreatDoor

namespace Go.Proofs.YtclgfcjcpbiadaaGreatDoor
open Go.ChangeShapes Go.WideShapes Go.ChangeAt Go.RowKit

def kvC (c : ChD) : Rf × Value := (c.rf, c.v)
theorem HasL.kv {w : World} {b : Nat} {L : List ChD} (h : HasL w b L) : MapL w 25 b ((L.map kvC).map kv) := by
  rw [List.map_map]; exact h
theorem kvC_fst (L : List ChD) : (L.map kvC).map Prod.fst = refsOf L := by rw [List.map_map]; rfl
theorem row_reads {w w' : World} {A : Option Addr} {S : List Rf} {P : Prop} {c : Nat} (h : S = [] ∨ ∃ g, w.heap.size ≤ g ∧ g < w'.heap.size ∧ A = some ⟨g, 0, none⟩ ∧ RefRow w' g S ∧ S.length ≤ c ∧ P) : Reads (fun k => k < w'.heap.size) w' 2 A S.length (refC S) := by
  rcases h with rfl | ⟨g, h1, h2, rfl, hr, _⟩
  · exact ⟨rfl, fun h => absurd h (by simp)⟩
  · exact hr.reads.more fun k hk => by rw [hk]; exact h2
theorem iter_one {L : List ChD} {done : List ChD} {todo todo' : List (Rf × Value)} {x : Rf × Value} (hp : (done.map kvC ++ todo).Perm (L.map kvC)) (ht : todo.Perm (x :: todo')) : ∃ c ∈ L, kvC c = x ∧ ((done ++ [c]).map kvC ++ todo').Perm (L.map kvC) := by
  have h1 : (done.map kvC ++ (x :: todo')).Perm (L.map kvC) := (ht.symm.append_left _).trans hp
  obtain ⟨c, hc, rfl⟩ := List.mem_map.1 (h1.mem_iff.1 (List.mem_append_right _ (List.mem_cons_self ..)))
  refine ⟨c, hc, rfl, ?_⟩
  rw [List.map_append, List.append_assoc]
  exact h1
end Go.Proofs.YtclgfcjcpbiadaaGreatDoor

namespace Go.Proofs.YtclgfcjcpbiadaaGreatDoor
open Go.ChangeShapes Go.WideShapes Go.ChangeAt Go.RowKit

end Go.Proofs.YtclgfcjcpbiadaaGreatDoor

namespace Go.Proofs.YtclgfcjcpbiadaaGreatDoor
open Go.ChangeShapes Go.WideShapes Go.ChangeAt Go.RowKit

/-- the program's book, all of whose blocks meet P -/
structure PBD (P : Nat → Prop) (w : World) (g bh bw bb : Nat) (X : List (ChD × Nat × List Rf)) (W : List ChD) : Prop where
  pb : PB w g bh bw bb X W
  pg : P g ∧ P bh ∧ P bw ∧ P bb
  px : ∀ x ∈ X, P x.2.1 ∧ ChIn P w x.1
  pw : ∀ c ∈ W, ChIn P w c
theorem PBD.more {P P' : Nat → Prop} {w : World} {g bh bw bb : Nat} {X : List (ChD × Nat × List Rf)} {W : List ChD} (h : PBD P w g bh bw bb X W) (hp : ∀ k, P k → P' k) : PBD P' w g bh bw bb X W :=
  ⟨h.pb, ⟨hp _ h.pg.1, hp _ h.pg.2.1, hp _ h.pg.2.2.1, hp _ h.pg.2.2.2⟩, fun x hx => ⟨hp _ (h.px x hx).1, (h.px x hx).2.more hp⟩, fun c hc => (h.pw c hc).more hp⟩
/-- blocks that do not meet P turn -/
theorem PBD.keep {P : Nat → Prop} {w w' : World} {g bh bw bb : Nat} {X : List (ChD × Nat × List Rf)} {W : List ChD} (h : PBD P w g bh bw bb X W) (hs : w.heap.size ≤ w'.heap.size) (hk : ∀ k, P k → k < w.heap.size → w'.heap[k]? = w.heap[k]?) : PBD P w' g bh bw bb X W := by
  have hkk : ∀ {c : ChD}, ChIn P w c → ChIn (NF w bh bw bb) w c → ChIn (fun k => P k ∧ NF w bh bw bb k) w' c := fun h1 h2 => (h1.both h2).keep fun k hk' => hk k hk'.1 hk'.2.1
  refine ⟨⟨h.pb.blk.keep (hk _ h.pg.1 h.pb.blk.lt), MapL.keep h.pb.mh (hk _ h.pg.2.1 (MapL.lt h.pb.mh)), MapL.keep h.pb.mw (hk _ h.pg.2.2.1 (MapL.lt h.pb.mw)), MapL.keep h.pb.mb (hk _ h.pg.2.2.2 (MapL.lt h.pb.mb)), h.pb.ne, fun x hx => ?_, fun x hx => ?_, fun c hc => ?_⟩, h.pg, fun x hx => ⟨(h.px x hx).1, ?_⟩, fun c hc => ?_⟩
  · obtain ⟨a1, a2, a3⟩ := h.pb.sets x hx
    exact ⟨a1.keep (hk _ (h.px x hx).1 a2.1), a2.more hs, a3⟩
  · exact (hkk (h.px x hx).2 (h.pb.inL x hx)).more fun k hk => hk.2.more hs
  · exact (hkk (h.pw c hc) (h.pb.inW c hc)).more fun k hk => hk.2.more hs
  · exact (hkk (h.px x hx).2 (h.pb.inL x hx)).more fun k hk => hk.1
  · exact (hkk (h.pw c hc) (h.pb.inW c hc)).more fun k hk => hk.1
/-- behind the program's Take -/
theorem PBD.take {P : Nat → Prop} {w w' : World} {g bh bw bb : Nat} {X X' : List (ChD × Nat × List Rf)} {W W' : List ChD} (h : PBD P w g bh bw bb X W) (h' : PB w' g bh bw bb X' W') (hc : Chg (fun k => k = bh ∨ k = bw ∨ k = bb) w w')
    (hx : ∀ x ∈ X', x ∈ X ∨ w.heap.size ≤ x.2.1) (hy : ∀ y, y ∈ X'.map Prod.fst ∨ y ∈ W' → y ∈ X.map Prod.fst ∨ y ∈ W ∨ ChIn (fun k => w.heap.size ≤ k) w' y) : PBD (fun k => P k ∨ w.heap.size ≤ k ∧ k < w'.heap.size) w' g bh bw bb X' W' := by
  have old : ∀ {c : ChD}, ChIn P w c → ChIn (NF w bh bw bb) w c → ChIn (fun k => P k ∨ w.heap.size ≤ k ∧ k < w'.heap.size) w' c := fun h1 h2 =>
    ((h1.both h2).keep fun k hk => hc.block k hk.2.1 (fun e => e.elim hk.2.2.1 fun e => e.elim hk.2.2.2.1 hk.2.2.2.2)).more fun k hk => .inl hk.1
  have each : ∀ y, y ∈ X'.map Prod.fst ∨ y ∈ W' → ChIn (NF w' bh bw bb) w' y → ChIn (fun k => P k ∨ w.heap.size ≤ k ∧ k < w'.heap.size) w' y := fun y hm hn => by
    rcases hy y hm with h1 | h1 | h1
    · obtain ⟨x, hx, rfl⟩ := List.mem_map.1 h1
      exact old (h.px x hx).2 (h.pb.inL x hx)
    · exact old (h.pw y h1) (h.pb.inW y h1)
    · exact (h1.both hn).more fun k hk => .inr ⟨hk.1, hk.2.1⟩
  refine ⟨h', ⟨.inl h.pg.1, .inl h.pg.2.1, .inl h.pg.2.2.1, .inl h.pg.2.2.2⟩, fun x hm => ⟨?_, each _ (.inl (List.mem_map_of_mem hm)) (h'.inL x hm)⟩, fun c hm => each _ (.inr hm) (h'.inW c hm)⟩
  rcases hx x hm with h1 | h1
  · exact .inl (h.px x h1).1
  · exact .inr ⟨h1, (h'.sets x hm).2.1.1⟩
/-- both books, and what they stand for -/
structure Both (B : Nat) (D F : Nat → Prop) (w : World) (g bh bw bb gs : Nat) (X : List (ChD × Nat × List Rf)) (W L Wr : List ChD) : Prop where
  pbd : PBD (fun k => B ≤ k ∧ k < w.heap.size ∧ ¬ F k) w g bh bw bb X W
  bm : ∃ VL VW, BM D F w gs L Wr VL VW
  hD : ∀ k, D k → k < B
  hF : ∀ k, F k → B ≤ k
  size : B ≤ w.heap.size
  inv : Inv L Wr
  same : X.map (fun x => x.1.base) = L.map ChD.base
  sameW : W.map ChD.base = Wr.map ChD.base
section
variable {B : Nat} {D F : Nat → Prop} {w w' : World} {g bh bw bb gs : Nat} {X : List (ChD × Nat × List Rf)} {W L Wr : List ChD}
theorem Both.below (h : Both B D F w g bh bw bb gs X W L Wr) (hb : Below w.heap.size w w') : Both B D F w' g bh bw bb gs X W L Wr := by
  obtain ⟨VL, VW, hm⟩ := h.bm
  exact ⟨(h.pbd.keep hb.size fun k _ hk => hb.block k hk).more fun k hk => ⟨hk.1, Nat.lt_of_lt_of_le hk.2.1 hb.size, hk.2.2⟩, ⟨VL, VW, hm.below hb⟩, h.hD, h.hF, Nat.le_trans h.size hb.size, h.inv, h.same, h.sameW⟩
/-- a book whose changes are another one's, wherever they lie, keeps to what the other one keeps to -/
theorem mapb (X : List (ChD × Nat × List Rf)) : X.map (fun x => x.1.base) = (X.map Prod.fst).map ChD.base := by rw [List.map_map]; rfl
end
end Go.Proofs.YtclgfcjcpbiadaaGreatDoor
