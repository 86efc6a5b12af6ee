/- Contracts of the program's books: what waits; a frame got back from its size. -/
import Derived.Test.YtclgfcjcpbiadaaGreatDoorDag11
import Derived.Test.YtclgfcjcpbiadaaGreatDoorM34
import Derived.Test.YtclgfcjcpbiadaaGreatDoorM26
import Derived.ScopeJumps
import Derived.WalkMore
import Derived.Deep.MidRow
import Derived.Test.YtclgfcjcpbiadaaGreatDoorM35
import Derived.Test.YtclgfcjcpbiadaaGreatDoorSRef9
set_option linter.unusedVariables false
set_option linter.unusedSimpArgs false
namespace Go.Proofs.YtclgfcjcpbiadaaGreatDoor
open Go.ChangeShapes Go.WideShapes Go.ChangeAt Go.RowKit

theorem PB.waits {w w' : World} {g bh bw bb : Nat} {X : List (ChD × Nat × List Rf)} {W W' : List ChD} (h : PB w g bh bw bb X W) (hc : Chg (fun k => k = bw) w w') (h1 : HasL w' bw W')
    (hs : ∀ c ∈ W', c ∈ W ∨ ChIn (NF w bh bw bb) w c) : PB w' g bh bw bb X W' := by
  have hg := h.gne
  have hk : Keeps (NF w bh bw bb) w w' := hc.keeps fun k hk => ⟨hk.1, fun e => hk.2.2.1 e⟩
  refine ⟨h.blk.keep (hc.block _ h.blk.lt hg.2.1), MapL.keep h.mh (hc.block _ (MapL.lt h.mh) h.ne.1), h1, MapL.keep h.mb (hc.block _ (MapL.lt h.mb) (fun e => h.ne.2.2 e.symm)), h.ne, fun x hx => ?_, fun x hx => ((h.inL x hx).keep hk).more fun k hk => hk.more hc.size, fun c hc' => ?_⟩
  · obtain ⟨a1, a2, a3⟩ := h.sets x hx
    exact ⟨a1.keep (hk _ a2), a2.more hc.size, a3⟩
  · rcases hs c hc' with h2 | h2
    · exact ((h.inW c h2).keep hk).more fun k hk => hk.more hc.size
    · exact (h2.keep hk).more fun k hk => hk.more hc.size
theorem HasL.drop {w : World} {b : Nat} {W : List ChD} (h : HasL w b W) {j : Nat} {x : ChD} (hx : W[j]? = some x) (ty : TypeId) :
    ∃ w', (Builtin.delete_ #[57, 25] ty #[.map (some b), refV x.rf]).run Tryz.prog w = .ok (.tuple #[]) w' ∧ (HasL w' b (W.eraseIdx j) ∧ w.mapTurned w' b) := by
  obtain ⟨w', h1, h2, h3⟩ := MapL.drop h keyed_ref Tryz.underlying57 (v0 := x.v) ((pick_perm W j x hx).map (fun c : ChD => (refV c.rf, c.v))) ty
  exact ⟨w', h1, h2, h3⟩
/-- how many entries a map has -/
def mlen (w : World) (b : Nat) : Nat := match w.heap[b]? with
  | some (.map es _) => es.size
  | _ => 0
theorem MapL.mlen {w : World} {k : TypeId} {b : Nat} {l : List (Value × Value)} (h : MapL w k b l) : mlen w b = l.length := by
  obtain ⟨es, c, hb, F, hp⟩ := h
  unfold Go.Proofs.YtclgfcjcpbiadaaGreatDoor.mlen
  rw [hb, ← hp.length_eq]
  simp [ents]
theorem HasL.mlen {w : World} {b : Nat} {L : List ChD} (h : HasL w b L) : mlen w b = L.length := by
  rw [MapL.mlen h, List.length_map]
theorem base_same {c c' : ChD} (h : c'.base = c.base) : c'.err = c.err ∧ c'.rf = c.rf ∧ ((∀ o ∈ c.ops, (Lit.int .i64 o.vn).wf = true) → ∀ o ∈ c'.ops, (Lit.int .i64 o.vn).wf = true) := by
  refine ⟨by rw [← base_err c', h, base_err], by rw [← base_rf c', h, base_rf], fun hw o ho => ?_⟩
  have e : c'.ops.map Go.Proofs.YtclgfcjcpbiadaaGreatDoor.base = c.ops.map Go.Proofs.YtclgfcjcpbiadaaGreatDoor.base := congrArg ChD.ops h
  have h1 : Go.Proofs.YtclgfcjcpbiadaaGreatDoor.base o ∈ c.ops.map Go.Proofs.YtclgfcjcpbiadaaGreatDoor.base := by rw [← e]; exact List.mem_map_of_mem ho
  obtain ⟨o2, h2, e2⟩ := List.mem_map.1 h1
  have e3 : (Go.Proofs.YtclgfcjcpbiadaaGreatDoor.base o2).vn = (Go.Proofs.YtclgfcjcpbiadaaGreatDoor.base o).vn := congrArg OpD.vn e2
  have e4 : o2.vn = o.vn := e3
  rw [← e4]
  exact hw o2 h2
theorem Reads.both {D D' : Nat → Prop} {w w' : World} {size n : Nat} {A : Option Addr} {xs : List Value} (h : Reads D w size A n xs) (h' : Reads D' w' size A n xs) : Reads (fun k => D k ∧ D' k) w' size A n xs :=
  ⟨h.1, fun h0 => by
    obtain ⟨a, e1, d1, _⟩ := h.2 h0
    obtain ⟨a', e2, d2, c2⟩ := h'.2 h0
    rw [e1] at e2
    cases e2
    exact ⟨a, e1, ⟨d1, d2⟩, c2⟩⟩
theorem ChIn.both {D D' : Nat → Prop} {w w' : World} {c : ChD} (h : ChIn D w c) (h' : ChIn D' w' c) : ChIn (fun k => D k ∧ D' k) w' c :=
  ⟨h.hd.both h'.hd, h.hdl, h.ho.both h'.ho, h.hol, fun o ho => ⟨(h.hp o ho).1.both (h'.hp o ho).1, (h.hp o ho).2⟩⟩
theorem take_fresh {w' : World} {B g bh bw bb : Nat} {X' : List (ChD × Nat × List Rf)} {L L' W W2 : List ChD} {c' : ChD} (hp : PB w' g bh bw bb X' W2) (hl : X'.map Prod.fst = L') (hy : ∀ y, y ∈ L' ∨ y ∈ W2 → y ∈ L ∨ y ∈ W ∨ y = c')
    (hc : ∃ V, ChIn (fun k => B ≤ k) V c') : ∀ y, y ∈ L' ∨ y ∈ W2 → y ∈ L ∨ y ∈ W ∨ ChIn (fun k => B ≤ k) w' y := fun y h => by
  rcases hy y h with h1 | h1 | rfl
  · exact .inl h1
  · exact .inr (.inl h1)
  · obtain ⟨V, hc⟩ := hc
    refine .inr (.inr ?_)
    rcases h with h | h
    · rw [← hl] at h
      obtain ⟨x, hx, e⟩ := List.mem_map.1 h
      exact (hc.both (e ▸ hp.inL x hx)).more fun k hk => hk.1
    · exact (hc.both (hp.inW y h)).more fun k hk => hk.1
theorem Blk.there {w : World} {g : Nat} {t : TypeId} {cs : Array Value} (h : Blk w g t cs) {n : Nat} (hn : cs.size = n) : w.there g 0 n := fun j hj => by
  rw [Nat.zero_add]
  refine ⟨?_, h.frozen j⟩
  rw [h.cell j, Array.getElem?_eq_getElem (by omega)]
  rfl
theorem info_ch : (Tryz.prog.info? 34).map (·.size) = some 5 := by kernel_rfl
theorem ch_one (a s st : Int) (A : Option Addr) (n c : Nat) (A' : Option Addr) (n' c' : Nat) : (#[.int .i64 a, .int .i64 s, .int .i64 st, .slice A n c, .slice A' n' c'] : Array Value).all (fun v => v.oneCell') = true := by
  refine Array.all_eq_true_iff_forall_mem.2 fun v hv => ?_
  simp only [List.mem_toArray, List.mem_cons, List.not_mem_nil, or_false] at hv
  rcases hv with rfl | rfl | rfl | rfl | rfl <;> rfl
theorem Blk.range {w : World} {g : Nat} {t : TypeId} {cs : List Value} (h : Blk w g t cs.toArray) : w.rangeAt g 0 cs := fun j u hj => by
  rw [Nat.zero_add, h.cell j]
  simpa using hj
theorem Blk.set5 {w : World} {g : Nat} {t : TypeId} {a0 a1 a2 a3 a4 : Value} (h : Blk w g t #[a0, a1, a2, a3, a4]) (b0 b1 b2 b3 b4 : Value) :
    Blk (((((w.setCell ⟨g, 0, none⟩ b0).setCell ⟨g, 1, none⟩ b1).setCell ⟨g, 2, none⟩ b2).setCell ⟨g, 3, none⟩ b3).setCell ⟨g, 4, none⟩ b4) g t #[b0, b1, b2, b3, b4] :=
  ((((h.set_ 0 b0).set_ 1 b1).set_ 2 b2).set_ 3 b3).set_ 4 b4
theorem Chg.set5 {w w' : World} {g : Nat} {M : Nat → Prop} (h : Chg M w w') (hg : M g ∨ w.heap.size ≤ g) (b0 b1 b2 b3 b4 : Value) :
    Chg M w (((((w'.setCell ⟨g, 0, none⟩ b0).setCell ⟨g, 1, none⟩ b1).setCell ⟨g, 2, none⟩ b2).setCell ⟨g, 3, none⟩ b3).setCell ⟨g, 4, none⟩ b4) :=
  ((((h.setCell (p := ⟨g, 0, none⟩) hg b0).setCell (p := ⟨g, 1, none⟩) hg b1).setCell (p := ⟨g, 2, none⟩) hg b2).setCell (p := ⟨g, 3, none⟩) hg b3).setCell (p := ⟨g, 4, none⟩) hg b4
theorem Below.set5 {B : Nat} {w w' : World} {g : Nat} (h : Below B w w') (hg : B ≤ g) (b0 b1 b2 b3 b4 : Value) :
    Below B w (((((w'.setCell ⟨g, 0, none⟩ b0).setCell ⟨g, 1, none⟩ b1).setCell ⟨g, 2, none⟩ b2).setCell ⟨g, 3, none⟩ b3).setCell ⟨g, 4, none⟩ b4) :=
  ((((h.setCell (p := ⟨g, 0, none⟩) hg b0).setCell (p := ⟨g, 1, none⟩) hg b1).setCell (p := ⟨g, 2, none⟩) hg b2).setCell (p := ⟨g, 3, none⟩) hg b3).setCell (p := ⟨g, 4, none⟩) hg b4
def AllL : Nat → (List Value → Prop) → Prop
  | 0, P => P []
  | n + 1, P => ∀ u, AllL n (fun l => P (u :: l))
theorem all_frames : ∀ (n : Nat) (P : List Value → Prop), AllL n P → ∀ l : List Value, l.length = n → P l
  | 0, P, h, [], _ => h
  | n + 1, P, h, u :: l, hl => all_frames n (fun l => P (u :: l)) (h u) l (by simpa using hl)
theorem frame_of (n : Nat) {a : Act} (P : Act → Prop) (hs : a.tmps.size = n) (hd : a.defers = []) (h : AllL n (fun l => P ⟨l.toArray, []⟩)) : P a := by
  obtain ⟨⟨l⟩, d⟩ := a
  simp only at hd
  subst hd
  exact all_frames n _ h l (by simpa using hs)
/-- a scope whose first pass comes to the label itself -/
theorem wp_scope_again {P : Program} {a : Act} {w : World} {Q : Exit → Act → World → Prop} {c X : Code} (l : Nat) (J : Act → World → Prop) (μ : Act → World → Nat) (hf : findLabel c l = some (Code.skip.seq X))
    (pass : ∀ a w, J a w → X.wp P (Exit.jump l (fun a' w' => J a' w' ∧ μ a' w' < μ a w) Q) a w)
    (first : (∀ a w, J a w → X.wp P (Exit.jump l J Q) a w) → c.wp P (Exit.jump l J Q) a w) : (Code.scope c).wp P Q a w := by
  refine wp_scope_jumps l J μ hf (first fun a w h => ?_) fun a w h => wp_seq (wp_skip (pass a w h))
  refine Code.wp_mono (fun e a' w' h' => ?_) (pass a w h)
  cases e with
  | goto k => exact ⟨h'.1, h'.2.1⟩
  | _ => exact h'
end Go.Proofs.YtclgfcjcpbiadaaGreatDoor

namespace Go.Proofs.YtclgfcjcpbiadaaGreatDoor
open Go.ChangeShapes Go.WideShapes Go.ChangeAt Go.RowKit

def kvC (c : ChD) : Rf × Value := (c.rf, c.v)
theorem HasL.kv {w : World} {b : Nat} {L : List ChD} (h : HasL w b L) : MapL w 25 b ((L.map kvC).map kv) := by
  rw [List.map_map]; exact h
theorem kvC_fst (L : List ChD) : (L.map kvC).map Prod.fst = refsOf L := by rw [List.map_map]; rfl
theorem row_reads {w w' : World} {A : Option Addr} {S : List Rf} {P : Prop} {c : Nat} (h : S = [] ∨ ∃ g, w.heap.size ≤ g ∧ g < w'.heap.size ∧ A = some ⟨g, 0, none⟩ ∧ RefRow w' g S ∧ S.length ≤ c ∧ P) : Reads (fun k => k < w'.heap.size) w' 2 A S.length (refC S) := by
  rcases h with rfl | ⟨g, h1, h2, rfl, hr, _⟩
  · exact ⟨rfl, fun h => absurd h (by simp)⟩
  · exact hr.reads.more fun k hk => by rw [hk]; exact h2
set_option maxHeartbeats 4000000 in
set_option maxRecDepth 20000 in
theorem waiting_any (W : List ChD) (g bh bw bb : Nat) (w : World) (hB : Blk w g 60 #[.map (some bh), .map (some bw), .map (some bb)]) (hm : HasL w bw W) (hn : (refsOf W).Nodup) (hl : W.length ≤ 1000000) :
    Calls Tryz.prog 20 #[.pointer (some ⟨g, 0, none⟩)] w fun e w' => ∃ A c, e = .returned (.slice A (refsP W).length c) ∧ Reads (fun k => k < w'.heap.size) w' 2 A (refsP W).length (refC (refsP W)) ∧ Below w.heap.size w w' := by
  have g1 : w.cell? ⟨g, 1, none⟩ = some (.map (some bw)) := hB.cell 1
  have C1 := rising_any (W.map kvC) bw w hm.kv (by rw [List.length_map]; exact hl)
  have HN := Lib.hid hn
  rw [kvC_fst] at C1
  clear hB hm hn
  go_enter Tryz.func20, Tryz.ntmps20
  go_wp2_with fail
  go_at_call 39
  refine C1.mono ?_
  rintro e w2 ⟨A, c, S, rfl, hp, ha, hrow, hb⟩
  have HS : Hid (S = refsP W) := waits_eq HN.out hp ha
  have HR := Lib.hid (row_reads hrow)
  rw [HS.out] at HR ⊢
  clear hrow C1 hp ha
  go_wp2_with fail
  go_ret
  exact ⟨A, c, rfl, HR.out, hb⟩
theorem iter_one {L : List ChD} {done : List ChD} {todo todo' : List (Rf × Value)} {x : Rf × Value} (hp : (done.map kvC ++ todo).Perm (L.map kvC)) (ht : todo.Perm (x :: todo')) : ∃ c ∈ L, kvC c = x ∧ ((done ++ [c]).map kvC ++ todo').Perm (L.map kvC) := by
  have h1 : (done.map kvC ++ (x :: todo')).Perm (L.map kvC) := (ht.symm.append_left _).trans hp
  obtain ⟨c, hc, rfl⟩ := List.mem_map.1 (h1.mem_iff.1 (List.mem_append_right _ (List.mem_cons_self ..)))
  refine ⟨c, hc, rfl, ?_⟩
  rw [List.map_append, List.append_assoc]
  exact h1
set_option maxHeartbeats 4000000 in
theorem deleteF0_any (A : Option Addr) (c : Nat) (gf : Nat) (lb : Array Value) (w : World) (eg : ∀ args w, (callFunc gf args).run Tryz.prog w = .ok (.enter gf args) w) :
    Calls Tryz.prog 51 #[.slice A 0 c, .func (.func gf) #[] lb] w fun e w' => e = .returned (.slice A 0 c) ∧ Below w.heap.size w w' := by
  have C1 := indexF_any [] A c w ⟨rfl, fun h => absurd h (by simp)⟩ (by simp) gf lb (fun _ => false) eg (fun W r hr hb => by cases hr)
  rw [show idxP (fun _ => false) ([] : List Rf) = -1 from rfl, show ([] : List Rf).length = 0 from rfl] at C1
  go_enter Tryz.func51, Tryz.ntmps51
  go_wp2_with fail
  go_at_call 46
  refine C1.mono ?_
  rintro e w1 ⟨rfl, hb⟩
  go_wp2_with fail
  go_ret
  exact ⟨rfl, hb⟩
/-- what the loop of Heads comes to -/
theorem on_eq {L done : List ChD} {S : List Rf} (hn : (refsOf L).Nodup) (hs : ∀ c ∈ done, c ∈ L) (hp : (done.map kvC).Perm (L.map kvC)) (hS : ∀ r, r ∈ S ↔ ∃ c ∈ done, r ∈ c.deps) (r : Rf) : decide (r ∈ S) = onP L r := by
  unfold onP
  rw [Bool.eq_iff_iff, decide_eq_true_eq, List.any_eq_true, hS r]
  constructor
  · rintro ⟨c, hc, h⟩; exact ⟨c, hs c hc, decide_eq_true h⟩
  · rintro ⟨c, hc, h⟩
    obtain ⟨c', hc', e⟩ := List.mem_map.1 (hp.mem_iff.2 (List.mem_map_of_mem (f := kvC) hc))
    have e1 : c'.rf = c.rf := congrArg Prod.fst e
    have h1 := findC_is hn (hs c' hc')
    rw [e1, findC_is hn hc] at h1
    cases h1
    exact ⟨c, hc', of_decide_eq_true h⟩
theorem deps_flat {L : List ChD} (he : ∀ c ∈ L, c.err = 0) : (L.flatMap ChD.deps).length ≤ 12 * L.length := by
  induction L with
  | nil => simp
  | cons c L ih =>
    have h1 := ih fun c hc => he c (by simp [hc])
    have h2 := (err_ok (he c (by simp))).2.2.2
    simp only [List.flatMap_cons, List.length_append, List.length_cons]; omega
set_option maxHeartbeats 8000000 in
set_option maxRecDepth 20000 in
theorem heads_any (L : List ChD) (g bh : Nat) (V2 V3 : Value) (w : World) (hB : HB w g bh V2 V3 L) (hn : (refsOf L).Nodup) (hl : L.length ≤ 1000) (hin : ∀ c ∈ L, ChIn (fun k => k < w.heap.size) w c) (he : ∀ c ∈ L, c.err = 0) :
    Calls Tryz.prog 24 #[.pointer (some ⟨g, 0, none⟩)] w fun e w' => ∃ A c, e = .returned (.slice A (headsP L).length c) ∧ Reads (fun k => k < w'.heap.size) w' 2 A (headsP L).length (refC (headsP L)) ∧ Below w.heap.size w w' := by
  have HBB := Lib.hid hB
  have HN := Lib.hid hn
  have HIN := Lib.hid hin
  have HE := Lib.hid he
  clear hB hn hin he
  have hmm : ∀ (t : TypeId) (w : World), (Instr.makeMap t none).run Tryz.prog w = .ok (.map (some w.heap.size)) (w.alloc (.map #[] 0)) := fun _ _ => rfl
  have HS0 := Lib.hid ((SetM.made w).keep (w' := (w.alloc (.map #[] 0)).alloc (.cells #[.map (some w.heap.size)] 73)) (Below.heap_alloc _ _ _ (by simp)))
  have HQ0 : Hid (Blk ((w.alloc (.map #[] 0)).alloc (.cells #[.map (some w.heap.size)] 73)) (w.heap.size + 1) 73 #[.map (some w.heap.size)]) := by
    have := Blk.new (w.alloc (.map #[] 0)) 73 #[.map (some w.heap.size)]
    rw [World.size_alloc] at this
    exact this
  have HW0 : Hid (Below w.heap.size w ((w.alloc (.map #[] 0)).alloc (.cells #[.map (some w.heap.size)] 73))) := ((Below.refl _ w).alloc (Nat.le_refl _) _).alloc (by simp) _
  go_enter Tryz.func24, Tryz.ntmps24
  go_upto_region 2 with fail
  clear hmm
  have HFL : Hid ((L.flatMap ChD.deps).length ≤ 12 * L.length) := deps_flat HE.out
  have HLL := Lib.hid hl
  have hvs : ((w.alloc (.map #[] 0)).alloc (.cells #[.map (some w.heap.size)] 73)).heap.size = w.heap.size + 2 := by simp
  generalize (w.alloc (.map #[] 0)).alloc (.cells #[.map (some w.heap.size)] 73) = V0 at HS0 HQ0 HW0 hvs ⊢
  have HMW : Hid (w.heap.size < V0.heap.size ∧ w.heap.size + 1 < V0.heap.size) := by show _ ∧ _; omega
  clear hvs
  obtain ⟨qv, hqv⟩ : ∃ q, w.heap.size + 1 = q := ⟨_, rfl⟩
  rw [hqv] at HQ0 HMW ⊢
  obtain ⟨m, hmv⟩ : ∃ m, w.heap.size = m := ⟨_, rfl⟩
  have HMQ : Hid (w.heap.size = m ∧ w.heap.size + 1 = qv) := ⟨hmv, hqv⟩
  rw [hmv] at HS0 HQ0 HMW
  rw [show (Value.map (some w.heap.size)) = .map (some m) from by rw [hmv]]
  clear hmv hqv hl
  obtain ⟨KL, hkl⟩ : ∃ K, L.map kvC = K := ⟨_, rfl⟩
  have HKL := Lib.hid hkl
  have HB0 := Lib.hid (HBB.out.below HW0.out)
  have g0 : V0.cell? ⟨g, 0, none⟩ = some (.map (some bh)) := HB0.out.blk.cell 0
  go_wp2_with (refine wpL_range _ rfl (.tmp 12) 57 rfl 25 34 Tryz.underlying57 bh (KL.map kv) rfl (by rw [← HKL.out]; exact HB0.out.mh.kv) ?_; intro w1 hI hb hs)
  have HI : Hid (IterL w1 25 bh V0.heap.size (KL.map kv) (KL.map kv)) := hI
  have HS1 := Lib.hid (HS0.out.keep (hb.block _ (MapL.lt HS0.out)))
  have HQ1 := Lib.hid (HQ0.out.keep (hb.block _ HQ0.out.lt))
  have HW1 : Hid (Below w.heap.size w w1) := HW0.out.trans (hb.mono HW0.out.size)
  have HIM : Hid (m ≠ V0.heap.size ∧ qv ≠ V0.heap.size ∧ w.heap.size ≤ V0.heap.size ∧ bh ≠ m ∧ bh ≠ V0.heap.size ∧ w.heap.size ≤ m ∧ qv ≠ m) := by
    have := HMW.out; have := HMQ.out; have := MapL.lt HBB.out.mh; show _ ∧ _; omega
  clear g0 hI hb hs HS0 HQ0 HW0 HB0 HMW hkl
  generalize V0.heap.size = it at HI HIM ⊢
  try simp only [Act.put, List.setIfInBounds_toArray, List.set_cons_zero, List.set_cons_succ]
  go_loopw [5, 7] (fun _ _ wr => ∃ (done : List ChD) (todo : List (Rf × Value)) (S : List Rf), Hid ((done.map kvC ++ todo).Perm KL) ∧ Hid (∀ c ∈ done, c ∈ L) ∧ Hid (IterL wr 25 bh it (KL.map kv) (todo.map kv)) ∧ Hid (SetM wr m S) ∧ Hid (∀ r, r ∈ S ↔ ∃ c ∈ done, r ∈ c.deps) ∧ Hid (Chg (fun k => k = m ∨ k = it) w1 wr)) (fun _ _ wr => itLeft wr bh it)
  case atStart => exact ⟨[], KL, [], Lib.hid (List.Perm.refl _), (by intro c hc; cases hc), HI, HS1, Lib.hid (by simp), Lib.hid (Chg.refl _)⟩
  case round =>
    clear HI HS1
    obtain ⟨done, todo, S, HP, HD, HI, HS, HM, HC⟩ := hrel
    go_wp2_with (refine wpK_next _ rfl (.tmp 13) rfl bh it KL todo rfl HI.out ?_ ?_)
    · intro ht
      subst ht
      have HPD : Hid ((done.map kvC).Perm (L.map kvC)) := by show List.Perm _ _; rw [HKL.out]; have := HP.out; rw [List.append_nil] at this; exact this
      have HON : Hid (∀ r, decide (r ∈ S) = onP L r) := on_eq HN.out HD.out HPD.out HM.out
      have HWr : Hid (Below w.heap.size w wr) := HW1.out.trans (HC.out.below HW1.out.size (fun k hk => by have := HIM.out; omega))
      have hbr := HBB.out.below HWr.out
      have g0 : wr.cell? ⟨g, 0, none⟩ = some (.map (some bh)) := hbr.blk.cell 0
      have C1 := rising_any (L.map kvC) bh wr hbr.mh.kv (by rw [List.length_map]; have := HLL.out; omega)
      rw [kvC_fst] at C1
      have EG : ∀ args w, (callFunc 52 args).run Tryz.prog w = .ok (.enter 52 args) w := enters_of Tryz.func52 (by kernel_rfl) (Option.some_get (show Tryz.f52.body.isSome = true by kernel_rfl)).symm
      have HEG := Lib.hid EG
      have HQr := Lib.hid (HQ1.out.keep (HC.out.block _ HQ1.out.lt (by have := HIM.out; omega)))
      have HSV : Hid (SetV wr qv m S) := ⟨HQr.out.cell 0, HQr.out.lt, HS.out⟩
      clear hbr EG HP HD HPD HM HI HS HC HQr
      go_wp2_with fail
      go_at_call 39
      refine C1.mono ?_
      rintro e w5 ⟨A, cc, S0, rfl, hp, ha, hrow, hb⟩
      have HHD : Hid (S0.filter (fun r => !decide (r ∈ S)) = headsP L) := by
        show _ = _
        rw [← heads_eq HN.out hp ha]
        exact List.filter_congr fun r _ => by rw [HON.out r]
      have HSL : Hid (S0.length ≤ 1000) := by
        show _ ≤ _
        rw [hp.length_eq]
        have := HLL.out
        simpa [refsOf] using this
      have HS0I : Hid (∀ r ∈ S0, I64R r) := fun r hr => by
        obtain ⟨c, hc, rfl⟩ := List.mem_map.1 (hp.mem_iff.1 hr)
        exact rf_i64 (HE.out c hc)
      have HW5 : Hid (Below w.heap.size w w5) := HWr.out.trans (hb.mono HWr.out.size)
      have HSV5 := Lib.hid (HSV.out.below hb)
      have HMG : Hid (m < wr.heap.size ∧ qv < wr.heap.size ∧ w.heap.size ≤ wr.heap.size) := ⟨MapL.lt HSV.out.set, HSV.out.lt, HWr.out.size⟩
      rcases hrow with rfl | ⟨gS, hg1, hg2, rfl, hrw, hcl, hcm⟩
      · have HH0 : Hid (headsP L = []) := HHD.out.symm
        have C2 := deleteF0_any A cc 52 #[.pointer (some ⟨qv, 0, none⟩)] w5 HEG.out
        clear C1 hp ha hb g0
        go_wp2_with fail
        go_at_call 51
        refine C2.mono ?_
        rintro e w6 ⟨rfl, hb⟩
        have HW6 : Hid (Below w.heap.size w w6) := HW5.out.trans (hb.mono HW5.out.size)
        go_wp2_with fail
        go_ret
        exact ⟨A, cc, by rw [HH0.out]; rfl, by rw [HH0.out]; exact ⟨rfl, fun h => absurd h (by simp)⟩, HW6.out⟩
      · have C2 := deleteF_any gS cc S0.length S0 w5 hrw hg2 rfl (by have := HSL.out; omega) hcl hcm 52 #[.pointer (some ⟨qv, 0, none⟩)] (fun r => decide (r ∈ S)) HEG.out
          (fun W r hr hch => head1_any S r (HS0I.out r hr) qv m W ⟨(World.cell?_of_block (hch.block _ HSV5.out.lt (fun e => by have := HMG.out; have e : qv = gS := e; omega))).trans HSV5.out.cell, Nat.lt_of_lt_of_le HSV5.out.lt hch.size, HSV5.out.set.keep (hch.block _ (MapL.lt HSV5.out.set) (fun e => by have := HMG.out; have e : m = gS := e; omega))⟩)
        rw [HHD.out] at C2
        have HGS : Hid (w.heap.size ≤ gS ∧ gS < w5.heap.size) := by have := HMG.out; show _ ∧ _; omega
        obtain ⟨nS, hnS⟩ : ∃ n, S0.length = n := ⟨_, rfl⟩
        rw [hnS] at C2 ⊢
        clear C1 hp ha hb g0 hrw hcl hcm hg1 hg2 hnS
        go_wp2_with fail
        go_at_call 51
        refine C2.mono ?_
        rintro e w6 ⟨rfl, hrw, hch⟩
        have HW6 : Hid (Below w.heap.size w w6) := HW5.out.trans (hch.below HW5.out.size (fun k hk => by rw [hk]; exact HGS.out.1))
        have HRD : Hid (Reads (fun k => k < w6.heap.size) w6 2 (some ⟨gS, 0, none⟩) (headsP L).length (refC (headsP L))) := hrw.reads.more fun k hk => by rw [hk]; exact Nat.lt_of_lt_of_le HGS.out.2 hch.size
        clear hrw hch C2
        go_wp2_with fail
        go_ret
        exact ⟨_, cc, rfl, HRD.out, HW6.out⟩
    · intro a1 a2 v todo' w2 hp hI2 hg2 hs2 hen
      obtain ⟨c, hc, hcx, hpm⟩ := iter_one (L := L) (done := done) (by rw [HKL.out]; exact HP.out) hp
      rw [HKL.out] at hpm
      obtain rfl : c.v = v := congrArg Prod.snd hcx
      obtain ⟨ea1, ea2⟩ : c.a = a1 ∧ c.s = a2 := ⟨congrArg (fun x => x.1.1) hcx, congrArg (fun x => x.1.2) hcx⟩
      subst ea1 ea2
      have HPM := Lib.hid hpm
      have HCL := Lib.hid hc
      have HLE : Hid (itLeft wr bh it = todo'.length + 1) := by show _ = _; rw [IterL.left HI.out, List.length_map, hp.length_eq]; rfl
      have HI2 : Hid (IterL w2 25 bh it (KL.map kv) (todo'.map kv)) := hI2
      have HS2 := Lib.hid (HS.out.keep (hg2.block _ (MapL.lt HS.out) (fun e => HIM.out.1 (Option.some.inj e))))
      have HC2 := Lib.hid (HC.out.grown hg2 (fun q hq => by cases hq; exact .inl (.inr rfl)))
      clear hp hI2 hg2 hs2 hc hcx hpm HI HS HC HP
      unfold ChD.v at hen
      go_upto_region 5 with fail
      have HV := Lib.hid (Blk.new w2 34 #[.int .i64 c.a, .int .i64 c.s, .int .i64 c.st, .slice c.DA c.deps.length c.DC, .slice c.OA c.ops.length c.OC])
      have HS3 := Lib.hid (HS2.out.keep (w' := w2.alloc (.cells #[.int .i64 c.a, .int .i64 c.s, .int .i64 c.st, .slice c.DA c.deps.length c.DC, .slice c.OA c.ops.length c.OC] 34)) (Below.heap_alloc _ _ _ (MapL.lt HS2.out)))
      have HI3 : Hid (IterL (w2.alloc (.cells #[.int .i64 c.a, .int .i64 c.s, .int .i64 c.st, .slice c.DA c.deps.length c.DC, .slice c.OA c.ops.length c.OC] 34)) 25 bh it (KL.map kv) (todo'.map kv)) := IterL.keep HI2.out (Below.heap_alloc _ _ _ (MapL.lt (IterL.map HI2.out))) (Below.heap_alloc _ _ _ (IterL.lt HI2.out))
      have HC3 := Lib.hid (HC2.out.alloc (.cells #[.int .i64 c.a, .int .i64 c.s, .int .i64 c.st, .slice c.DA c.deps.length c.DC, .slice c.OA c.ops.length c.OC] 34))
      clear HS2 HI2 HC2 hen
      generalize w2.alloc (.cells #[.int .i64 c.a, .int .i64 c.s, .int .i64 c.st, .slice c.DA c.deps.length c.DC, .slice c.OA c.ops.length c.OC] 34) = w3 at HV HS3 HI3 HC3 ⊢
      generalize w2.heap.size = q5 at HV ⊢
      obtain ⟨nd, hnd⟩ : ∃ n, c.deps.length = n := ⟨_, rfl⟩
      have HND := Lib.hid hnd
      have hdl : nd ≤ 12 := by rw [← hnd]; exact (err_ok (HE.out c HCL.out)).2.2.2
      have c3 : w3.cell? ⟨q5, 3, none⟩ = some (.slice c.DA nd c.DC) := by rw [← hnd]; exact HV.out.cell 3
      clear hnd
      rw [HND.out]
      go_upto_region 6 with fail
      clear c3 HV
      go_loopw [7, 21] (fun _ s wr => ∃ (k : Nat) (S' : List Rf), s = .int .i64 k ∧ k ≤ nd ∧ Hid (SetM wr m S') ∧ Hid (∀ r, r ∈ S' ↔ r ∈ S ∨ r ∈ c.deps.take k) ∧ Hid (IterL wr 25 bh it (KL.map kv) (todo'.map kv)) ∧ Hid (Chg (fun k => k = m ∨ k = it) w1 wr)) (fun _ s _ => nd - (intOf s).toNat)
      case atStart => exact ⟨0, S, rfl, by omega, HS3, Lib.hid (by simp), HI3, HC3⟩
      case round =>
        clear HS3 HI3 HC3
        obtain ⟨k, S', rfl, hk, HS, HM2, HI, HC⟩ := hrel
        have HWr : Hid (Below w.heap.size w wr) := HW1.out.trans (HC.out.below HW1.out.size (fun k hk => by have := HIM.out; omega))
        by_cases hlt : k < nd
        · obtain ⟨d, hd⟩ : ∃ d, c.deps[k]? = some d := ⟨_, List.getElem?_eq_getElem (by rw [HND.out]; exact hlt)⟩
          obtain ⟨bd, od, hA, hbl, hcd⟩ := (reads_below (HIN.out c HCL.out).hd HWr.out).at_ (by rw [HND.out]; omega) (by omega)
          have p1 : wr.cell? ⟨bd, od + k * 2, none⟩ = some (.int .i64 d.1) := hcd _ _ (refC_at hd).1
          have p2 : wr.cell? ⟨bd, od + k * 2 + 1, none⟩ = some (.int .i64 d.2) := hcd _ _ (refC_at hd).2
          have HDI : Hid (I64R d) := err_deps (HE.out c HCL.out) d (List.mem_of_getElem? hd)
          have HTK : Hid (∀ r, r ∈ c.deps.take (k + 1) ↔ r ∈ c.deps.take k ∨ r = d) := fun r => by
            rw [List.take_add_one, hd, Option.toList_some, List.mem_append, List.mem_singleton]
          have HSN : Hid (S'.length < maxLen) := by
            have hsub : ∀ r ∈ S', r ∈ L.flatMap ChD.deps := fun r hr => by
              rcases (HM2.out r).1 hr with h | h
              · obtain ⟨c', hc', h'⟩ := (HM.out r).1 h
                exact List.mem_flatMap.2 ⟨c', HD.out c' hc', h'⟩
              · exact List.mem_flatMap.2 ⟨c, HCL.out, List.mem_of_mem_take h⟩
            have h1 := nodup_le HS.out.nodup hsub
            have h2 := HFL.out
            have h3 := HLL.out
            show _ < _
            simp only [maxLen]
            omega
          have HQr := Lib.hid (HQ1.out.keep (HC.out.block _ HQ1.out.lt (by have := HIM.out; omega)))
          have HOX := Lib.hid hA
          have HLT := Lib.hid hlt
          rw [hA]
          clear hA hbl hcd hd
          go_upto_region 8 with fail
          have HQ7 := Lib.hid (Blk.new wr 25 #[.int .i64 d.1, .int .i64 d.2])
          have HS4 := Lib.hid (HS.out.keep (w' := wr.alloc (.cells #[.int .i64 d.1, .int .i64 d.2] 25)) (Below.heap_alloc _ _ _ (MapL.lt HS.out)))
          have HI4 : Hid (IterL (wr.alloc (.cells #[.int .i64 d.1, .int .i64 d.2] 25)) 25 bh it (KL.map kv) (todo'.map kv)) := IterL.keep HI.out (Below.heap_alloc _ _ _ (MapL.lt (IterL.map HI.out))) (Below.heap_alloc _ _ _ (IterL.lt HI.out))
          have HC4 := Lib.hid (HC.out.alloc (.cells #[.int .i64 d.1, .int .i64 d.2] 25))
          have HQ4 := Lib.hid (HQr.out.keep (w' := wr.alloc (.cells #[.int .i64 d.1, .int .i64 d.2] 25)) (Below.heap_alloc _ _ _ HQr.out.lt))
          clear HS HI HC HQr p1 p2
          generalize wr.alloc (.cells #[.int .i64 d.1, .int .i64 d.2] 25) = w4 at HQ7 HS4 HI4 HC4 HQ4 ⊢
          generalize wr.heap.size = q7 at HQ7 ⊢
          have y1 : w4.cell? ⟨q7, 0, none⟩ = some (.int .i64 d.1) := HQ7.out.cell 0
          have y2 : w4.cell? ⟨q7, 1, none⟩ = some (.int .i64 d.2) := HQ7.out.cell 1
          have v0 : w4.cell? ⟨qv, 0, none⟩ = some (.map (some m)) := HQ4.out.cell 0
          have hst := HS4.out.add HDI.out HSN.out
          go_wp2_with (refine wpL_store _ rfl (.tmp 25) (.tmp 26) (.const (.bool true)) 73 (.inl rfl) m (.agg #[.int .i64 d.1, .int .i64 d.2]) (.bool true) rfl rfl rfl _ hst ?_; rintro w5 ⟨⟨S2, hs5, hm5, -⟩, ht5⟩)
          have hg5 := ht5.grown
          have HS5 := Lib.hid hs5
          have HI5 : Hid (IterL w5 25 bh it (KL.map kv) (todo'.map kv)) := IterL.keep HI4.out (hg5.block _ (MapL.lt (IterL.map HI4.out)) (fun e => by have := HIM.out; have := Option.some.inj e; omega)) (hg5.block _ (IterL.lt HI4.out) (fun e => by have := HIM.out; have := Option.some.inj e; omega))
          have HC5 := Lib.hid (HC4.out.grown hg5 (fun q hq => by cases hq; exact .inl (.inl rfl)))
          have HM5 : Hid (∀ r, r ∈ S2 ↔ r ∈ S ∨ r ∈ c.deps.take (k + 1)) := fun r => by rw [hm5 r, HM2.out r, HTK.out r, or_assoc]
          clear hs5 hm5 ht5 hg5 hst y1 y2 v0 HS4 HI4 HC4 HQ4 HQ7
          try simp only [Act.put, List.setIfInBounds_toArray, List.set_cons_zero, List.set_cons_succ]
          go_wp2_with fail
          go_roundw
          case rel => exact ⟨k + 1, S2, by go_num, by have := HLT.out; omega, HS5, HM5, HI5, HC5⟩
          case measure => have := HLT.out; simp [intOf]; omega
        · have HD2 : Hid (∀ c' ∈ done ++ [c], c' ∈ L) := fun c' hc' => by
            rcases List.mem_append.1 hc' with h | h
            · exact HD.out c' h
            · rw [List.mem_singleton.1 h]; exact HCL.out
          have HM3 : Hid (∀ r, r ∈ S' ↔ ∃ c' ∈ done ++ [c], r ∈ c'.deps) := fun r => by
            rw [HM2.out r, HM.out r, List.take_of_length_le (by rw [HND.out]; omega)]
            constructor
            · rintro (⟨c', h1, h2⟩ | h)
              · exact ⟨c', List.mem_append_left _ h1, h2⟩
              · exact ⟨c, List.mem_append_right _ (List.mem_singleton.2 rfl), h⟩
            · rintro ⟨c', h1, h2⟩
              rcases List.mem_append.1 h1 with h | h
              · exact .inl ⟨c', h, h2⟩
              · rw [List.mem_singleton.1 h] at h2; exact .inr h2
          have HLM : Hid (itLeft wr bh it = todo'.length) := by show _ = _; rw [IterL.left HI.out, List.length_map]
          clear HM2 HM HD
          go_wp2_with fail
          go_roundw
          case rel => exact ⟨done ++ [c], todo', S', HPM, HD2, HI, HS, HM3, HC⟩
          case measure => show itLeft wr bh it < itLeft _ bh it; rw [HLM.out, HLE.out]; omega
end Go.Proofs.YtclgfcjcpbiadaaGreatDoor

namespace Go.Proofs.YtclgfcjcpbiadaaGreatDoor
open Go.ChangeShapes Go.WideShapes Go.ChangeAt Go.RowKit

/-- the closure of All answers whether a ref may be next -/
theorem next_pred {L out : List ChD} {S Sd : List Rf} (hn : (refsOf L).Nodup) (he : ∀ c ∈ L, c.err = 0) (hs : ∀ r ∈ S, r ∈ refsOf L) (hm : ∀ r, r ∈ Sd ↔ r ∈ refsOf out) {g bh q q2 m : Nat} {V2 V3 : Value} {w : World} (hB : HB w g bh V2 V3 L) (hin : ∀ c ∈ L, ChIn (fun k => k < w.heap.size) w c)
    (hq : w.cell? ⟨q, 0, none⟩ = some (.pointer (some ⟨g, 0, none⟩))) (hql : q < w.heap.size) (hS : SetV w q2 m Sd) : PredB 47 #[.pointer (some ⟨q, 0, none⟩), .pointer (some ⟨q2, 0, none⟩)] S (mayNext L out) w := by
  intro W r hr hb
  obtain ⟨x, hx, rfl⟩ := List.mem_map.1 (hs r hr)
  have hf := findC_is hn hx
  have e : mayNext L out x.rf = x.deps.all fun d => decide (d ∈ Sd) := by
    unfold mayNext
    rw [hf]
    simp only [hm]
  rw [e]
  exact all1_any L x hf (rf_i64 (he x hx)) (err_deps (he x hx)) Sd g bh q q2 m V2 V3 W (hB.below hb) (((hin x hx).keep fun k hk => hb.block k hk).more fun k hk => Nat.lt_of_lt_of_le hk hb.size) ((World.cell?_of_block (hb.block _ hql)).trans hq) (Nat.lt_of_lt_of_le hql hb.size) (hS.below hb)
set_option maxHeartbeats 8000000 in
set_option maxRecDepth 20000 in
theorem all_any (L : List ChD) (g bh : Nat) (V2 V3 : Value) (w : World) (hB : HB w g bh V2 V3 L) (hk : Bk L) (hl : L.length ≤ 1000) (hin : ∀ c ∈ L, ChIn (fun k => k < w.heap.size) w c) :
    Calls Tryz.prog 21 #[.pointer (some ⟨g, 0, none⟩)] w fun e w' => ∃ (A : Option Addr) (c : Nat) (Lr : List ChD), e = .returned (.slice A Lr.length c) ∧ Lr.map ChD.base = (allP L).map ChD.base ∧ ChsIn (fun k => k < w'.heap.size) w' A Lr ∧ Below w.heap.size w w' := by
  have HBB := Lib.hid hB
  have HK := Lib.hid hk
  have HIN := Lib.hid hin
  have HLL := Lib.hid hl
  clear hB hk hin hl
  have hmm : ∀ (t : TypeId) (w : World), (Instr.makeMap t none).run Tryz.prog w = .ok (.map (some w.heap.size)) (w.alloc (.map #[] 0)) := fun _ _ => rfl
  have hW1 : Below w.heap.size w (w.alloc (.cells #[.pointer (some ⟨g, 0, none⟩)] 26)) := (Below.refl _ w).alloc (Nat.le_refl _) _
  have hQ1 := Blk.new w 26 #[.pointer (some ⟨g, 0, none⟩)]
  have hz1 : (w.alloc (.cells #[.pointer (some ⟨g, 0, none⟩)] 26)).heap.size = w.heap.size + 1 := by simp
  generalize hV1 : w.alloc (.cells #[.pointer (some ⟨g, 0, none⟩)] 26) = V1 at hW1 hQ1 hz1
  have hS2 : SetM (V1.alloc (.map #[] 0)) V1.heap.size [] := SetM.made V1
  have hb2 : Below V1.heap.size V1 (V1.alloc (.map #[] 0)) := (Below.refl _ V1).alloc (Nat.le_refl _) _
  have hz2 : (V1.alloc (.map #[] 0)).heap.size = V1.heap.size + 1 := by simp
  generalize hV2 : V1.alloc (.map #[] 0) = V2' at hS2 hb2 hz2
  have hQ3 := Blk.new V2' 73 #[.map (some V1.heap.size)]
  have hb3 : Below V2'.heap.size V2' (V2'.alloc (.cells #[.map (some V1.heap.size)] 73)) := (Below.refl _ V2').alloc (Nat.le_refl _) _
  generalize hV3 : V2'.alloc (.cells #[.map (some V1.heap.size)] 73) = V0 at hQ3 hb3
  have HS0 := Lib.hid (hS2.keep (hb3.block _ (MapL.lt hS2)))
  have HQ1 := Lib.hid ((hQ1.keep (hb2.block _ hQ1.lt)).keep (hb3.block _ (by rw [hz2]; have := hQ1.lt; omega)))
  have HQ4 := Lib.hid hQ3
  have HW0 : Hid (Below w.heap.size w V0) := (hW1.trans (hb2.mono (by omega))).trans (hb3.mono (by omega))
  have HSZ : Hid (w.heap.size < V0.heap.size ∧ V1.heap.size < V0.heap.size ∧ V2'.heap.size < V0.heap.size ∧ w.heap.size < V1.heap.size ∧ V1.heap.size < V2'.heap.size) := by
    have := hb3.size; have := HQ4.out.lt; show _ ∧ _; omega
  clear hW1 hQ1 hz1 hS2 hb2 hz2 hQ3 hb3
  go_enter Tryz.func21, Tryz.ntmps21
  go_upto_region 3 with fail
  clear hmm hV1 hV2 hV3
  generalize V1.heap.size = m at HS0 HQ4 HSZ ⊢
  generalize V2'.heap.size = q4 at HQ4 HSZ ⊢
  have hb0 := HBB.out.below HW0.out
  have g0 : V0.cell? ⟨g, 0, none⟩ = some (.map (some bh)) := hb0.blk.cell 0
  have b1 : V0.cell? ⟨w.heap.size, 0, none⟩ = some (.pointer (some ⟨g, 0, none⟩)) := HQ1.out.cell 0
  have C1 := rising_any (L.map kvC) bh V0 hb0.mh.kv (by rw [List.length_map]; have := HLL.out; omega)
  rw [kvC_fst] at C1
  clear hb0
  go_wp2_with fail
  go_at_call 39
  refine C1.mono ?_
  rintro e w1 ⟨A, cc, S0, rfl, hp, ha, hrow, hb⟩
  have HA0 : Hid (AllG L S0 []) := AllG.start HK.out.nodup hp ha
  have HROW : Hid (S0 = [] ∨ ∃ gS, A = some ⟨gS, 0, none⟩ ∧ V0.heap.size ≤ gS ∧ gS < w1.heap.size ∧ RefRow w1 gS S0 ∧ S0.length ≤ cc ∧ cc ≤ 9223372036854775807) := by
    rcases hrow with h | ⟨gS, h1, h2, h3, h4, h5, h6⟩
    · exact .inl h
    · exact .inr ⟨gS, h3, h1, h2, h4, h5, h6⟩
  have HS1 := Lib.hid (HS0.out.keep (hb.block _ (MapL.lt HS0.out)))
  have HR1 := Lib.hid (HQ1.out.keep (hb.block _ HQ1.out.lt))
  have HR4 := Lib.hid (HQ4.out.keep (hb.block _ HQ4.out.lt))
  have HW1 : Hid (Below w.heap.size w w1) := HW0.out.trans (hb.mono HW0.out.size)
  have HSZ1 : Hid (V0.heap.size ≤ w1.heap.size) := hb.size
  clear C1 hp ha hrow hb g0 b1 HS0 HQ1 HQ4 HW0
  have EG : ∀ args w, (callFunc 47 args).run Tryz.prog w = .ok (.enter 47 args) w := enters_of Tryz.func47 (by kernel_rfl) (Option.some_get (show Tryz.f47.body.isSome = true by kernel_rfl)).symm
  have HEG := Lib.hid EG
  have HHE : Hid (∀ c ∈ L, c.err = 0) := fun c hc => (HK.out.err c hc).1
  clear EG
  go_wp2_with fail
  go_loopw [3, 5, 6] (fun s3 s5 _ wr => ∃ (S Sd : List Rf) (out outr : List ChD) (D : Nat → Prop), s5 = .slice A S.length cc ∧ Hid (AllG L S out) ∧ Hid (outr.map ChD.base = out.map ChD.base) ∧ Hid (wr.ownsRow w1.heap.size 34 5 s3 outr.length (chsC outr)) ∧ Hid (∀ c ∈ outr, ChIn D wr c) ∧ Hid (∀ k, D k → w1.heap.size ≤ k ∧ k < wr.heap.size ∧ s3.ownBlock ≠ some k) ∧ Hid (SetM wr m Sd) ∧ Hid (∀ r, r ∈ Sd ↔ r ∈ refsOf out) ∧
      Hid (S = [] ∨ ∃ gS, A = some ⟨gS, 0, none⟩ ∧ V0.heap.size ≤ gS ∧ gS < w1.heap.size ∧ RefRow wr gS S ∧ S.length ≤ cc ∧ cc ≤ 9223372036854775807) ∧ Hid (Chg (fun k => k = m ∨ V0.heap.size ≤ k ∧ k < w1.heap.size) w1 wr)) (fun _ s5 _ _ => slen s5)
  case atStart => exact ⟨S0, [], [], [], fun _ => False, rfl, HA0, rfl, own_nil _ _ _ _, (by intro c hc; cases hc), (by intro k hk; cases hk), HS1, Lib.hid (by simp [refsOf]), HROW, Lib.hid (Chg.refl _)⟩
  case round =>
    clear HA0 HROW HS1
    obtain ⟨S, Sd, out, outr, D, rfl, HA, HBE, HO, HCH, HD, HS, HM, HROW, HC⟩ := hrel
    have HWr : Hid (Below w.heap.size w wr) := HW1.out.trans (HC.out.below HW1.out.size (fun k hk => by have := HSZ.out; omega))
    obtain ⟨n, hn⟩ : ∃ n, S.length = n := ⟨_, rfl⟩
    have HN := Lib.hid hn
    rw [hn]
    clear hn
    by_cases hn0 : n = 0
    · have HAP : Hid (allP L = out) := HA.out.done (by rw [HN.out]; exact hn0)
      obtain ⟨Ao, co, hv, -, -, hro⟩ := Reads.of_own HO.out
      have HRO : Hid (ChsIn (fun k => k < wr.heap.size) wr Ao outr) := ⟨hro.more fun k hk => (own_lt HO.out hk).2, fun c hc => (HCH.out c hc).more fun k hk => (HD.out k hk).2.1⟩
      subst hv hn0
      clear hro
      go_wp2_with fail
      go_ret
      exact ⟨Ao, co, outr, rfl, by rw [HAP.out]; exact HBE.out, HRO.out, HWr.out⟩
    · obtain ⟨k, hk, hkl⟩ := HA.out.more HK.out (by rw [HN.out]; omega)
      obtain ⟨r, hr⟩ : ∃ r, S[k]? = some r := ⟨_, List.getElem?_eq_getElem hkl⟩
      obtain ⟨x, hfx, hxL, hxr, hA2⟩ := HA.out.step HK.out hk hr
      rcases HROW.out with h | ⟨gS, hA1, hg1, hg2, hrw, hcl, hcm⟩
      · rw [h] at hkl; simp at hkl
      subst hA1
      have HG : Hid (V0.heap.size ≤ gS ∧ gS < w1.heap.size ∧ S.length ≤ cc ∧ cc ≤ 9223372036854775807) := ⟨hg1, hg2, hcl, hcm⟩
      have HRW := Lib.hid hrw
      have HA2 := Lib.hid hA2
      have HXL := Lib.hid hxL
      have HXR := Lib.hid hxr
      have HR := Lib.hid hr
      have hkn : k < n := by rw [← HN.out]; exact hkl
      have HQr1 := Lib.hid (HR1.out.keep (HC.out.block _ HR1.out.lt (by have := HSZ.out; omega)))
      have HQr4 := Lib.hid (HR4.out.keep (HC.out.block _ HR4.out.lt (by have := HSZ.out; omega)))
      have hsv : SetV wr q4 m Sd := ⟨HQr4.out.cell 0, HQr4.out.lt, HS.out⟩
      have C2 := indexF_any S (some ⟨gS, 0, none⟩) cc wr (hrw.reads.more fun k hk => by rw [hk]; exact Nat.lt_of_lt_of_le hg2 HC.out.size) (by have := HG.out; omega) 47 #[.pointer (some ⟨w.heap.size, 0, none⟩), .pointer (some ⟨q4, 0, none⟩)] (mayNext L out) HEG.out
        (next_pred HK.out.nodup HHE.out (fun r hr => ((HA.out.mem r).1 hr).1) HM.out (HBB.out.below HWr.out) (fun c hc => ((HIN.out c hc).keep fun k hk => HWr.out.block k hk).more fun k hk => Nat.lt_of_lt_of_le hk HWr.out.size) (HQr1.out.cell 0) HQr1.out.lt hsv)
      have hix : idxP (mayNext L out) S = (k : Int) := by unfold idxP; rw [hk]
      rw [hix, HN.out] at C2
      clear hk hkl hfx hxL hxr hA2 hrw hcl hcm hsv hix hr HROW
      go_wp2_with fail
      go_at_call 46
      refine C2.mono ?_
      rintro e w2 ⟨rfl, hb⟩
      have HS2 := Lib.hid (HS.out.keep (hb.block _ (MapL.lt HS.out)))
      have HO2 := Lib.hid (own_below HO.out hb)
      have HCH2 : Hid (∀ c ∈ outr, ChIn D w2 c) := fun c hc => (HCH.out c hc).keep fun k hk => hb.block k (HD.out k hk).2.1
      have HD2 : Hid (∀ k, D k → w1.heap.size ≤ k ∧ k < w2.heap.size ∧ u3.ownBlock ≠ some k) := fun k hk => ⟨(HD.out k hk).1, Nat.lt_of_lt_of_le (HD.out k hk).2.1 hb.size, (HD.out k hk).2.2⟩
      have HRW2 := Lib.hid (HRW.out.keep (hb.block _ (Nat.lt_of_lt_of_le HG.out.2.1 HC.out.size)))
      have HC2 : Hid (Chg (fun k => k = m ∨ V0.heap.size ≤ k ∧ k < w1.heap.size) w1 w2) := HC.out.trans (Chg.of_below hb) fun _ _ h => h
      have HX1 := Lib.hid (HQr1.out.keep (hb.block _ HQr1.out.lt))
      have HX4 := Lib.hid (HQr4.out.keep (hb.block _ HQr4.out.lt))
      have HW2 : Hid (Below w.heap.size w w2) := HWr.out.trans (hb.mono HWr.out.size)
      clear C2 hb HS HO HCH HD HRW HC HQr1 HQr4 HWr
      have hb2 := HBB.out.below HW2.out
      have g0 : w2.cell? ⟨g, 0, none⟩ = some (.map (some bh)) := hb2.blk.cell 0
      have b1 : w2.cell? ⟨w.heap.size, 0, none⟩ = some (.pointer (some ⟨g, 0, none⟩)) := HX1.out.cell 0
      have x1 : w2.cell? ⟨gS, k * 2, none⟩ = some (.int .i64 r.1) := HRW2.out.cell1 HR.out
      have x2 : w2.cell? ⟨gS, k * 2 + 1, none⟩ = some (.int .i64 r.2) := HRW2.out.cell2 HR.out
      have hlk := (hb2.below (Below.refl _ w2).drew).mh.look (r := r) (by rw [← HXR.out]; exact rf_i64 (HHE.out x HXL.out)) false
      have hlv : lookV L r = x.v := by unfold lookV; rw [← HXR.out, findC_is HK.out.nodup HXL.out]
      rw [hlv] at hlk
      simp only [Bool.false_eq_true, if_false] at hlk
      have hxo := err_ok (HHE.out x HXL.out)
      have C3 := clone_any x w2.drew ((((HIN.out x HXL.out).keep fun k hk => HW2.out.block k hk).more fun k hk => Nat.lt_of_lt_of_le hk HW2.out.size).keep fun k hk => rfl) (by have := hxo.2.2.2; omega) (by have := hxo.2.2.1; omega) (fun o ho => by have := err_ll (HHE.out x HXL.out) o ho; omega)
      unfold ChD.v at hlk C3
      clear hb2 hlv hxo
      go_upto_region 6 with fail
      refine wp_region_move_tail 10 (u3) (by kernel_rfl) (by kernel_rfl) (fun _ _ _ h => h) (Or.inl ⟨by rfl, ?_⟩) ?_
      · (intro w; go_simp; try with_reducible rfl)
      simp only [List.take_succ_cons, List.take_zero, List.drop_succ_cons, List.drop_zero]
      go_frame
      repeat (first | (refine wpStill_want rfl (fun K hK => ?_); go_simp; refine hK _ ?_; clear hK K) | (refine wpStill_skip rfl ?_; go_frame))
      refine wpStill_nil ?_
      change wpList _ _ _ _ _ w2.drew
      have hol : outr.length ≤ 1000 := by
        have h1 := HA.out.len
        have h2 := congrArg List.length HBE.out
        have h3 := HLL.out
        simp only [List.length_map] at h2
        omega
      go_wp2_with fail
      go_at_call 35
      refine C3.mono ?_
      rintro e w3 ⟨c', rfl, hcb, hci, hb⟩
      have hb3 : Below w2.heap.size w2 w3 := (Below.refl _ w2).drew.trans hb
      have HCB := Lib.hid hcb
      have HCI : Hid (ChIn (fun k => w2.heap.size ≤ k ∧ k < w3.heap.size) w3 c') := hci
      have HS3 := Lib.hid (HS2.out.keep (hb3.block _ (MapL.lt HS2.out)))
      have HO3 := Lib.hid (own_below HO2.out hb3)
      have HCH3 : Hid (∀ c ∈ outr, ChIn D w3 c) := fun c hc => (HCH2.out c hc).keep fun k hk => hb3.block k (HD2.out k hk).2.1
      have HRW3 := Lib.hid (HRW2.out.keep (hb3.block _ (Nat.lt_of_lt_of_le HG.out.2.1 HC2.out.size)))
      have HC3 : Hid (Chg (fun k => k = m ∨ V0.heap.size ≤ k ∧ k < w1.heap.size) w1 w3) := HC2.out.trans (Chg.of_below hb3) fun _ _ h => h
      have HX3 := Lib.hid (HX4.out.keep (hb3.block _ HX4.out.lt))
      have HD3 : Hid (∀ k, D k ∨ (w2.heap.size ≤ k ∧ k < w3.heap.size) → w1.heap.size ≤ k ∧ k < w3.heap.size ∧ u3.ownBlock ≠ some k) := fun k hk => by
        rcases hk with hk | hk
        · exact ⟨(HD2.out k hk).1, Nat.lt_of_lt_of_le (HD2.out k hk).2.1 hb3.size, (HD2.out k hk).2.2⟩
        · exact ⟨Nat.le_trans HC2.out.size hk.1, hk.2, fun e => by have := (own_lt HO2.out e).2; omega⟩
      clear C3 hcb hci hb hb3 g0 b1 x1 x2 hlk HX1 HX4 HS2 HO2 HCH2 HD2 HRW2 HC2 HW2
      obtain ⟨i0, hi, hz0, hz1, hz2⟩ := info_parts infoCh
      have hws : w1.heap.size ≤ w3.heap.size := HC3.out.size
      go_wp2_with (at_builtin; refine wpList_append_any _ rfl (.tmp 19) (.tmp 30) _ rfl (w1.heap.size) 34 i0 _ 5 72 Tryz.underlying22 hi hz0 hz1 hz2 rfl (by omega) (_) (outr.length) (chsC outr) rfl (HO3.out.alloc _) _ (some ⟨w3.heap.size, 0, none⟩) (1) (1) (ChD.cells c') rfl ((blk_reads (by exact Blk.new w3 _ #[.int .i64 c'.a, .int .i64 c'.s, .int .i64 c'.st, .slice c'.DA c'.deps.length c'.DC, .slice c'.OA c'.ops.length c'.OC]) (n := 5) rfl)) ((by intro u hu; exact chsC_one [c'] u (by simpa [chsC] using hu))) ?c1 ?c2 ?c3 ?_)
      try case c1 => simp only [maxLen]; omega
      try case c2 => omega
      try case c3 => simp; omega
      intro v4 w4 ho4 hg4 hat4
      have hown : ∀ k, u3.ownBlock = some k → w1.heap.size ≤ k ∧ k < w3.heap.size := fun k hk => own_lt HO3.out hk
      have hk4 : ∀ k, k < w3.heap.size → u3.ownBlock ≠ some k → w4.heap[k]? = w3.heap[k]? := fun k hk hne => (hg4.block k (by simp; omega) (fun e => hne e.symm)).trans (Below.heap_alloc _ _ _ hk)
      have hlo : ∀ k, k < w1.heap.size → w4.heap[k]? = w3.heap[k]? := fun k hk => hk4 k (by omega) (fun e => by have := hown k e; omega)
      have HSG : Hid (w3.heap.size < w4.heap.size) := by have := hg4.size; rw [World.size_alloc] at this; show _ < _; omega
      have HO4 : Hid (w4.ownsRow w1.heap.size 34 5 v4 (outr ++ [c']).length (chsC (outr ++ [c']))) := by show World.ownsRow _ _ _ _ _ _ _; rw [List.length_append, chsC_append]; simpa [chsC] using ho4
      have HD4 : Hid (∀ k, D k ∨ (w2.heap.size ≤ k ∧ k < w3.heap.size) → w1.heap.size ≤ k ∧ k < w4.heap.size ∧ v4.ownBlock ≠ some k) := fun k hk => by
        have h3 := HD3.out k hk
        refine ⟨h3.1, Nat.lt_trans h3.2.1 HSG.out, fun e => ?_⟩
        rcases hat4 with h | h
        · rw [h] at e; exact h3.2.2 e
        · rw [h] at e; have h7 := Option.some.inj e; exact absurd h3.2.1 (by rw [← h7]; exact Nat.not_lt.2 (Nat.le_succ _))
      have HCH4 : Hid (∀ c ∈ outr ++ [c'], ChIn (fun k => D k ∨ (w2.heap.size ≤ k ∧ k < w3.heap.size)) w4 c) := fun c hc => by
        have hkp : Keeps (fun k => D k ∨ (w2.heap.size ≤ k ∧ k < w3.heap.size)) w3 w4 := fun k hk => hk4 k (HD3.out k hk).2.1 (HD3.out k hk).2.2
        rcases List.mem_append.1 hc with h | h
        · exact ((HCH3.out c h).more fun k hk => .inl hk).keep hkp
        · rw [List.mem_singleton.1 h]; exact (HCI.out.more fun k hk => .inr hk).keep hkp
      have hmlt : m < w1.heap.size := by have := HSZ.out; have := HSZ1.out; omega
      have HS4 := Lib.hid (HS3.out.keep (hlo m hmlt))
      have HRW4 := Lib.hid (HRW3.out.keep (hlo gS HG.out.2.1))
      have HX5 := Lib.hid (HX3.out.keep (hlo q4 (by have := HSZ.out; have := HSZ1.out; omega)))
      have HC4 : Hid (Chg (fun k => k = m ∨ V0.heap.size ≤ k ∧ k < w1.heap.size) w1 w4) := (HC3.out.alloc _).grown hg4 (fun q hq => .inr (hown q hq).1)
      clear ho4 hg4 hat4 hown hk4 hlo HS3 HO3 HCH3 HRW3 HC3 HX3 HD3 HCI hws hi hz0 hz1 hz2
      have v0 : w4.cell? ⟨q4, 0, none⟩ = some (.map (some m)) := HX5.out.cell 0
      have x1 : w4.cell? ⟨gS, k * 2, none⟩ = some (.int .i64 r.1) := HRW4.out.cell1 HR.out
      have x2 : w4.cell? ⟨gS, k * 2 + 1, none⟩ = some (.int .i64 r.2) := HRW4.out.cell2 HR.out
      go_upto_region 7 with fail
      refine wp_region_still_tail 5 (by kernel_rfl) (by kernel_rfl) ?_
      simp only [List.take_succ_cons, List.take_zero, List.drop_succ_cons, List.drop_zero]
      repeat (first | (refine wpStill_want rfl (fun K hK => ?_); go_simp; refine hK _ ?_; clear hK K) | (refine wpStill_skip rfl ?_; go_frame))
      refine wpStill_nil ?_
      change wpList _ _ _ _ _ w4.drew
      have HSN : Hid (Sd.length < maxLen) := by
        have h1 := nodup_le HS4.out.nodup (fun q hq => (HM.out q).1 hq)
        have h2 : (refsOf out).length = out.length := by simp [refsOf]
        have h3 := HA.out.len
        have h4 := HLL.out
        show _ < _
        simp only [maxLen]
        omega
      have HS6 : Hid (SetM w4.drew m Sd) := HS4
      have HRW6 : Hid (RefRow w4.drew gS S) := HRW4.out.keep (w' := w4.drew) rfl
      have HO6 : Hid (w4.drew.ownsRow w1.heap.size 34 5 v4 (outr ++ [c']).length (chsC (outr ++ [c']))) := own_below HO4.out (Below.refl _ w4).drew
      have HCH6 : Hid (∀ c ∈ outr ++ [c'], ChIn (fun k => D k ∨ (w2.heap.size ≤ k ∧ k < w3.heap.size)) w4.drew c) := fun c hc => (HCH4.out c hc).keep fun k hk => rfl
      have HD6 : Hid (∀ k, D k ∨ (w2.heap.size ≤ k ∧ k < w3.heap.size) → w1.heap.size ≤ k ∧ k < w4.drew.heap.size ∧ v4.ownBlock ≠ some k) := HD4
      have HC6 : Hid (Chg (fun k => k = m ∨ V0.heap.size ≤ k ∧ k < w1.heap.size) w1 w4.drew) := HC4.out.drew
      clear HS4 HRW4 HO4 HCH4 HD4 HC4 HSG v0 x1 x2 HX5
      generalize w4.drew = w5 at HS6 HRW6 HO6 HCH6 HD6 HC6 ⊢
      have hst := HS6.out.add (r := r) (by rw [← HXR.out]; exact rf_i64 (HHE.out x HXL.out)) HSN.out
      go_wp2_with (refine wpL_store _ rfl (.tmp 32) (.tmp 36) (.const (.bool true)) 73 (.inl rfl) m (.agg #[.int .i64 r.1, .int .i64 r.2]) (.bool true) rfl rfl rfl _ hst ?_; rintro w6 ⟨⟨Sd2, hs6, hm6, -⟩, ht6⟩)
      have hg6 := ht6.grown
      have HS7 := Lib.hid hs6
      have HM7 : Hid (∀ q, q ∈ Sd2 ↔ q ∈ refsOf (out ++ [x])) := fun q => by
        rw [hm6 q, HM.out q, refsOf_append, List.mem_append]
        simp [refsOf, HXR.out]
      have hk6 : ∀ k, k < w5.heap.size → k ≠ m → w6.heap[k]? = w5.heap[k]? := fun k hk hne => hg6.block k hk (fun e => hne (Option.some.inj e))
      have HRW7 := Lib.hid (HRW6.out.keep (hk6 gS (Nat.lt_of_lt_of_le HG.out.2.1 HC6.out.size) (fun e => by have := HG.out; have := HSZ.out; omega)))
      have HO7 : Hid (w6.ownsRow w1.heap.size 34 5 v4 (outr ++ [c']).length (chsC (outr ++ [c']))) := own_keep HO6.out (fun k hk => hk6 k (own_lt HO6.out hk).2 (fun e => by have := (own_lt HO6.out hk).1; omega))
      have HCH7 : Hid (∀ c ∈ outr ++ [c'], ChIn (fun k => D k ∨ (w2.heap.size ≤ k ∧ k < w3.heap.size)) w6 c) := fun c hc => (HCH6.out c hc).keep fun k hk => hk6 k (HD6.out k hk).2.1 (fun e => by have := (HD6.out k hk).1; omega)
      have HD7 : Hid (∀ k, D k ∨ (w2.heap.size ≤ k ∧ k < w3.heap.size) → w1.heap.size ≤ k ∧ k < w6.heap.size ∧ v4.ownBlock ≠ some k) := fun k hk => ⟨(HD6.out k hk).1, Nat.lt_of_lt_of_le (HD6.out k hk).2.1 hg6.size, (HD6.out k hk).2.2⟩
      have HC7 := Lib.hid (HC6.out.grown hg6 (fun q hq => by cases hq; exact .inl (.inl rfl)))
      clear hst hs6 hm6 ht6 hg6 hk6 HS6 HRW6 HO6 HCH6 HD6 HC6
      obtain ⟨m', hm'⟩ : ∃ m', k + 1 + m' = n := ⟨n - (k + 1), by omega⟩
      have C5 := delete_any gS cc k n m' S w6 HRW7.out HN.out hm' (by have := HA.out.len; have := HLL.out; have := HN.out; omega) (by have := HG.out.2.2.1; rw [HN.out] at this; exact this) HG.out.2.2.2
      try simp only [Act.put, List.setIfInBounds_toArray, List.set_cons_zero, List.set_cons_succ]
      have hwk : wrap64 ((k : Int) + 1) = (k : Int) + 1 := by have := HA.out.len; have := HLL.out; have := HN.out; simp only [wrap64]; omega
      go_wp2_with fail
      go_at_call 50
      rw [hwk]
      refine C5.mono ?_
      rintro e w7 ⟨rfl, hrw, hch⟩
      have hgm : gS ≠ m := fun e => by have := HG.out; have := HSZ.out; omega
      have HS8 := Lib.hid (HS7.out.keep (hch.block _ (MapL.lt HS7.out) (fun e => hgm e.symm)))
      have HO8 : Hid (w7.ownsRow w1.heap.size 34 5 v4 (outr ++ [c']).length (chsC (outr ++ [c']))) := own_keep HO7.out (fun k hk => hch.block k (own_lt HO7.out hk).2 (fun e => by have := (own_lt HO7.out hk).1; have := HG.out; omega))
      have HCH8 : Hid (∀ c ∈ outr ++ [c'], ChIn (fun k => D k ∨ (w2.heap.size ≤ k ∧ k < w3.heap.size)) w7 c) := fun c hc => (HCH7.out c hc).keep fun k hk => hch.block k (HD7.out k hk).2.1 (fun e => by have := (HD7.out k hk).1; have := HG.out; omega)
      have HD8 : Hid (∀ k, D k ∨ (w2.heap.size ≤ k ∧ k < w3.heap.size) → w1.heap.size ≤ k ∧ k < w7.heap.size ∧ v4.ownBlock ≠ some k) := fun k hk => ⟨(HD7.out k hk).1, Nat.lt_of_lt_of_le (HD7.out k hk).2.1 hch.size, (HD7.out k hk).2.2⟩
      have HC8 : Hid (Chg (fun k => k = m ∨ V0.heap.size ≤ k ∧ k < w1.heap.size) w1 w7) := HC7.out.trans hch fun i _ e => Or.inr (by have e : i = gS := e; have := HG.out; omega)
      have HLN : Hid ((S.eraseIdx k).length = k + m') := by show _ = _; rw [List.length_eraseIdx_of_lt (by rw [HN.out]; omega), HN.out]; omega
      have HB8 : Hid ((outr ++ [c']).map ChD.base = (out ++ [x]).map ChD.base) := by show _ = _; rw [List.map_append, List.map_append, HBE.out]; simp [HCB.out]
      have HROW8 : Hid (S.eraseIdx k = [] ∨ ∃ gS', some (⟨gS, 0, none⟩ : Addr) = some ⟨gS', 0, none⟩ ∧ V0.heap.size ≤ gS' ∧ gS' < w1.heap.size ∧ RefRow w7 gS' (S.eraseIdx k) ∧ (S.eraseIdx k).length ≤ cc ∧ cc ≤ 9223372036854775807) :=
        .inr ⟨gS, rfl, HG.out.1, HG.out.2.1, hrw, by rw [HLN.out]; have := HG.out.2.2.1; rw [HN.out] at this; omega, HG.out.2.2.2⟩
      have hlt : k + m' < n := by omega
      clear C5 hrw hch HS7 HM HRW7 HO7 HCH7 HD7 HC7 HA hgm hm'
      go_wp2_with fail
      go_roundw
      case rel => exact ⟨S.eraseIdx k, Sd2, out ++ [x], outr ++ [c'], _, by rw [HLN.out], HA2, HB8, HO8, HCH8, HD8, HS8, HM7, HROW8, HC8⟩
      case measure => show k + m' < n; exact hlt
end Go.Proofs.YtclgfcjcpbiadaaGreatDoor

namespace Go.Proofs.YtclgfcjcpbiadaaGreatDoor
open Go.ChangeShapes Go.WideShapes Go.ChangeAt Go.RowKit

/-- the program's book, all of whose blocks meet P -/
structure PBD (P : Nat → Prop) (w : World) (g bh bw bb : Nat) (X : List (ChD × Nat × List Rf)) (W : List ChD) : Prop where
  pb : PB w g bh bw bb X W
  pg : P g ∧ P bh ∧ P bw ∧ P bb
  px : ∀ x ∈ X, P x.2.1 ∧ ChIn P w x.1
  pw : ∀ c ∈ W, ChIn P w c
theorem PBD.more {P P' : Nat → Prop} {w : World} {g bh bw bb : Nat} {X : List (ChD × Nat × List Rf)} {W : List ChD} (h : PBD P w g bh bw bb X W) (hp : ∀ k, P k → P' k) : PBD P' w g bh bw bb X W :=
  ⟨h.pb, ⟨hp _ h.pg.1, hp _ h.pg.2.1, hp _ h.pg.2.2.1, hp _ h.pg.2.2.2⟩, fun x hx => ⟨hp _ (h.px x hx).1, (h.px x hx).2.more hp⟩, fun c hc => (h.pw c hc).more hp⟩
/-- blocks that do not meet P turn -/
theorem PBD.keep {P : Nat → Prop} {w w' : World} {g bh bw bb : Nat} {X : List (ChD × Nat × List Rf)} {W : List ChD} (h : PBD P w g bh bw bb X W) (hs : w.heap.size ≤ w'.heap.size) (hk : ∀ k, P k → k < w.heap.size → w'.heap[k]? = w.heap[k]?) : PBD P w' g bh bw bb X W := by
  have hkk : ∀ {c : ChD}, ChIn P w c → ChIn (NF w bh bw bb) w c → ChIn (fun k => P k ∧ NF w bh bw bb k) w' c := fun h1 h2 => (h1.both h2).keep fun k hk' => hk k hk'.1 hk'.2.1
  refine ⟨⟨h.pb.blk.keep (hk _ h.pg.1 h.pb.blk.lt), MapL.keep h.pb.mh (hk _ h.pg.2.1 (MapL.lt h.pb.mh)), MapL.keep h.pb.mw (hk _ h.pg.2.2.1 (MapL.lt h.pb.mw)), MapL.keep h.pb.mb (hk _ h.pg.2.2.2 (MapL.lt h.pb.mb)), h.pb.ne, fun x hx => ?_, fun x hx => ?_, fun c hc => ?_⟩, h.pg, fun x hx => ⟨(h.px x hx).1, ?_⟩, fun c hc => ?_⟩
  · obtain ⟨a1, a2, a3⟩ := h.pb.sets x hx
    exact ⟨a1.keep (hk _ (h.px x hx).1 a2.1), a2.more hs, a3⟩
  · exact (hkk (h.px x hx).2 (h.pb.inL x hx)).more fun k hk => hk.2.more hs
  · exact (hkk (h.pw c hc) (h.pb.inW c hc)).more fun k hk => hk.2.more hs
  · exact (hkk (h.px x hx).2 (h.pb.inL x hx)).more fun k hk => hk.1
  · exact (hkk (h.pw c hc) (h.pb.inW c hc)).more fun k hk => hk.1
/-- behind the program's Take -/
theorem PBD.take {P : Nat → Prop} {w w' : World} {g bh bw bb : Nat} {X X' : List (ChD × Nat × List Rf)} {W W' : List ChD} (h : PBD P w g bh bw bb X W) (h' : PB w' g bh bw bb X' W') (hc : Chg (fun k => k = bh ∨ k = bw ∨ k = bb) w w')
    (hx : ∀ x ∈ X', x ∈ X ∨ w.heap.size ≤ x.2.1) (hy : ∀ y, y ∈ X'.map Prod.fst ∨ y ∈ W' → y ∈ X.map Prod.fst ∨ y ∈ W ∨ ChIn (fun k => w.heap.size ≤ k) w' y) : PBD (fun k => P k ∨ w.heap.size ≤ k ∧ k < w'.heap.size) w' g bh bw bb X' W' := by
  have old : ∀ {c : ChD}, ChIn P w c → ChIn (NF w bh bw bb) w c → ChIn (fun k => P k ∨ w.heap.size ≤ k ∧ k < w'.heap.size) w' c := fun h1 h2 =>
    ((h1.both h2).keep fun k hk => hc.block k hk.2.1 (fun e => e.elim hk.2.2.1 fun e => e.elim hk.2.2.2.1 hk.2.2.2.2)).more fun k hk => .inl hk.1
  have each : ∀ y, y ∈ X'.map Prod.fst ∨ y ∈ W' → ChIn (NF w' bh bw bb) w' y → ChIn (fun k => P k ∨ w.heap.size ≤ k ∧ k < w'.heap.size) w' y := fun y hm hn => by
    rcases hy y hm with h1 | h1 | h1
    · obtain ⟨x, hx, rfl⟩ := List.mem_map.1 h1
      exact old (h.px x hx).2 (h.pb.inL x hx)
    · exact old (h.pw y h1) (h.pb.inW y h1)
    · exact (h1.both hn).more fun k hk => .inr ⟨hk.1, hk.2.1⟩
  refine ⟨h', ⟨.inl h.pg.1, .inl h.pg.2.1, .inl h.pg.2.2.1, .inl h.pg.2.2.2⟩, fun x hm => ⟨?_, each _ (.inl (List.mem_map_of_mem hm)) (h'.inL x hm)⟩, fun c hm => each _ (.inr hm) (h'.inW c hm)⟩
  rcases hx x hm with h1 | h1
  · exact .inl (h.px x h1).1
  · exact .inr ⟨h1, (h'.sets x hm).2.1.1⟩
/-- both books, and what they stand for -/
structure Both (B : Nat) (D F : Nat → Prop) (w : World) (g bh bw bb gs : Nat) (X : List (ChD × Nat × List Rf)) (W L Wr : List ChD) : Prop where
  pbd : PBD (fun k => B ≤ k ∧ k < w.heap.size ∧ ¬ F k) w g bh bw bb X W
  bm : ∃ VL VW, BM D F w gs L Wr VL VW
  hD : ∀ k, D k → k < B
  hF : ∀ k, F k → B ≤ k
  size : B ≤ w.heap.size
  inv : Inv L Wr
  same : X.map (fun x => x.1.base) = L.map ChD.base
  sameW : W.map ChD.base = Wr.map ChD.base
section
variable {B : Nat} {D F : Nat → Prop} {w w' : World} {g bh bw bb gs : Nat} {X : List (ChD × Nat × List Rf)} {W L Wr : List ChD}
theorem Both.below (h : Both B D F w g bh bw bb gs X W L Wr) (hb : Below w.heap.size w w') : Both B D F w' g bh bw bb gs X W L Wr := by
  obtain ⟨VL, VW, hm⟩ := h.bm
  exact ⟨(h.pbd.keep hb.size fun k _ hk => hb.block k hk).more fun k hk => ⟨hk.1, Nat.lt_of_lt_of_le hk.2.1 hb.size, hk.2.2⟩, ⟨VL, VW, hm.below hb⟩, h.hD, h.hF, Nat.le_trans h.size hb.size, h.inv, h.same, h.sameW⟩
/-- a book whose changes are another one's, wherever they lie, keeps to what the other one keeps to -/
theorem mapb (X : List (ChD × Nat × List Rf)) : X.map (fun x => x.1.base) = (X.map Prod.fst).map ChD.base := by rw [List.map_map]; rfl
end
end Go.Proofs.YtclgfcjcpbiadaaGreatDoor
