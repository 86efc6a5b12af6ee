/- The frame of a law's row, whatever its parameters: the call answers true, and below the heap's old size nothing has turned. -/
import Derived.Test.YtclgfcjcpbiadaaGreatDoorRows
import Derived.WalkKit
import Derived.ProofKit
import Derived.OpenShut
import Derived.Below
import Derived.Carry
import Derived.ChangeSame
import Derived.Deep.Slices
import Derived.Laws.OwnMore
import Derived.Deep.AppendLies
import Derived.Deep.Draws
import Derived.Laws.Rows
import Derived.Maps.AppendAt
import Derived.RegionTactic
import Derived.OwnWalk
import Derived.Laws.BitsAllLaws
import Derived.Laws.BitsLemmas
import Derived.Laws.Bits64
import Derived.Laws.IdiomStrings
import Derived.Laws.BytesArg
import Derived.WalkLawsBesides
import Derived.WalkSpells
import Derived.BigQuiet
import Derived.Deep.QuietTactic
import Derived.Deep.RegionHeld3
import Derived.Lib.Hide
import Derived.LoopTactic
import Derived.StillTailTactics
import Derived.Deep.DeepFit
set_option linter.unusedVariables false
set_option linter.unusedSimpArgs false
namespace Go.Proofs.YtclgfcjcpbiadaaGreatDoor
open Go.ChangeShapes Go.WideShapes Go.ChangeAt Go.RowKit Go.Deep
section
variable {H : Type} {enc : TypeId × Value → H} {P : Program}

theorem trodAll_below (hl : laidOutB P = true) {W W' : World} (hb : Below W.heap.size W W') (sp : Nat → Bool) :
    ∀ (ts : List TypeId) (vs : List Value) (ds : List (DataW H)) (ps : List MemPlace), (∀ t ∈ ts, P.readableRec t = true ∧ t < P.types.size) →
      DataW.TrodAll enc P W 0 (fun _ => true) true ts vs ds ps → (∀ x ∈ ps, x.block < W.heap.size) → (∀ x ∈ ps, sp x.block = true) → DataW.TrodAll enc P W' 0 sp true ts vs ds ps
  | [], vs, ds, ps, _, h, _, _ => by
    obtain ⟨rfl, rfl, rfl⟩ := trodAll_nil h
    exact trodAll_mk0
  | t :: ts, vs, ds, ps, hr, h, hlt, hs => by
    obtain ⟨v, vs', d, ds', p, q, rfl, rfl, rfl, h1, h2⟩ := trodAll_cons h
    have ht := hr t (by simp)
    refine trodAll_cons_mk (WideElems.Trod_stays hl ht.1 ht.2 h1 (fun x hx => hb.same (hlt x (by simp [hx]))) (fun x hx => hs x (by simp [hx]))) ?_
    exact trodAll_below hl hb sp ts vs' ds' q (fun t' h' => hr t' (by simp [h'])) h2 (fun x hx => hlt x (by simp [hx])) (fun x hx => hs x (by simp [hx]))

theorem post_of_below {f : Func} {s : ChangeSpec} {apart fresh handsOn again : Bool} {W W' : World} {args : Array Value} {v : Value} {ds gs : List (DataW H)} {before pa pv : List MemPlace}
    (hW : DataW.Whole enc P f.params.toList s.vars apart W args.toList ds gs before)
    (hres : ∀ (b : Nat) (sp : Nat → Bool) (hd : Bool), DataW.TrodAll enc P W' b sp hd f.resultTypes.toList (v.resultList f.resultTypes.size) (s.fn H (ds ++ gs)).results [])
    (hargs : ∀ sp : Nat → Bool, (∀ p ∈ before, sp p.block = true) → DataW.TrodAll enc P W' 0 sp true f.params.toList args.toList (s.fn H (ds ++ gs)).args pa)
    (hvars : ∀ sp : Nat → Bool, (∀ p ∈ before, sp p.block = true) → DataW.TrodVars enc P W' sp s.vars (s.fn H (ds ++ gs)).vars pv)
    (hps : before = pa ++ pv) (hb : Below W.heap.size W W')
    (hok : ∀ (j : Nat) (t : TypeId) (r : Value), f.resultTypes[j]? = some t → (v.resultList f.resultTypes.size)[j]? = some r → Value.okWide P W' .any 0 t r) :
    s.post enc P f apart fresh handsOn again W args v W' := by
  have hlt : ∀ p ∈ before, p.block < W.heap.size := fun p hp => hW.lt p hp
  have hold : ∀ p ∈ before, (fun b => decide (b < W.heap.size)) p.block = true := fun p hp => by simpa using hlt p hp
  refine ⟨ds, gs, before, [], pa, pv, hW, hres _ _ _, hargs _ hold, hvars _ hold, World.keptBut_mono (fun p hp => ⟨hp, ?_⟩) (hb.frame (· ∈ before)), fun _ => ?_⟩
  · rw [hps, List.mem_append] at hp
    exact Or.inr hp
  · obtain ⟨_, _, _, _, _, hz, hn⟩ := hW
    refine ⟨hok, _, _, ([] ++ pa) ++ pv, ⟨[] ++ pa, pv, trodAll_append (hargs _ (fun _ _ => rfl)) (hres _ _ _), hvars _ (fun _ _ => rfl), rfl, ?_, ?_⟩, ?_⟩
    · intro b off hp
      have hin : MemPlace.cell b off ∈ before := by rw [hps]; simpa using hp
      rw [hb.frozen (hlt _ hin)]
      exact hz b off hin
    · intro ha
      have := hn ha
      rw [hps] at this
      simpa using this
    · intro p hp _
      rw [hps]
      simpa using hp

/-- what a law's row asks behind the call -/
theorem law_post {f : Func} {s : ChangeSpec} {apart fresh handsOn again : Bool} {W W' : World} {args : Array Value} {ds gs : List (DataW H)} {before : List MemPlace} {tb : TypeId}
    (hl : laidOutB P = true) (hread : (f.params.toList.all fun t => P.readableRec t && decide (t < P.types.size)) = true) (hres : f.resultTypes = #[tb]) (htb : P.underlying tb = some .bool)
    (hvars : s.vars = []) (hs : (s.fn H ds).results = [.lit (.bool true)] ∧ (s.fn H ds).args = ds ∧ (s.fn H ds).vars = [])
    (hW : DataW.Whole enc P f.params.toList s.vars apart W args.toList ds gs before) (hb : Below W.heap.size W W') :
    ∃ v, Ending.returned (.bool true) = .returned v ∧ s.post enc P f apart fresh handsOn again W args v W' := by
  have hW' := hW
  obtain ⟨p, q, hA, hV, rfl, hz, hn⟩ := hW
  rw [hvars] at hV
  obtain ⟨rfl, rfl⟩ := trodVars_none hV
  refine ⟨_, rfl, post_of_below (pa := p) (pv := []) hW' ?_ ?_ ?_ rfl hb ?_⟩
  · intro b sp hd
    rw [List.append_nil, hs.1, hres]
    exact trodAll_cons_mk (shut_bool htb true) trodAll_mk0
  · intro sp hsp
    rw [List.append_nil, hs.2.1]
    refine trodAll_below hl hb sp _ _ _ _ (fun t ht => ?_) hA (fun x hx => hW'.lt x (by simp [hx])) (fun x hx => hsp x (by simp [hx]))
    have := List.all_eq_true.1 hread t ht
    simpa using this
  · intro sp _
    rw [List.append_nil, hs.2.2, hvars]
    rfl
  · exact ok_one hres rfl (okWide_bool_mk htb true)

end

theorem own : ownKnob Tryz.prog.godebug = none := by kernel_rfl
theorem laidOut : laidOutB Tryz.prog = true := by kernel_rfl
end Go.Proofs.YtclgfcjcpbiadaaGreatDoor

namespace Go.Proofs.YtclgfcjcpbiadaaGreatDoor
open Go.RowKit

/-! what stays -/
def Keeps (D : Nat → Prop) (w w' : World) : Prop := ∀ k, D k → w'.heap[k]? = w.heap[k]?
theorem Keeps.refl {D : Nat → Prop} {w : World} : Keeps D w w := fun _ _ => rfl
theorem Keeps.trans {D : Nat → Prop} {a b c : World} (h : Keeps D a b) (k : Keeps D b c) : Keeps D a c := fun i hi => (k i hi).trans (h i hi)
theorem Keeps.mono {D D' : Nat → Prop} {w w' : World} (h : Keeps D w w') (hd : ∀ k, D' k → D k) : Keeps D' w w' := fun i hi => h i (hd i hi)
theorem Keeps.drew {D : Nat → Prop} {a w : World} (h : Keeps D a w) : Keeps D a w.drew := h
theorem Keeps.drewN {D : Nat → Prop} {a w : World} (h : Keeps D a w) (n : Nat) : Keeps D a (w.drewN n) := h
theorem Keeps.cell {D : Nat → Prop} {w w' : World} (h : Keeps D w w') {p : Addr} (hp : D p.block) : w'.cell? p = w.cell? p := World.cell?_of_block (w := w) (h p.block hp)
theorem Keeps.frozen {D : Nat → Prop} {w w' : World} (h : Keeps D w w') {p : Addr} (hp : D p.block) : w'.frozen? p = w.frozen? p := World.frozen?_of_block (w := w) (h p.block hp)
theorem Keeps.alloc {D : Nat → Prop} {a w : World} (h : Keeps D a w) (hD : ∀ k, D k → k < w.heap.size) (o : Obj) : Keeps D a (w.alloc o) := fun k hk => (Below.heap_alloc w o k (hD k hk)).trans (h k hk)

/-- only the blocks in M, and new ones, have turned -/
structure Chg (M : Nat → Prop) (w w' : World) : Prop where
  os : w'.os = w.os
  tape : w'.tape = w.tape
  output : w'.output = w.output
  size : w.heap.size ≤ w'.heap.size
  block : ∀ k, k < w.heap.size → ¬ M k → w'.heap[k]? = w.heap[k]?
theorem Chg.refl {M : Nat → Prop} (w : World) : Chg M w w := ⟨rfl, rfl, rfl, Nat.le_refl _, fun _ _ _ => rfl⟩
theorem Chg.trans {M M' : Nat → Prop} {a b c : World} (h : Chg M a b) (k : Chg M' b c) (hm : ∀ i, i < a.heap.size → M' i → M i) : Chg M a c :=
  ⟨k.os.trans h.os, k.tape.trans h.tape, k.output.trans h.output, Nat.le_trans h.size k.size, fun i hi hn => (k.block i (Nat.lt_of_lt_of_le hi h.size) (fun e => hn (hm i hi e))).trans (h.block i hi hn)⟩
theorem Chg.mono {M M' : Nat → Prop} {a b : World} (h : Chg M a b) (hm : ∀ i, i < a.heap.size → M i → M' i) : Chg M' a b :=
  ⟨h.os, h.tape, h.output, h.size, fun i hi hn => h.block i hi (fun e => hn (hm i hi e))⟩
theorem Chg.drew {M : Nat → Prop} {a w : World} (h : Chg M a w) : Chg M a w.drew := ⟨h.os, h.tape, h.output, h.size, h.block⟩
theorem Chg.alloc {M : Nat → Prop} {a w : World} (h : Chg M a w) (o : Obj) : Chg M a (w.alloc o) :=
  ⟨h.os, h.tape, h.output, Nat.le_trans h.size (by simp), fun i hi hn => (Below.heap_alloc w o i (Nat.lt_of_lt_of_le hi h.size)).trans (h.block i hi hn)⟩
theorem Chg.setCell {M : Nat → Prop} {a w : World} (h : Chg M a w) {p : Addr} (hp : M p.block ∨ a.heap.size ≤ p.block) (u : Value) : Chg M a (w.setCell p u) :=
  ⟨h.os, h.tape, h.output, by simpa [World.setCell] using h.size, fun i hi hn => (Below.heap_setCell w p u i (by
    rintro rfl
    rcases hp with hp | hp
    · exact hn hp
    · omega)).trans (h.block i hi hn)⟩
theorem Chg.grown {M : Nat → Prop} {a w w' : World} {row : Option Nat} (h : Chg M a w) (hg : w.grownBy w' row) (hr : ∀ g, row = some g → M g ∨ a.heap.size ≤ g) : Chg M a w' :=
  ⟨hg.os.trans h.os, hg.tape.trans h.tape, hg.output.trans h.output, Nat.le_trans h.size hg.size, fun i hi hn => (hg.block i (Nat.lt_of_lt_of_le hi h.size) (fun e => by
    rcases hr i e.symm with h1 | h1
    · exact hn h1
    · omega)).trans (h.block i hi hn)⟩
theorem Chg.of_below {w w' : World} (h : Below w.heap.size w w') {M : Nat → Prop} : Chg M w w' := ⟨h.os, h.tape, h.output, h.size, fun k hk _ => h.block k hk⟩
theorem Chg.below {w w' : World} {M : Nat → Prop} (h : Chg M w w') {B : Nat} (hB : B ≤ w.heap.size) (hM : ∀ k, M k → B ≤ k) : Below B w w' :=
  ⟨h.os, h.tape, h.output, h.size, fun k hk => h.block k (by omega) (fun e => by have := hM k e; omega)⟩
theorem Chg.keeps {M D : Nat → Prop} {w w' : World} (h : Chg M w w') (hd : ∀ k, D k → k < w.heap.size ∧ ¬ M k) : Keeps D w w' := fun k hk => h.block k (hd k hk).1 (hd k hk).2
theorem Below.keeps {B : Nat} {w w' : World} (h : Below B w w') : Keeps (· < B) w w' := fun k hk => h.block k hk

theorem block_of_add (a : Addr) (n : Nat) : (a.add n).block = a.block := by unfold Addr.add; split <;> rfl
theorem add_of_add (a : Addr) (i j : Nat) : (a.add i).add j = a.add (i + j) := by
  unfold Addr.add
  by_cases hi : i = 0 <;> by_cases hj : j = 0 <;> simp [hi, hj, Nat.add_assoc]

/-! a slice '.slice A n c' that reads as the cells xs ('size' cells an element), in blocks of D -/
def Reads (D : Nat → Prop) (w : World) (size : Nat) (A : Option Addr) (n : Nat) (xs : List Value) : Prop :=
  xs.length = n * size ∧ (0 < n → ∃ ad, A = some ad ∧ D ad.block ∧ ∀ j u, xs[j]? = some u → w.cell? (ad.add j) = some u)
section
variable {D D' : Nat → Prop} {w w' : World} {size n : Nat} {A : Option Addr} {xs : List Value}
theorem Reads.none_ {A : Option Addr} : Reads D w size A 0 [] := ⟨by simp, fun h => absurd h (by omega)⟩
theorem Reads.keep (h : Reads D w size A n xs) (hk : Keeps D w w') : Reads D w' size A n xs :=
  ⟨h.1, fun hn => by
    obtain ⟨ad, e, hb, hc⟩ := h.2 hn
    exact ⟨ad, e, hb, fun j u hu => (hk.cell (by rw [block_of_add]; exact hb)).trans (hc j u hu)⟩⟩
theorem Reads.more (h : Reads D w size A n xs) (hD : ∀ k, D k → D' k) : Reads D' w size A n xs :=
  ⟨h.1, fun hn => by
    obtain ⟨ad, e, hb, hc⟩ := h.2 hn
    exact ⟨ad, e, hD _ hb, hc⟩⟩
theorem Reads.cut (h : Reads D w size A n xs) {k cap : Nat} (hk : k ≤ n) (hc : n ≤ cap) :
    Reads D w size (if cap = k then A else A.map (·.add (k * size))) (n - k) (xs.drop (k * size)) := by
  refine ⟨by rw [List.length_drop, h.1, Nat.sub_mul], fun hn => ?_⟩
  obtain ⟨ad, rfl, hb, hcell⟩ := h.2 (by omega)
  rw [if_neg (by omega)]
  refine ⟨ad.add (k * size), rfl, by rw [block_of_add]; exact hb, fun j u hu => ?_⟩
  rw [add_of_add]
  exact hcell _ u (by rw [← hu, List.getElem?_drop])
theorem Reads.take (h : Reads D w size A n xs) {k : Nat} (hk : k ≤ n) : Reads D w size A k (xs.take (k * size)) := by
  refine ⟨by rw [List.length_take, h.1]; exact Nat.min_eq_left (Nat.mul_le_mul_right _ hk), fun hn => ?_⟩
  obtain ⟨ad, rfl, hb, hcell⟩ := h.2 (by omega)
  refine ⟨ad, rfl, hb, fun j u hu => hcell j u ?_⟩
  rw [List.getElem?_take] at hu
  split at hu
  · exact hu
  · cases hu
/-- at an element, in a round -/
theorem Reads.at_ (h : Reads D w size A n xs) (hn : 0 < n) (hs : 0 < size) : ∃ b off, A = some ⟨b, off, none⟩ ∧ D b ∧ ∀ j u, xs[j]? = some u → w.cell? ⟨b, off + j, none⟩ = some u := by
  obtain ⟨ad, rfl, hb, hc⟩ := h.2 hn
  have hx : 0 < xs.length := by rw [h.1]; exact Nat.mul_pos hn hs
  have h0 := hc 0 _ (List.getElem?_eq_getElem hx)
  have hsp : ad.spot = none := by simpa [Addr.add] using World.cell?_spot h0
  obtain ⟨b, off, sp⟩ := ad
  simp only at hsp
  subst hsp
  refine ⟨b, off, rfl, hb, fun j u hu => ?_⟩
  have := hc j u hu
  unfold Addr.add at this
  split at this
  · rename_i e; rw [e]; exact this
  · exact this
theorem Reads.of_own {base : Nat} {e : TypeId} {v : Value} (h : w.ownsRow base e size v n xs) : ∃ A c, v = .slice A n c ∧ n ≤ c ∧ c ≤ maxLen ∧ Reads (fun k => v.ownBlock = some k) w size A n xs := by
  rcases h.2 with ⟨rfl, h0⟩ | ⟨g, cap, cur, rfl, hbg, hg, hnc, hcm, hcs, ht⟩
  · subst h0
    exact ⟨none, 0, rfl, Nat.le_refl _, by simp [maxLen], h.1, fun hn => absurd hn (by omega)⟩
  · exact ⟨_, cap, rfl, hnc, hcm, h.1, fun _ => ⟨_, rfl, by simp [Value.ownBlock], h.cells (g := g) rfl⟩⟩
end

/-! a block that is known whole -/
def Blk (w : World) (g : Nat) (t : TypeId) (cs : Array Value) : Prop := w.heap[g]? = some (.cells cs t (0, 0))
section
variable {w w' : World} {g : Nat} {t : TypeId} {cs : Array Value}
theorem Blk.lt (h : Blk w g t cs) : g < w.heap.size := by
  rcases Nat.lt_or_ge g w.heap.size with hlt | hge
  · exact hlt
  · unfold Blk at h; rw [Array.getElem?_eq_none hge] at h; cases h
theorem Blk.cell (h : Blk w g t cs) (i : Nat) : w.cell? ⟨g, i, none⟩ = cs[i]? := cell_of_row w g i cs t (0, 0) h
theorem Blk.frozen (h : Blk w g t cs) (i : Nat) : w.frozen? ⟨g, i, none⟩ = false := by
  unfold Blk at h
  simp [World.frozen?, h]
theorem Blk.new (w : World) (t : TypeId) (cs : Array Value) : Blk (w.alloc (.cells cs t)) w.heap.size t cs := heap_alloc_new w _
theorem Blk.keep (h : Blk w g t cs) (hk : w'.heap[g]? = w.heap[g]?) : Blk w' g t cs := hk.trans h
theorem Blk.drew (h : Blk w g t cs) : Blk w.drew g t cs := h
theorem Blk.alloc (h : Blk w g t cs) (o : Obj) : Blk (w.alloc o) g t cs := (Below.heap_alloc w o g h.lt).trans h
theorem Blk.set_ (h : Blk w g t cs) (i : Nat) (u : Value) : Blk (w.setCell ⟨g, i, none⟩ u) g t (cs.setIfInBounds i u) := by
  unfold Blk at h ⊢
  simp [World.setCell, Array.getElem?_modify, h]
theorem Blk.far (h : Blk w g t cs) {p : Addr} (hp : g ≠ p.block) (u : Value) : Blk (w.setCell p u) g t cs := (Below.heap_setCell w p u g hp).trans h
theorem Blk.ne_ {g' : Nat} {t' : TypeId} {cs' : Array Value} (h : Blk w g t cs) (h' : Blk w g' t' cs') (hne : t ≠ t') : g ≠ g' := by
  rintro rfl
  unfold Blk at h h'
  rw [h] at h'
  injection h' with h'
  injection h' with _ ht
  exact hne ht
theorem own_blk_ne {base : Nat} {e : TypeId} {size n : Nat} {v : Value} {xs : List Value} (h : w.ownsRow base e size v n xs) (hg : Blk w g t cs) (hne : e ≠ t) : v.ownBlock ≠ some g := by
  rcases h.2 with ⟨rfl, _⟩ | ⟨g', cap, cur, rfl, _, hh, _⟩
  · simp [Value.ownBlock]
  · intro he
    have : g' = g := by simpa [Value.ownBlock] using he
    subst this
    exact Blk.ne_ (t := e) hh hg hne rfl
end
theorem own_lt {w : World} {base : Nat} {e : TypeId} {size n : Nat} {v : Value} {xs : List Value} (h : w.ownsRow base e size v n xs) {g : Nat} (hg : v.ownBlock = some g) : base ≤ g ∧ g < w.heap.size := by
  rcases h.2 with ⟨rfl, _⟩ | ⟨g', cap, cur, rfl, hb, hh, _⟩
  · simp [Value.ownBlock] at hg
  · have : g' = g := by simpa [Value.ownBlock] using hg
    subst this
    exact ⟨hb, by
      rcases Nat.lt_or_ge g' w.heap.size with h' | h'
      · exact h'
      · simp [Array.getElem?_eq_none h'] at hh⟩
/-- an owned slice stays while its block stays -/
theorem own_keep {w w' : World} {base : Nat} {e : TypeId} {size n : Nat} {v : Value} {xs : List Value} (h : w.ownsRow base e size v n xs) (hk : ∀ g, v.ownBlock = some g → w'.heap[g]? = w.heap[g]?) : w'.ownsRow base e size v n xs := by
  obtain ⟨h1, h2⟩ := h
  refine ⟨h1, ?_⟩
  rcases h2 with h2 | ⟨g, cap, cur, hv, hg, hh, r⟩
  · exact Or.inl h2
  · exact Or.inr ⟨g, cap, cur, hv, hg, by rw [hk g (by rw [hv]; rfl)]; exact hh, r⟩
theorem own_base {w : World} {base base' : Nat} {e : TypeId} {size n : Nat} {v : Value} {xs : List Value} (h : w.ownsRow base e size v n xs) (hb : ∀ g, v.ownBlock = some g → base' ≤ g) : w.ownsRow base' e size v n xs := by
  obtain ⟨h1, h2⟩ := h
  refine ⟨h1, ?_⟩
  rcases h2 with h2 | ⟨g, cap, cur, hv, hg, hh, r⟩
  · exact Or.inl h2
  · exact Or.inr ⟨g, cap, cur, hv, hb g (by rw [hv]; rfl), hh, r⟩

/-! append onto a slice of the call's own, the source nil, empty or not -/
section
variable {P : Program} (w : World)
theorem run_append_of_nil (base : Nat) (t ty e : TypeId) (i : TypeInfo) (size : Nat) (ht : P.underlying t = some (.slice e)) (hi : P.info? e = some i)
    (v : Value) (n : Nat) (xs : List Value) (hown : w.ownsRow base e size v n xs) (c : Nat) : (Builtin.append_ #[t, t] ty #[v, .slice none 0 c]).run P w = .ok v w := by
  rcases hown.2 with ⟨rfl, rfl⟩ | ⟨g, cap, cur, rfl, _, _, hnc, _⟩
  · simp [Builtin.append_, run_underlying ht, sizeOf, typeInfo, hi, Builtin.lenOf, Builtin.firstCells]
  · simp [Builtin.append_, run_underlying ht, sizeOf, typeInfo, hi, Builtin.lenOf, Builtin.firstCells, hnc, storeCells]

theorem run_append_any (base : Nat) (t ty e : TypeId) (i : TypeInfo) (z : Value) (size bytes : Nat) (ht : P.underlying t = some (.slice e)) (hi : P.info? e = some i) (hz : i.zero = some z)
    (hsize : i.size = size) (hby : i.bytes = bytes) (hzs : z.cells.size = size) (hsz : 0 < size)
    (v : Value) (n : Nat) (xs : List Value) (hown : w.ownsRow base e size v n xs)
    (D : Nat → Prop) (A : Option Addr) (m c : Nat) (news : List Value) (hr : Reads D w size A m news) (h1 : ∀ u ∈ news, u.oneCell' = true)
    (h63 : n + m ≤ maxLen) (hbytes : (n + m) * bytes ≤ 140737488355328) (hbase : base ≤ w.heap.size) :
    ∃ v' w', (Builtin.append_ #[t, t] ty #[v, .slice A m c]).run P w = .ok v' w' ∧ w'.ownsRow base e size v' (n + m) (xs ++ news) ∧ w.grownBy w' v.ownBlock ∧
      (v'.ownBlock = v.ownBlock ∨ v'.ownBlock = some w.heap.size) := by
  rcases A with _ | ad
  · have hm : m = 0 := by
      rcases Nat.eq_zero_or_pos m with h0 | h0
      · exact h0
      · obtain ⟨ad, h, _⟩ := hr.2 h0
        cases h
    subst hm
    have hn : news = [] := List.eq_nil_of_length_eq_zero (by simpa using hr.1)
    subst hn
    exact ⟨v, w, run_append_of_nil w base t ty e i size ht hi v n xs hown c, by simpa using hown, World.grownBy.refl w _, .inl rfl⟩
  · have hcells : ∀ j u, news[j]? = some u → w.cell? (ad.add j) = some u := by
      intro j u hu
      rcases Nat.eq_zero_or_pos m with h0 | h0
      · subst h0
        have hn : news = [] := List.eq_nil_of_length_eq_zero (by simpa using hr.1)
        subst hn
        simp at hu
      · obtain ⟨ad', h, _, hc⟩ := hr.2 h0
        injection h with h
        subst h
        exact hc j u hu
    obtain ⟨v', w', hrun, h2, h3, _, h5⟩ := run_append_own_at (P := P) w base t ty e i z size bytes ht hi hz hsize hby hzs hsz v n xs hown ad m c news hr.1 hcells h1 h63 hbytes hbase
    exact ⟨v', w', hrun, h2, h3, h5⟩

theorem wp_append_any {o : Oper} {a : Act} {K : Act → World → Prop} {Q : Exit → Act → World → Prop} (s x : Operand) (t : TypeId)
    (ho : o.op = .call { callee := .builtin .append, args := #[s, x], argTypes := #[t, t] })
    (base : Nat) (e : TypeId) (i : TypeInfo) (z : Value) (size bytes : Nat) (ht : P.underlying t = some (.slice e)) (hi : P.info? e = some i) (hz : i.zero = some z)
    (hsize : i.size = size) (hby : i.bytes = bytes) (hzs : z.cells.size = size) (hsz : 0 < size)
    (v : Value) (n : Nat) (xs : List Value) (hs : a.eval s = v) (hown : w.ownsRow base e size v n xs)
    (D : Nat → Prop) (A : Option Addr) (m c : Nat) (news : List Value) (hx : a.eval x = .slice A m c) (hr : Reads D w size A m news) (h1 : ∀ u ∈ news, u.oneCell' = true)
    (h63 : n + m ≤ maxLen) (hbytes : (n + m) * bytes ≤ 140737488355328) (hbase : base ≤ w.heap.size)
    (h : ∀ v' w', w'.ownsRow base e size v' (n + m) (xs ++ news) → w.grownBy w' v.ownBlock → (v'.ownBlock = v.ownBlock ∨ v'.ownBlock = some w.heap.size) → K (a.put o.dst v') w') : o.wp P a w K Q := by
  obtain ⟨v', w', hrun, h2, h3, h4⟩ := run_append_any (P := P) w base t o.type e i z size bytes ht hi hz hsize hby hzs hsz v n xs hown D A m c news hr h1 h63 hbytes hbase
  unfold Oper.wp execOp
  simp only [ho, resolve, invoke, builtin, Sem.run_bind, Sem.run_pure, Result.andThen_ok, List.map_toArray, List.map_cons, List.map_nil, hs, hx, hrun]
  exact h v' w' h2 h3 h4

theorem wpList_append_any {ops : Array Oper} {rest : List Oper} {o : Oper} {a : Act} {Q : Exit → Act → World → Prop} (hgd : o.guard = none) (s x : Operand) (t : TypeId)
    (ho : o.op = .call { callee := .builtin .append, args := #[s, x], argTypes := #[t, t] })
    (base : Nat) (e : TypeId) (i : TypeInfo) (z : Value) (size bytes : Nat) (ht : P.underlying t = some (.slice e)) (hi : P.info? e = some i) (hz : i.zero = some z)
    (hsize : i.size = size) (hby : i.bytes = bytes) (hzs : z.cells.size = size) (hsz : 0 < size)
    (v : Value) (n : Nat) (xs : List Value) (hs : a.eval s = v) (hown : w.ownsRow base e size v n xs)
    (D : Nat → Prop) (A : Option Addr) (m c : Nat) (news : List Value) (hx : a.eval x = .slice A m c) (hr : Reads D w size A m news) (h1 : ∀ u ∈ news, u.oneCell' = true)
    (h63 : n + m ≤ maxLen) (hbytes : (n + m) * bytes ≤ 140737488355328) (hbase : base ≤ w.heap.size)
    (h : ∀ v' w', w'.ownsRow base e size v' (n + m) (xs ++ news) → w.grownBy w' v.ownBlock → (v'.ownBlock = v.ownBlock ∨ v'.ownBlock = some w.heap.size) → wpList P ops Q rest (a.put o.dst v') w') : wpList P ops Q (o :: rest) a w :=
  wpList_plain hgd fun _ hK => wp_append_any w s x t ho base e i z size bytes ht hi hz hsize hby hzs hsz v n xs hs hown D A m c news hx hr h1 h63 hbytes hbase fun v' w' h2 h3 h4 => hK _ _ (h v' w' h2 h3 h4)

theorem step_append_any {ops : Array Oper} {o : Oper} {a : Act} {K : Act → World → Prop} {Q : Exit → Act → World → Prop} {E : Prop} (hgd : o.guard = none) (s x : Operand) (t : TypeId)
    (ho : o.op = .call { callee := .builtin .append, args := #[s, x], argTypes := #[t, t] })
    (base : Nat) (e : TypeId) (i : TypeInfo) (z : Value) (size bytes : Nat) (ht : P.underlying t = some (.slice e)) (hi : P.info? e = some i) (hz : i.zero = some z)
    (hsize : i.size = size) (hby : i.bytes = bytes) (hzs : z.cells.size = size) (hsz : 0 < size)
    (v : Value) (n : Nat) (xs : List Value) (hs : a.eval s = v) (hown : w.ownsRow base e size v n xs)
    (D : Nat → Prop) (A : Option Addr) (m c : Nat) (news : List Value) (hx : a.eval x = .slice A m c) (hr : Reads D w size A m news) (h1 : ∀ u ∈ news, u.oneCell' = true)
    (h63 : n + m ≤ maxLen) (hbytes : (n + m) * bytes ≤ 140737488355328) (hbase : base ≤ w.heap.size)
    (h : ∀ v' w', w'.ownsRow base e size v' (n + m) (xs ++ news) → w.grownBy w' v.ownBlock → (v'.ownBlock = v.ownBlock ∨ v'.ownBlock = some w.heap.size) → K (a.put o.dst v') w') :
    if Region.wanted o (yielded ops a.tmps) = true then Oper.wp P o a w K Q else E := by
  have hw : Region.wanted o (yielded ops a.tmps) = true := by simp [Region.wanted, hgd]
  rw [if_pos hw]
  exact wp_append_any w s x t ho base e i z size bytes ht hi hz hsize hby hzs hsz v n xs hs hown D A m c news hx hr h1 h63 hbytes hbase h
end
/-- one element more, out of a block that was just laid: for the walk -/
theorem wpList_append_one {P : Program} {w : World} (t e : TypeId) (z : Value) (size bytes : Nat) (ht : P.underlying t = some (.slice e)) (info : (P.info? e).map (fun i => (i.zero, i.size, i.bytes)) = some (some z, size, bytes))
    (hzs : z.cells.size = size) (hsz : 0 < size) {ops : Array Oper} {rest : List Oper} {o : Oper} {a : Act} {Q : Exit → Act → World → Prop} (hgd : o.guard = none) (s x : Operand)
    (ho : o.op = .call { callee := .builtin .append, args := #[s, x], argTypes := #[t, t] })
    (base : Nat) (v : Value) (n : Nat) (xs : List Value) (hs : a.eval s = v) (hown : w.ownsRow base e size v n xs)
    (g c : Nat) (news : List Value) (hx : a.eval x = .slice (some ⟨g, 0, none⟩) 1 c) (hl : news.length = size) (hnews : ∀ j u, news[j]? = some u → w.cell? ⟨g, j, none⟩ = some u) (h1 : ∀ u ∈ news, u.oneCell' = true)
    (hn : (n + 1) * bytes ≤ 140737488355328) (hn2 : n + 1 ≤ 4611686018427387904) (hbase : base ≤ w.heap.size)
    (h : ∀ v' w', w'.ownsRow base e size v' (n + 1) (xs ++ news) → w.grownBy w' v.ownBlock → (v'.ownBlock = v.ownBlock ∨ v'.ownBlock = some w.heap.size) → wpList P ops Q rest (a.put o.dst v') w') : wpList P ops Q (o :: rest) a w := by
  obtain ⟨i0, hi, hz0, hz1, hz2⟩ := info_parts info
  refine wpList_append_any w hgd s x t ho base e i0 z size bytes ht hi hz0 hz1 hz2 hzs hsz v n xs hs hown (fun k => k = g) (some ⟨g, 0, none⟩) 1 c news hx ⟨by omega, fun _ => ⟨_, rfl, rfl, fun j u hu => ?_⟩⟩ h1 (by simp only [maxLen]; omega) hn hbase h
  have e : (⟨g, 0, none⟩ : Addr).add j = ⟨g, j, none⟩ := by
    unfold Addr.add
    split
    · rename_i h0; rw [h0]
    · simp
  rw [e]
  exact hnews j u hu

theorem own_nil (w : World) (base : Nat) (e : TypeId) (size : Nat) : w.ownsRow base e size (.slice none 0 0) 0 [] := ⟨by simp, .inl ⟨rfl, rfl⟩⟩
/-- one growing slice of the call's own: of what was there only its block may have turned; its block is the same, or a new one -/
structure Evo (w : World) (o : Option Nat) (w' : World) (o' : Option Nat) : Prop where
  os : w'.os = w.os
  tape : w'.tape = w.tape
  output : w'.output = w.output
  size : w.heap.size ≤ w'.heap.size
  block : ∀ k, k < w.heap.size → o ≠ some k → w'.heap[k]? = w.heap[k]?
  lies : o' = o ∨ ∃ g, o' = some g ∧ w.heap.size ≤ g
theorem Evo.refl (w : World) (o : Option Nat) : Evo w o w o := ⟨rfl, rfl, rfl, Nat.le_refl _, fun _ _ _ => rfl, .inl rfl⟩
theorem Evo.trans {a b c : World} {o o' o'' : Option Nat} (h : Evo a o b o') (k : Evo b o' c o'') : Evo a o c o'' := by
  refine ⟨k.os.trans h.os, k.tape.trans h.tape, k.output.trans h.output, Nat.le_trans h.size k.size, fun i hi hn => ?_, ?_⟩
  · refine (k.block i (Nat.lt_of_lt_of_le hi h.size) ?_).trans (h.block i hi hn)
    rcases h.lies with e | ⟨g, e, hg⟩
    · rw [e]; exact hn
    · rw [e]; intro e2; injection e2 with e2; omega
  · rcases k.lies with e | ⟨g, e, hg⟩
    · rw [e]; exact h.lies
    · exact .inr ⟨g, e, Nat.le_trans h.size hg⟩
theorem Evo.of_below {w w' : World} {o : Option Nat} (h : Below w.heap.size w w') : Evo w o w' o := ⟨h.os, h.tape, h.output, h.size, fun k hk _ => h.block k hk, .inl rfl⟩
theorem Evo.of_append {w w' : World} {o o' : Option Nat} (h : w.grownBy w' o) (ho : o' = o ∨ o' = some w.heap.size) : Evo w o w' o' :=
  ⟨h.os, h.tape, h.output, h.size, fun k hk hn => h.block k hk (fun e => hn e.symm), ho.imp id fun e => ⟨_, e, Nat.le_refl _⟩⟩
theorem Evo.alloc {a w : World} {o o' : Option Nat} (h : Evo a o w o') (ob : Obj) : Evo a o (w.alloc ob) o' :=
  ⟨h.os, h.tape, h.output, Nat.le_trans h.size (by simp), fun k hk hn => (Below.heap_alloc w ob k (Nat.lt_of_lt_of_le hk h.size)).trans (h.block k hk hn), h.lies⟩
theorem Evo.drew {a w : World} {o o' : Option Nat} (h : Evo a o w o') : Evo a o w.drew o' := ⟨h.os, h.tape, h.output, h.size, h.block, h.lies⟩
theorem Evo.below {w w' : World} {o o' : Option Nat} (h : Evo w o w' o') {B : Nat} (hB : B ≤ w.heap.size) (ho : ∀ g, o = some g → B ≤ g) : Below B w w' :=
  ⟨h.os, h.tape, h.output, h.size, fun k hk => h.block k (by omega) (fun e => by have := ho k e; omega)⟩
theorem Evo.keeps {w w' : World} {o o' : Option Nat} {D : Nat → Prop} (h : Evo w o w' o') (hD : ∀ k, D k → k < w.heap.size ∧ o ≠ some k) : Keeps D w w' := fun k hk => h.block k (hD k hk).1 (hD k hk).2
theorem Evo.cell {w w' : World} {o o' : Option Nat} (h : Evo w o w' o') {p : Addr} (h1 : p.block < w.heap.size) (h2 : o ≠ some p.block) : w'.cell? p = w.cell? p := World.cell?_of_block (w := w) (h.block p.block h1 h2)
theorem Evo.least {w w' : World} {o o' : Option Nat} (h : Evo w o w' o') {B : Nat} (hB : B ≤ w.heap.size) (ho : ∀ g, o = some g → B ≤ g) : ∀ g, o' = some g → B ≤ g := by
  intro g hg
  rcases h.lies with e | ⟨g', e, hg'⟩
  · exact ho g (by rw [← e]; exact hg)
  · rw [e] at hg; injection hg with hg; omega
theorem own_below {w w' : World} {base : Nat} {e : TypeId} {size n : Nat} {v : Value} {xs : List Value} (h : w.ownsRow base e size v n xs) (hb : Below w.heap.size w w') : w'.ownsRow base e size v n xs :=
  own_keep h fun g hg => hb.block g (own_lt h hg).2

theorem new_cells (w : World) (t : TypeId) (cs : List Value) {j : Nat} {u : Value} (h : cs[j]? = some u) : (w.alloc (.cells cs.toArray t)).cell? ⟨w.heap.size, j, none⟩ = some u := by
  rw [(Blk.new w t cs.toArray).cell j]
  rw [List.getElem?_toArray]
  exact h
theorem Blk.grown {w w' : World} {g : Nat} {t : TypeId} {cs : Array Value} {row : Option Nat} (h : Blk w g t cs) (hb : w.grownBy w' row) (hg : row ≠ some g) : Blk w' g t cs := (hb.block g h.lt (fun e => hg e.symm)).trans h
theorem below_drewN {B : Nat} {a w : World} (h : Below B a w) (n : Nat) : Below B a (w.drewN n) := ⟨h.os, h.tape, h.output, h.size, h.block⟩
end Go.Proofs.YtclgfcjcpbiadaaGreatDoor

namespace Go.Proofs.YtclgfcjcpbiadaaGreatDoor

def bytesC (l : List UInt8) : List Value := l.map fun c => .int .u8 (c.toNat : Int)
def intsC (l : List Int) : List Value := l.map fun n => .int .i64 n
theorem bytesC_append (l r : List UInt8) : bytesC (l ++ r) = bytesC l ++ bytesC r := by simp [bytesC]
theorem bytesC_length (l : List UInt8) : (bytesC l).length = l.length := by simp [bytesC]
theorem intsC_length (l : List Int) : (intsC l).length = l.length := by simp [intsC]
theorem bytesC_one (l : List UInt8) : ∀ u ∈ bytesC l, u.oneCell' = true := by
  intro u hu; simp only [bytesC, List.mem_map] at hu; obtain ⟨c, _, rfl⟩ := hu; rfl

/-- seven bits a byte, at most f more behind this one -/
def putF : Nat → Nat → List UInt8
  | 0, n => [UInt8.ofNat n]
  | f + 1, n => if n < 128 then [UInt8.ofNat n] else UInt8.ofNat (n % 128 + 128) :: putF f (n / 128)
def putN (n : Nat) : List UInt8 := putF 9 n
theorem putF_small {f n : Nat} (h : n < 128) : putF f n = [UInt8.ofNat n] := by cases f <;> simp [putF, h]
theorem putF_big {f n : Nat} (h : ¬ n < 128) : putF (f + 1) n = UInt8.ofNat (n % 128 + 128) :: putF f (n / 128) := by simp [putF, h]
theorem putF_length : ∀ (f n : Nat), 1 ≤ (putF f n).length ∧ (putF f n).length ≤ f + 1
  | 0, n => by simp [putF]
  | f + 1, n => by
    simp only [putF]
    split
    · simp
    · have := putF_length f (n / 128)
      simp; omega
theorem putN_length (n : Nat) : 1 ≤ (putN n).length ∧ (putN n).length ≤ 10 := putF_length 9 n

/-- the number that bytes begin with, behind i of them -/
def getG : Nat → Nat → List UInt8 → Option (Nat × Nat)
  | _, _, [] => none
  | i, acc, c :: r =>
    if i = 9 ∧ 1 < c.toNat ∨ 9 < i then none
    else if c.toNat < 128 then (if c.toNat = 0 ∧ 0 < i then none else some (acc + c.toNat % 128 * 2 ^ (7 * i), i + 1))
    else getG (i + 1) (acc + c.toNat % 128 * 2 ^ (7 * i)) r
def getN (l : List UInt8) : Option (Nat × Nat) := getG 0 0 l

theorem getG_at : ∀ (l : List UInt8) (i acc n k : Nat), getG i acc l = some (n, k) → i < k ∧ k ≤ i + l.length
  | [], i, acc, n, k, h => by simp [getG] at h
  | c :: r, i, acc, n, k, h => by
    simp only [getG] at h
    split at h
    · cases h
    · split at h
      · split at h
        · cases h
        · simp only [Option.some.injEq, Prod.mk.injEq] at h
          simp; omega
      · have := getG_at r _ _ _ _ h
        simp; omega
theorem getN_at {l : List UInt8} {n k : Nat} (h : getN l = some (n, k)) : 1 ≤ k ∧ k ≤ l.length := by
  have := getG_at l 0 0 n k h; omega
theorem getG_lt : ∀ (l : List UInt8) (i acc n k : Nat), acc < 2 ^ (7 * i) → getG i acc l = some (n, k) → n < 2 ^ 64
  | [], i, acc, n, k, _, h => by simp [getG] at h
  | c :: r, i, acc, n, k, ha, h => by
    simp only [getG] at h
    have hp : 2 ^ (7 * (i + 1)) = 128 * 2 ^ (7 * i) := by rw [Nat.mul_add, Nat.pow_add]; omega
    have hm : c.toNat % 128 * 2 ^ (7 * i) ≤ 127 * 2 ^ (7 * i) := Nat.mul_le_mul_right _ (by omega)
    split at h
    · cases h
    · rename_i hg
      split at h
      · rename_i h128
        split at h
        · cases h
        · simp only [Option.some.injEq, Prod.mk.injEq] at h
          by_cases h9 : i = 9
          · subst h9
            have hc : c.toNat % 128 ≤ 1 := by omega
            have : c.toNat % 128 * 2 ^ (7 * 9) ≤ 1 * 2 ^ (7 * 9) := Nat.mul_le_mul_right _ hc
            omega
          · have hi : 7 * (i + 1) ≤ 63 := by omega
            have : 2 ^ (7 * (i + 1)) ≤ 2 ^ 63 := Nat.pow_le_pow_right (by omega) hi
            omega
      · exact getG_lt r _ _ _ _ (by omega) h
theorem getN_lt {l : List UInt8} {n k : Nat} (h : getN l = some (n, k)) : n < 2 ^ 64 := getG_lt l 0 0 n k (by simp) h

theorem ofNat_toNat {n : Nat} (h : n < 256) : (UInt8.ofNat n).toNat = n := by simp; omega

/-- what is written is read -/
theorem getG_putF : ∀ (f n i acc : Nat) (more : List UInt8), f + i = 9 → n < 2 ^ (64 - 7 * i) → (0 < i → 0 < n) → getG i acc (putF f n ++ more) = some (acc + n * 2 ^ (7 * i), i + (putF f n).length)
  | 0, n, i, acc, more, hfi, hn, hz => by
    have h9 : i = 9 := by omega
    subst h9
    simp only [putF, List.cons_append, List.nil_append, getG]
    have hn2 : n < 2 := by simpa using hn
    rw [ofNat_toNat (by omega)]
    rw [if_neg (by omega), if_pos (by omega), if_neg (by omega), Nat.mod_eq_of_lt (by omega)]
    rfl
  | f + 1, n, i, acc, more, hfi, hn, hz => by
    by_cases h : n < 128
    · rw [putF_small h]
      simp only [List.cons_append, List.nil_append, getG]
      rw [ofNat_toNat (by omega), if_neg (by omega), if_pos h, if_neg (by omega), Nat.mod_eq_of_lt h]
      rfl
    · rw [putF_big h]
      simp only [List.cons_append, getG]
      rw [ofNat_toNat (by omega), if_neg (by omega), if_neg (by omega)]
      have hp : 2 ^ (7 * (i + 1)) = 128 * 2 ^ (7 * i) := by rw [Nat.mul_add, Nat.pow_add]; omega
      have hq : 2 ^ (64 - 7 * i) = 128 * 2 ^ (64 - 7 * (i + 1)) := by
        rw [show 64 - 7 * i = (64 - 7 * (i + 1)) + 7 by omega, Nat.pow_add]; omega
      rw [getG_putF f (n / 128) (i + 1) _ more (by omega) (by omega) (by omega)]
      have e1 : (n % 128 + 128) % 128 = n % 128 := by omega
      have e2 : n % 128 * 2 ^ (7 * i) + n / 128 * 2 ^ (7 * (i + 1)) = n * 2 ^ (7 * i) := by
        rw [hp, ← Nat.mul_assoc, ← Nat.add_mul]
        congr 1
        omega
      rw [e1, Nat.add_assoc, e2]
      simp; omega
theorem getN_putN (n : Nat) (more : List UInt8) (h : n < 2 ^ 64) : getN (putN n ++ more) = some (n, (putN n).length) := by
  have := getG_putF 9 n 0 0 more rfl (by simpa using h) (by omega)
  simpa [getN, putN] using this

/-- what is read is written -/
theorem putF_getG : ∀ (l : List UInt8) (f i acc n k : Nat), f + i = 9 → getG i acc l = some (n, k) → ∃ m, n = acc + m * 2 ^ (7 * i) ∧ (0 < i → 0 < m) ∧ l.take (k - i) = putF f m
  | [], f, i, acc, n, k, _, h => by simp [getG] at h
  | c :: r, f, i, acc, n, k, hfi, h => by
    have hc256 : c.toNat < 256 := c.toNat_lt
    simp only [getG] at h
    split at h
    · cases h
    · rename_i hg
      split at h
      · rename_i h128
        split at h
        · cases h
        · rename_i hz
          simp only [Option.some.injEq, Prod.mk.injEq] at h
          refine ⟨c.toNat, by rw [← h.1]; congr 1; rw [Nat.mod_eq_of_lt h128], by omega, ?_⟩
          rw [putF_small h128, show k - i = 1 by omega]
          simp
      · rename_i h128
        obtain _ | f := f
        · omega
        · obtain ⟨m, hm, hpos, ht⟩ := putF_getG r f (i + 1) _ n k (by omega) h
          have hk := getG_at r _ _ _ _ h
          have hm1 := hpos (by omega)
          refine ⟨c.toNat % 128 + 128 * m, ?_, by omega, ?_⟩
          · have hp : 2 ^ (7 * (i + 1)) = 128 * 2 ^ (7 * i) := by rw [Nat.mul_add, Nat.pow_add]; omega
            rw [hm, hp, ← Nat.mul_assoc, Nat.add_assoc, ← Nat.add_mul, Nat.mul_comm m 128]
          · rw [putF_big (by omega), show k - i = (k - (i + 1)) + 1 by omega, List.take_succ_cons, ht]
            congr 1
            · rw [← UInt8.toNat_inj, ofNat_toNat (by omega)]; omega
            · congr 1; omega
theorem putN_getN {l : List UInt8} {n k : Nat} (h : getN l = some (n, k)) : l.take k = putN n := by
  obtain ⟨m, hm, _, ht⟩ := putF_getG l 9 0 0 n k rfl h
  have : n = m := by rw [hm]; simp
  subst this
  simpa [putN] using ht

/-- numbers that may be below 0 -/
def zz (n : Int) : Nat := if 0 ≤ n then (2 * n).toNat else (-2 * n - 1).toNat
def unzz (m : Nat) : Int := if m % 2 = 0 then (m / 2 : Nat) else -((m / 2 : Nat) : Int) - 1
theorem unzz_zz (n : Int) : unzz (zz n) = n := by unfold unzz zz; split <;> split <;> omega
theorem zz_unzz (m : Nat) : zz (unzz m) = m := by unfold unzz zz; split <;> split <;> omega
theorem zz_lt {n : Int} (h : -9223372036854775808 ≤ n ∧ n ≤ 9223372036854775807) : zz n < 2 ^ 64 := by unfold zz; split <;> omega
theorem unzz_bd {m : Nat} (h : m < 2 ^ 64) : -9223372036854775808 ≤ unzz m ∧ unzz m ≤ 9223372036854775807 := by unfold unzz; split <;> omega
def putS (n : Int) : List UInt8 := putN (zz n)
def getS (l : List UInt8) : Option (Int × Nat) := (getN l).map fun x => (unzz x.1, x.2)
end Go.Proofs.YtclgfcjcpbiadaaGreatDoor

namespace Go.Proofs.YtclgfcjcpbiadaaGreatDoor
open Go.ChangeShapes Go.WideShapes Go.ChangeAt Go.RowKit

theorem ret_int {k : IntKind} {a b : Int} (h : a = b) : Ending.returned (.int k a) = .returned (.int k b) := by rw [h]
theorem ret_bool {a b : Bool} (h : a = b) : Ending.returned (.bool a) = .returned (.bool b) := by rw [h]

theorem infoByte : (Tryz.prog.info? 5).map (fun i => (i.zero, i.size, i.bytes)) = some (some (.int .u8 0), 1, 1) := by kernel_rfl

/-- one byte in a new block -/
theorem reads_new (wr : World) (t : TypeId) (c : UInt8) (x : Int) (hx : x = (c.toNat : Int)) (H : Nat) (hH : wr.heap.size = H) : Reads (fun k => k = H) (wr.alloc (.cells #[.int .u8 x] t)) 1 (some ⟨H, 0, none⟩) 1 (bytesC [c]) := by
  subst hx
  subst hH
  refine ⟨by simp [bytesC], fun _ => ⟨_, rfl, rfl, fun j u hu => ?_⟩⟩
  match j, hu with
  | 0, hu => simp [bytesC] at hu; subst hu; simp [Addr.add]
  | j + 1, hu => simp [bytesC] at hu

theorem get_lt {α : Type} {l : List α} {k : Nat} (h : k < l.length) : ∃ x, l[k]? = some x := ⟨l[k], List.getElem?_eq_getElem h⟩
/-- the bytes a slice holds, as a string -/
theorem conv_reads {l : List UInt8} {D : Nat → Prop} {A : Option Addr} {c : Nat} {w : World} (hr : Reads D w 1 A l.length (bytesC l)) :
    (convert 71 9 (.slice A l.length c)).run Tryz.prog w = .ok (.string ⟨l.toArray⟩) w := by
  rcases Nat.eq_zero_or_pos l.length with h0 | h0
  · have : l = [] := List.length_eq_zero_iff.1 h0
    subst this
    rw [run_convert_bytes_string w 71 9 5 A _ c Tryz.underlying71 Tryz.underlying5 Tryz.underlying9]
    cases A with
    | none => simp [Conv.bytesToString]; rfl
    | some a =>
      have := run_convert_bytes_back (P := Tryz.prog) w 71 9 5 a c [] Tryz.underlying71 Tryz.underlying5 Tryz.underlying9 (fun j hj => by simp at hj)
      rw [run_convert_bytes_string w 71 9 5 (some a) _ c Tryz.underlying71 Tryz.underlying5 Tryz.underlying9] at this
      exact this
  · obtain ⟨ad, rfl, _, hc⟩ := hr.2 h0
    refine run_convert_bytes_back w 71 9 5 ad c l Tryz.underlying71 Tryz.underlying5 Tryz.underlying9 (fun j hj => ?_)
    exact hc j _ (by simp [bytesC, List.getElem?_eq_getElem hj])

end Go.Proofs.YtclgfcjcpbiadaaGreatDoor

namespace Go.Proofs.YtclgfcjcpbiadaaGreatDoor

theorem wpStill_want {P : Program} {ops : Array Oper} {w : World} {Q : Act → Prop} {a : Act} {o : Oper} {rest : List Oper} (hw : Region.wanted o (yielded ops a.tmps) = true)
    (h : ∀ K : Act → Prop, (∀ a, wpStill P ops w Q rest a → K a) → o.still P a w K) : wpStill P ops w Q (o :: rest) a :=
  wpStill_step fun K hK => by rw [if_pos hw]; exact h K hK
theorem wpStill_skip {P : Program} {ops : Array Oper} {w : World} {Q : Act → Prop} {a : Act} {o : Oper} {rest : List Oper} (hw : Region.wanted o (yielded ops a.tmps) = false)
    (h : wpStill P ops w Q rest (a.put o.dst undef)) : wpStill P ops w Q (o :: rest) a :=
  wpStill_step fun K hK => by rw [hw]; exact hK _ h
end Go.Proofs.YtclgfcjcpbiadaaGreatDoor

namespace Go.Proofs.YtclgfcjcpbiadaaGreatDoor
open Go.ChangeShapes Go.WideShapes Go.ChangeAt Go.RowKit

def cmpI (a b : Int) : Int := if a < b then -1 else if b < a then 1 else 0

theorem cmpI_lt {a b : Int} (h : a < b) : -1 = cmpI a b := by simp [cmpI, h]
theorem cmpI_gt {a b : Int} (h : b < a) : 1 = cmpI a b := by rw [cmpI, if_neg (by omega), if_pos h]
theorem cmpI_eq {a b : Int} (h1 : ¬ a < b) (h : ¬ b < a) : 0 = cmpI a b := by rw [cmpI, if_neg h1, if_neg h]

set_option maxHeartbeats 400000 in
theorem cmpInt_any (a b : Int) (w : World) :
    Calls Tryz.prog 92 #[.int .i64 a, .int .i64 b] w fun e w' => e = .returned (.int .i64 (cmpI a b)) ∧ w = w' := by
  by_cases h1 : a < b
  · go_enter Tryz.func92, Tryz.ntmps92
    go_wp2
    go_ret
    exact ⟨ret_int (cmpI_lt h1), rfl⟩
  · by_cases h2 : b < a
    · go_enter Tryz.func92, Tryz.ntmps92
      go_wp2
      go_ret
      exact ⟨ret_int (cmpI_gt h2), rfl⟩
    · go_enter Tryz.func92, Tryz.ntmps92
      go_wp2
      go_ret
      exact ⟨ret_int (cmpI_eq (by omega) (by omega)), rfl⟩

/-- the first that is not 0 -/
def firstNZ : List Int → Int
  | [] => 0
  | x :: l => if x = 0 then firstNZ l else x

theorem firstNZ_at : ∀ (l : List Int) (k : Nat) (x : Int), (∀ j, j < k → l.getD j 0 = 0) → l[k]? = some x → x ≠ 0 → firstNZ l = x
  | [], _, _, _, h, _ => by simp at h
  | y :: l, 0, x, _, h, hx => by
    simp at h; subst h; simp [firstNZ, hx]
  | y :: l, k + 1, x, h0, h, hx => by
    have hy : y = 0 := h0 0 (by omega)
    subst hy
    simp only [firstNZ, if_true]
    exact firstNZ_at l k x (fun j hj => by simpa using h0 (j + 1) (by omega)) (by simpa using h) hx
theorem firstNZ_none : ∀ (l : List Int), (∀ j, j < l.length → l.getD j 0 = 0) → firstNZ l = 0
  | [], _ => rfl
  | y :: l, h0 => by
    have hy : y = 0 := h0 0 (by simp)
    subst hy
    simp only [firstNZ, if_true]
    exact firstNZ_none l (fun j hj => by simpa using h0 (j + 1) (by simpa using hj))

set_option maxHeartbeats 400000 in
theorem or_any (xs : List Int) (n : Nat) (hn : n = xs.length) (b : Nat) (w : World) (hlen : n ≤ 1000000)
    (hc : ∀ (k : Nat) (x : Int), xs[k]? = some x → w.cell? ⟨b, k, none⟩ = some (.int .i64 x)) :
    Calls Tryz.prog 91 #[.slice (some ⟨b, 0, none⟩) n n] w fun e w' => e = .returned (.int .i64 (firstNZ xs)) ∧ w = w' := by
  have HN := Lib.hid hn
  have HC := Lib.hid hc
  clear hn hc
  go_enter Tryz.func91, Tryz.ntmps91
  go_wp2
  go_loop [5, 8] (fun _ i => ∃ k : Nat, k ≤ n ∧ i = .int .i64 k ∧ ∀ j, j < k → xs.getD j 0 = 0) (fun _ i => n - (intOf i).toNat)
  case atStart => exact ⟨0, by omega, rfl, fun j hj => absurd hj (by omega)⟩
  case round =>
    obtain ⟨k, hk, rfl, hz⟩ := hrel
    have HZ := Lib.hid hz
    clear hz
    by_cases hlt : k < n
    · obtain ⟨x, hx⟩ : ∃ x, xs[k]? = some x := by have := HN.out; exact ⟨xs[k], List.getElem?_eq_getElem (by omega)⟩
      have HX := Lib.hid hx
      have hcell := HC.out k x hx
      clear hx
      by_cases h0 : x = 0
      · subst h0
        go_wp2
        go_round
        case rel => exact ⟨k + 1, by omega, by go_num, fun j hj => by
          by_cases e : j = k
          · subst e; rw [List.getD_eq_getElem?_getD, HX.out]; rfl
          · exact HZ.out j (by omega)⟩
        case measure => simp [intOf]; omega
      · have hb : (x != 0) = true := by simpa using h0
        have H0 := Lib.hid h0
        clear h0
        go_wp2
        go_ret
        exact ⟨ret_int (firstNZ_at xs k x HZ.out HX.out H0.out).symm, rfl⟩
    · go_wp2
      go_ret
      exact ⟨ret_int (firstNZ_none xs (fun j hj => HZ.out j (by have := HN.out; omega))).symm, rfl⟩

/-- ids, refs: two ints -/
def cmp2 (a b c d : Int) : Int := firstNZ [cmpI a c, cmpI b d]

theorem or2_any (x y : Int) (b : Nat) (w : World) (h0 : w.cell? ⟨b, 0, none⟩ = some (.int .i64 x)) (h1 : w.cell? ⟨b, 1, none⟩ = some (.int .i64 y)) :
    Calls Tryz.prog 91 #[.slice (some ⟨b, 0, none⟩) 2 2] w fun e w' => e = .returned (.int .i64 (firstNZ [x, y])) ∧ w = w' :=
  or_any [x, y] 2 rfl b w (by omega) fun k u hk => by
    match k, hk with
    | 0, hk => simp at hk; subst hk; exact h0
    | 1, hk => simp at hk; subst hk; exact h1
    | k + 2, hk => simp at hk

set_option maxHeartbeats 1600000 in
theorem idCompare_any (a b c d : Int) (w : World) :
    Calls Tryz.prog 114 #[.agg #[.int .i64 a, .int .i64 b], .agg #[.int .i64 c, .int .i64 d]] w fun e w' => e = .returned (.int .i64 (cmp2 a b c d)) ∧ Below w.heap.size w w' := by
  go_enter Tryz.func114, Tryz.ntmps114
  go_wp2
  go_region_held3 (fun w' => w'.cell? ⟨w.heap.size, 0, none⟩ = some (.int .i64 a) ∧ w'.cell? ⟨w.heap.size, 1, none⟩ = some (.int .i64 b) ∧ w'.cell? ⟨w.heap.size + 1, 0, none⟩ = some (.int .i64 c) ∧ w'.cell? ⟨w.heap.size + 1, 1, none⟩ = some (.int .i64 d)) (go_keep)
    (first | (go_at_call 92; refine (cmpInt_any _ _ _).mono ?_; rintro e w' ⟨rfl, rfl⟩) | (go_at_call 91; refine (or2_any (cmpI a c) (cmpI b d) _ _ ?_ ?_).mono ?_; (go_simp); (go_simp); rintro e w' ⟨rfl, rfl⟩))
  go_wp2
  go_ret
  exact ⟨rfl, ((((Below.refl _ _).alloc (Nat.le_refl _) _).alloc (by simp) _).alloc (by simp; omega) _).drew⟩

end Go.Proofs.YtclgfcjcpbiadaaGreatDoor

namespace Go.Proofs.YtclgfcjcpbiadaaGreatDoor

structure TotC {α : Type} (c : α → α → Int) : Prop where
  neg : ∀ a b, c a b = - c b a
  tr : ∀ a b d, c a b ≤ 0 → c b d ≤ 0 → c a d ≤ 0

theorem TotC.const {α : Type} : TotC fun (_ _ : α) => (0 : Int) := ⟨fun _ _ => rfl, fun _ _ _ _ _ => Int.le_refl 0⟩

theorem firstNZ_cons (x : Int) (l : List Int) : firstNZ (x :: l) = if x = 0 then firstNZ l else x := rfl

/-- a value's fields -/
structure V5 where
  k : Int
  n : Int
  t : List UInt8
  a : Int
  b : Int

end Go.Proofs.YtclgfcjcpbiadaaGreatDoor

namespace Go.Proofs.YtclgfcjcpbiadaaGreatDoor
open Go.ChangeShapes Go.WideShapes Go.ChangeAt Go.RowKit

def loB (n : Nat) : UInt8 := UInt8.ofNat (n % 128 + 128)
theorem loB_toNat (n : Nat) : (loB n).toNat = n % 128 + 128 := ofNat_toNat (by omega)

/-- where the loop of Put stands -/
def PutAt (n f cur : Nat) (pre : List UInt8) : Prop := cur < 128 ^ (f + 1) ∧ cur < 2 ^ 64 ∧ putN n = pre ++ putF f cur ∧ pre.length + f ≤ 9
theorem PutAt.start {n : Nat} (h : n < 2 ^ 64) : PutAt n 9 n [] := ⟨by omega, h, rfl, by simp⟩
theorem PutAt.last {n f cur : Nat} {pre : List UInt8} (h : PutAt n f cur pre) (hc : cur < 128) : putN n = pre ++ [UInt8.ofNat cur] := by rw [h.2.2.1, putF_small hc]
theorem PutAt.step {n f cur : Nat} {pre : List UInt8} (h : PutAt n f cur pre) (hc : ¬ cur < 128) : ∃ f', PutAt n f' (cur / 128) (pre ++ [loB cur]) := by
  obtain ⟨h1, h2, h3, h4⟩ := h
  obtain _ | f := f
  · simp at h1; omega
  · refine ⟨f, ?_, by omega, by rw [h3, putF_big hc, List.append_assoc]; rfl, by simp; omega⟩
    rw [Nat.pow_succ] at h1
    exact Nat.div_lt_of_lt_mul (by rw [Nat.mul_comm]; exact h1)
theorem PutAt.len {n f cur : Nat} {pre : List UInt8} (h : PutAt n f cur pre) : pre.length ≤ 9 := by have := h.2.2.2; omega
theorem PutAt.lt {n f cur : Nat} {pre : List UInt8} (h : PutAt n f cur pre) : cur < 2 ^ 64 := h.2.1

theorem u64_keep {m : Nat} (h : m < 18446744073709551616) : IntKind.u64.wrap (m : Int) = (m : Int) := by
  simp [IntKind.wrap, IntKind.bits, IntKind.signed]; omega

/-- where the loop of Get stands -/
def GetAt (l : List UInt8) (k acc : Nat) : Prop := getN l = getG k acc (l.drop k) ∧ acc < 2 ^ (7 * k) ∧ k ≤ 10
theorem GetAt.start (l : List UInt8) : GetAt l 0 0 := ⟨rfl, by simp, by omega⟩
section
variable {l : List UInt8} {k acc cc m p q : Nat}
theorem GetAt.open_ (h : GetAt l k acc) (hlt : k < l.length) (hcc : l[k].toNat = cc) : getN l = if k = 9 ∧ 1 < cc ∨ 9 < k then none
    else if cc < 128 then (if cc = 0 ∧ 0 < k then none else some (acc + cc % 128 * 2 ^ (7 * k), k + 1))
    else getG (k + 1) (acc + cc % 128 * 2 ^ (7 * k)) (l.drop (k + 1)) := by
  rw [h.1, List.drop_eq_getElem_cons hlt]
  simp only [getG, hcc]
theorem GetAt.bad (h : GetAt l k acc) (hlt : k < l.length) (hcc : l[k].toNat = cc) (hb : k = 9 ∧ 1 < cc ∨ 9 < k) : getN l = none := by
  rw [h.open_ hlt hcc, if_pos hb]
theorem GetAt.fin (h : GetAt l k acc) (hlt : ¬ k < l.length) : getN l = none := by
  rw [h.1, List.drop_eq_nil_of_le (by omega)]
  rfl
theorem GetAt.zero (h : GetAt l k acc) (hlt : k < l.length) (hcc : l[k].toNat = cc) (hz : cc = 0) (hk : 0 < k) (hb : ¬ (k = 9 ∧ 1 < cc ∨ 9 < k)) : getN l = none := by
  rw [h.open_ hlt hcc, if_neg hb, if_pos (by omega), if_pos ⟨hz, hk⟩]
theorem GetAt.last (h : GetAt l k acc) (hlt : k < l.length) (hcc : l[k].toNat = cc) (h128 : cc < 128) (hb : ¬ (k = 9 ∧ 1 < cc ∨ 9 < k)) (hz : ¬ (cc = 0 ∧ 0 < k))
    (hm : Hid (m = cc % 128)) (hp : Hid (p = m * 2 ^ (7 * k))) (hq : Hid (q = acc + p)) : getN l = some (q, k + 1) := by
  rw [h.open_ hlt hcc, if_neg hb, if_pos h128, if_neg hz, hq.out, hp.out, hm.out]
theorem GetAt.bd (h : GetAt l k acc) (hp : p = m * 2 ^ (7 * k)) (hm : m < 128) (h9 : k < 9 ∨ k = 9 ∧ m ≤ 1) : p < 2 ^ 64 ∧ acc < 2 ^ 64 ∧ p % 2 ^ (7 * k) = 0 := by
  have h1 := h.2.1
  subst hp
  have hmod : m * 2 ^ (7 * k) % 2 ^ (7 * k) = 0 := Nat.mul_mod_left _ _
  rcases h9 with h9 | ⟨h9, hm1⟩
  · have hb : m * 2 ^ (7 * k) ≤ 127 * 2 ^ (7 * k) := Nat.mul_le_mul_right _ (by omega)
    have hk : 2 ^ (7 * k) ≤ 2 ^ 56 := Nat.pow_le_pow_right (by omega) (by omega)
    exact ⟨by omega, by omega, hmod⟩
  · subst h9
    have hb : m * 2 ^ (7 * 9) ≤ 1 * 2 ^ (7 * 9) := Nat.mul_le_mul_right _ hm1
    exact ⟨by omega, by omega, hmod⟩
theorem GetAt.e3 (h : GetAt l k acc) (hp : p = m * 2 ^ (7 * k)) (hm : m < 128) (h9 : k < 9 ∨ k = 9 ∧ m ≤ 1) : IntKind.u64.wrap ((m : Int) * 2 ^ (7 * k)) = (p : Int) := by
  have hb := h.bd hp hm h9
  rw [show ((m : Int) * 2 ^ (7 * k)) = (p : Int) by rw [hp]; simp]
  exact u64_keep (by omega)
theorem GetAt.e4 (h : GetAt l k acc) (hp : p = m * 2 ^ (7 * k)) (hq : q = acc + p) (hm : m < 128) (h9 : k < 9 ∨ k = 9 ∧ m ≤ 1) : bits .or .u64 (acc : Int) (p : Int) = (q : Int) := by
  have hb := h.bd hp hm h9
  rw [u64_or_nat _ _ (by omega) (by omega), hq, Nat.or_comm, nat_join (7 * k) p acc hb.2.2 h.2.1, Nat.add_comm]
theorem GetAt.step (h : GetAt l k acc) (hlt : k < l.length) (hcc : l[k].toNat = cc) (h128 : ¬ cc < 128) (hb : ¬ (k = 9 ∧ 1 < cc ∨ 9 < k))
    (hm : Hid (m = cc % 128)) (hp : Hid (p = m * 2 ^ (7 * k))) (hq : Hid (q = acc + p)) : GetAt l (k + 1) q := by
  have h1 := h.2.1
  refine ⟨?_, ?_, by omega⟩
  · rw [h.open_ hlt hcc, if_neg hb, if_neg h128, hq.out, hp.out, hm.out]
  · have hp2 : 2 ^ (7 * (k + 1)) = 128 * 2 ^ (7 * k) := by rw [Nat.mul_add, Nat.pow_add]; omega
    have hle : m * 2 ^ (7 * k) ≤ 127 * 2 ^ (7 * k) := Nat.mul_le_mul_right _ (by have := hm.out; omega)
    have := hp.out; have := hq.out
    omega
end

end Go.Proofs.YtclgfcjcpbiadaaGreatDoor

namespace Go.Proofs.YtclgfcjcpbiadaaGreatDoor
open Go.ChangeShapes Go.WideShapes Go.ChangeAt Go.RowKit

theorem wrap_u64 (n : Int) : IntKind.u64.wrap n = n % 18446744073709551616 := by simp [IntKind.wrap, IntKind.bits, IntKind.signed]

theorem wrap_i64 (n : Int) : wrap64 n = (n + 9223372036854775808) % 18446744073709551616 - 9223372036854775808 := by
  unfold wrap64; omega

end Go.Proofs.YtclgfcjcpbiadaaGreatDoor
