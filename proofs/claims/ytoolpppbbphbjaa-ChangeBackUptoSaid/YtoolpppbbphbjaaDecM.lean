/- What memory holds while a change is read: the reader, the change, its lists. -/
import Derived.Test.YtoolpppbbphbjaaRefRd
namespace Go.Proofs.Ytoolpppbbphbjaa
open Go.ChangeShapes Go.WideShapes Go.ChangeAt Go.RowKit

theorem own_own_ne {w : World} {b1 b2 : Nat} {e1 e2 : TypeId} {s1 s2 n1 n2 : Nat} {v1 v2 : Value} {x1 x2 : List Value} (h1 : w.ownsRow b1 e1 s1 v1 n1 x1) (h2 : w.ownsRow b2 e2 s2 v2 n2 x2) (hne : e1 ≠ e2) :
    ∀ k, v1.ownBlock = some k → v2.ownBlock ≠ some k := by
  intro k h
  rcases h2.2 with ⟨rfl, _⟩ | ⟨g, cap, cur, rfl, _, hh, _⟩
  · simp [Value.ownBlock]
  · intro e
    have : g = k := by simpa [Value.ownBlock] using e
    subst this
    exact own_blk_ne h1 hh hne h
/-- what a reader is: its words stay where its blocks stay -/
def Stay (s0 g : Nat) (R : World → Prop) : Prop := ∀ {w w' : World} {M : Nat → Prop}, Chg M w w' → s0 ≤ w.heap.size → (∀ k, M k → s0 ≤ k ∧ k ≠ g) → R w → R w'
theorem RdW.stay {s0 g : Nat} {D : Nat → Prop} {A : Option Addr} {l : List UInt8} {c at_ : Nat} {bad : Bool} (hD : ∀ k, D k → k < s0) : Stay s0 g (fun w => RdW w g D A l c at_ bad) := by
  intro w w' M hc hs hM h
  refine ⟨h.blk.keep (hc.block g (Blk.lt h.blk) fun e => (hM g e).2 rfl), h.reads.keep (hc.keeps fun k hk => ⟨Nat.lt_of_lt_of_le (hD k hk) hs, fun e => ?_⟩), h.apart, h.le, h.cap, h.small⟩
  have := (hM k e).1
  have := hD k hk
  omega
/-- the worlds of a reading: W0 the first; g the reader's block, gc the change's; from b0 on the lists' rows, below B -/
structure DM (W0 : World) (g gc b0 B : Nat) (R : World → Prop) (w : World) (cs : Array Value) (DV OV : Value) (L : List Rf) (os : List OpD) : Prop where
  rd : R w
  stay : Stay W0.heap.size g R
  bel : Below W0.heap.size W0 w
  bc : Blk w gc 25 cs
  ownD : w.ownsRow b0 46 2 DV L.length (refC L)
  ownO : w.ownsRow b0 33 13 OV os.length (opsC os)
  ownP : ∀ o ∈ os, w.ownsRow b0 28 2 (.slice o.A o.l.length o.c) o.l.length (refC o.l)
  ltD : ∀ k, DV.ownBlock = some k → k < B
  ltO : ∀ k, OV.ownBlock = some k → k < B
  ltP : ∀ o ∈ os, ∀ k, (Value.slice o.A o.l.length o.c).ownBlock = some k → k < B
  hg : W0.heap.size ≤ g
  hgc : W0.heap.size ≤ gc
  hne : g ≠ gc
  gb : g < b0
  gcb : gc < b0
  bB : b0 ≤ B
  hB : B ≤ w.heap.size
section
variable {W0 w w' : World} {g gc b0 B : Nat} {R : World → Prop} {cs : Array Value} {DV OV : Value} {L : List Rf} {os : List OpD}
theorem DM.turn (h : DM W0 g gc b0 B R w cs DV OV L os) {R' : World → Prop} (hr : R' w') (hs : Stay W0.heap.size g R') {M : Nat → Prop} (hc : Chg M w w') (hM : ∀ k, M k → k = g ∨ B ≤ k) : DM W0 g gc b0 B R' w' cs DV OV L os := by
  have h1 := h.hg; have h2 := h.hgc; have h3 := h.gb; have h4 := h.gcb; have h5 := h.bB; have h6 := h.hne
  have key : ∀ k, k < w.heap.size → k ≠ g → k < B → w'.heap[k]? = w.heap[k]? := fun k hk hg hB => hc.block k hk fun e => by
    rcases hM k e with e | e
    · exact hg e
    · omega
  refine ⟨hr, hs, h.bel.trans (hc.below h.bel.size fun k hk => by rcases hM k hk with e | e <;> omega), h.bc.keep (key gc h.bc.lt (fun e => h6 e.symm) (by omega)), ?_, ?_, ?_, h.ltD, h.ltO, h.ltP, h1, h2, h6, h3, h4, h5, Nat.le_trans h.hB hc.size⟩
  · exact own_keep h.ownD fun k hk => key k (own_lt h.ownD hk).2 (by have := (own_lt h.ownD hk).1; omega) (h.ltD k hk)
  · exact own_keep h.ownO fun k hk => key k (own_lt h.ownO hk).2 (by have := (own_lt h.ownO hk).1; omega) (h.ltO k hk)
  · exact fun o ho => own_keep (h.ownP o ho) fun k hk => key k (own_lt (h.ownP o ho) hk).2 (by have := (own_lt (h.ownP o ho) hk).1; omega) (h.ltP o ho k hk)
theorem DM.move (h : DM W0 g gc b0 B R w cs DV OV L os) {M : Nat → Prop} (hc : Chg M w w') (hM : ∀ k, M k → B ≤ k) : DM W0 g gc b0 B R w' cs DV OV L os := by
  have h1 := h.hg; have h3 := h.gb; have h5 := h.bB
  exact h.turn (h.stay hc h.bel.size (fun k hk => by have := hM k hk; omega) h.rd) h.stay hc fun k hk => .inr (hM k hk)
theorem DM.alloc (h : DM W0 g gc b0 B R w cs DV OV L os) (o : Obj) : DM W0 g gc b0 B R (w.alloc o) cs DV OV L os := h.move (M := fun _ => False) ((Chg.refl w).alloc o) fun _ e => e.elim
theorem DM.drewN_ (h : DM W0 g gc b0 B R w cs DV OV L os) (n : Nat) : DM W0 g gc b0 B R (w.drewN n) cs DV OV L os := h.move (M := fun _ => False) ((Chg.refl w).drewN_ n) fun _ e => e.elim
theorem DM.drew (h : DM W0 g gc b0 B R w cs DV OV L os) : DM W0 g gc b0 B R w.drew cs DV OV L os := h.move (M := fun _ => False) ((Chg.refl w).drew) fun _ e => e.elim
theorem DM.put (h : DM W0 g gc b0 B R w cs DV OV L os) {k : Nat} (hk : B ≤ k) (i : Nat) (u : Value) : DM W0 g gc b0 B R (w.setCell ⟨k, i, none⟩ u) cs DV OV L os :=
  h.move (M := fun x => x = k) ((Chg.refl w).put1 i u) fun x e => by rw [e]; exact hk
theorem DM.setc (h : DM W0 g gc b0 B R w cs DV OV L os) (i : Nat) (u : Value) {cs' : Array Value} (hcs : cs' = cs.setIfInBounds i u) : DM W0 g gc b0 B R (w.setCell ⟨gc, i, none⟩ u) cs' DV OV L os := by
  have h1 := h.hg; have h2 := h.hgc; have h3 := h.gb; have h4 := h.gcb; have h5 := h.bB; have h6 := h.hne
  have hc : Chg (fun x => x = gc) w (w.setCell ⟨gc, i, none⟩ u) := (Chg.refl w).put1 i u
  have key : ∀ k, k < w.heap.size → k ≠ gc → (w.setCell ⟨gc, i, none⟩ u).heap[k]? = w.heap[k]? := fun k hk hg => hc.block k hk hg
  subst hcs
  refine ⟨h.stay hc h.bel.size (fun k hk => by have : k = gc := hk; omega) h.rd, h.stay, h.bel.trans (hc.below h.bel.size fun k hk => by have : k = gc := hk; omega), h.bc.set_ i u, ?_, ?_, ?_, h.ltD, h.ltO, h.ltP, h1, h2, h6, h3, h4, h5, Nat.le_trans h.hB hc.size⟩
  · exact own_keep h.ownD fun k hk => key k (own_lt h.ownD hk).2 (by have := (own_lt h.ownD hk).1; omega)
  · exact own_keep h.ownO fun k hk => key k (own_lt h.ownO hk).2 (by have := (own_lt h.ownO hk).1; omega)
  · exact fun o ho => own_keep (h.ownP o ho) fun k hk => key k (own_lt (h.ownP o ho) hk).2 (by have := (own_lt (h.ownP o ho) hk).1; omega)
theorem DM.top (h : DM W0 g gc b0 B R w cs DV OV L os) : DM W0 g gc b0 w.heap.size R w cs DV OV L os :=
  ⟨h.rd, h.stay, h.bel, h.bc, h.ownD, h.ownO, h.ownP, fun _ hk => (own_lt h.ownD hk).2, fun _ hk => (own_lt h.ownO hk).2, fun o ho _ hk => (own_lt (h.ownP o ho) hk).2, h.hg, h.hgc, h.hne, h.gb, h.gcb, Nat.le_trans h.bB h.hB, Nat.le_refl _⟩
/-- one ref more -/
theorem DM.appD (h : DM W0 g gc b0 B R w cs DV OV L os) {DV' : Value} {r : Rf} (hown : w'.ownsRow b0 46 2 DV' (L.length + 1) (refC L ++ refC [r])) (hgr : w.grownBy w' DV.ownBlock) :
    DM W0 g gc b0 w'.heap.size R w' cs DV' OV (L ++ [r]) os := by
  have h1 := h.hg; have h2 := h.hgc; have h3 := h.gb; have h4 := h.gcb; have h5 := h.bB; have h6 := h.hne; have h7 := h.hB
  have hc : Chg (fun x => DV.ownBlock = some x) w w' := (Chg.refl w).grown hgr fun k e => .inl e
  have key : ∀ k, k < w.heap.size → DV.ownBlock ≠ some k → w'.heap[k]? = w.heap[k]? := fun k hk hg => hc.block k hk hg
  have hown2 : w'.ownsRow b0 46 2 DV' (L ++ [r]).length (refC (L ++ [r])) := by
    rw [refC_append, List.length_append]; exact hown
  have hO : w'.ownsRow b0 33 13 OV os.length (opsC os) := own_keep h.ownO fun k hk => key k (own_lt h.ownO hk).2 (own_own_ne h.ownO h.ownD (by decide) k hk)
  have hP : ∀ o ∈ os, w'.ownsRow b0 28 2 (.slice o.A o.l.length o.c) o.l.length (refC o.l) := fun o ho => own_keep (h.ownP o ho) fun k hk => key k (own_lt (h.ownP o ho) hk).2 (own_own_ne (h.ownP o ho) h.ownD (by decide) k hk)
  refine ⟨h.stay hc h.bel.size (fun k hk => ?_) h.rd, h.stay, h.bel.trans (hc.below h.bel.size fun k hk => ?_), h.bc.grown hgr ?_, hown2, hO, hP, fun _ hk => (own_lt hown2 hk).2, fun _ hk => (own_lt hO hk).2, fun o ho _ hk => (own_lt (hP o ho) hk).2, h1, h2, h6, h3, h4, Nat.le_trans (Nat.le_trans h5 h7) hc.size, Nat.le_refl _⟩
  · have := (own_lt h.ownD hk).1; omega
  · have := (own_lt h.ownD hk).1; omega
  · intro hk; have := (own_lt h.ownD hk).1; omega
/-- one op more -/
theorem DM.appO (h : DM W0 g gc b0 B R w cs DV OV L os) {OV' : Value} {o : OpD} (hown : w'.ownsRow b0 33 13 OV' (os.length + 1) (opsC os ++ opC o)) (hgr : w.grownBy w' OV.ownBlock)
    (hp : w.ownsRow b0 28 2 (.slice o.A o.l.length o.c) o.l.length (refC o.l)) :
    DM W0 g gc b0 w'.heap.size R w' cs DV OV' L (os ++ [o]) := by
  have h1 := h.hg; have h2 := h.hgc; have h3 := h.gb; have h4 := h.gcb; have h5 := h.bB; have h6 := h.hne; have h7 := h.hB
  have hc : Chg (fun x => OV.ownBlock = some x) w w' := (Chg.refl w).grown hgr fun k e => .inl e
  have key : ∀ k, k < w.heap.size → OV.ownBlock ≠ some k → w'.heap[k]? = w.heap[k]? := fun k hk hg => hc.block k hk hg
  have hown2 : w'.ownsRow b0 33 13 OV' (os ++ [o]).length (opsC (os ++ [o])) := by
    have e : opsC (os ++ [o]) = opsC os ++ opC o := by simp [opsC]
    rw [e, List.length_append]; exact hown
  have hO : w'.ownsRow b0 46 2 DV L.length (refC L) := own_keep h.ownD fun k hk => key k (own_lt h.ownD hk).2 (own_own_ne h.ownD h.ownO (by decide) k hk)
  have hP : ∀ x ∈ os ++ [o], w'.ownsRow b0 28 2 (.slice x.A x.l.length x.c) x.l.length (refC x.l) := fun x hx => by
    rcases List.mem_append.1 hx with hx | hx
    · exact own_keep (h.ownP x hx) fun k hk => key k (own_lt (h.ownP x hx) hk).2 (own_own_ne (h.ownP x hx) h.ownO (by decide) k hk)
    · obtain rfl : x = o := by simpa using hx
      exact own_keep hp fun k hk => key k (own_lt hp hk).2 (own_own_ne hp h.ownO (by decide) k hk)
  refine ⟨h.stay hc h.bel.size (fun k hk => ?_) h.rd, h.stay, h.bel.trans (hc.below h.bel.size fun k hk => ?_), h.bc.grown hgr ?_, hO, hown2, hP, fun _ hk => (own_lt hO hk).2, fun _ hk => (own_lt hown2 hk).2, fun x hx _ hk => (own_lt (hP x hx) hk).2, h1, h2, h6, h3, h4, Nat.le_trans (Nat.le_trans h5 h7) hc.size, Nat.le_refl _⟩
  · have := (own_lt h.ownO hk).1; omega
  · have := (own_lt h.ownO hk).1; omega
  · intro hk; have := (own_lt h.ownO hk).1; omega
end
theorem DM.rnum {W0 w : World} {g gc b0 B : Nat} {cs : Array Value} {DV OV : Value} {L : List Rf} {os : List OpD} {D : Nat → Prop} {A : Option Addr} {l : List UInt8} {c at_ : Nat} {bad : Bool} {n a : Nat} {b : Bool} (most : Nat)
    (h : DM W0 g gc b0 B (fun w => RdW w g D A l c at_ bad) w cs DV OV L os) (hD : ∀ k, D k → k < W0.heap.size) (hm : most ≤ 2000000) (hn : rdNum l most at_ bad = (n, a, b)) :
    Calls Try.prog 11 #[.pointer (some ⟨g, 0, none⟩), .int .i64 most] w fun e w' => e = .returned (.int .i64 n) ∧ DM W0 g gc b0 B (fun w => RdW w g D A l c a b) w' cs DV OV L os ∧ Chg (fun k => k = g) w w' := by
  have C := rnum_any most h.rd (fun k hk => Nat.lt_of_lt_of_le (hD k hk) h.bel.size) hm
  rw [hn] at C
  exact C.mono fun e w' ⟨he, hr, hc⟩ => ⟨he, h.turn (R' := fun w => RdW w g D A l c a b) hr (RdW.stay hD) hc fun k hk => .inl hk, hc⟩
theorem DM.rtext {W0 w : World} {g gc b0 B : Nat} {cs : Array Value} {DV OV : Value} {L : List Rf} {os : List OpD} {D : Nat → Prop} {A : Option Addr} {l : List UInt8} {c at_ : Nat} {bad : Bool} {t : List UInt8} {a : Nat} {b : Bool} (most : Nat)
    (h : DM W0 g gc b0 B (fun w => RdW w g D A l c at_ bad) w cs DV OV L os) (hD : ∀ k, D k → k < W0.heap.size) (hm : most ≤ 2000000) (hn : rdText l most at_ bad = (t, a, b)) :
    Calls Try.prog 13 #[.pointer (some ⟨g, 0, none⟩), .int .i64 most] w fun e w' => e = .returned (.string ⟨t.toArray⟩) ∧ DM W0 g gc b0 B (fun w => RdW w g D A l c a b) w' cs DV OV L os ∧ Chg (fun k => k = g) w w' := by
  have C := text_any most h.rd (fun k hk => Nat.lt_of_lt_of_le (hD k hk) h.bel.size) hm
  rw [hn] at C
  exact C.mono fun e w' ⟨he, hr, hc⟩ => ⟨he, h.turn (R' := fun w => RdW w g D A l c a b) hr (RdW.stay hD) hc fun k hk => .inl hk, hc⟩
theorem DM.rpair {W0 w : World} {g gc b0 B : Nat} {cs : Array Value} {DV OV : Value} {L : List Rf} {os : List OpD} {D : Nat → Prop} {A : Option Addr} {l : List UInt8} {c at_ : Nat} {bad : Bool} {x y : Int} {a : Nat} {b : Bool}
    (h : DM W0 g gc b0 B (fun w => RdW w g D A l c at_ bad) w cs DV OV L os) (hD : ∀ k, D k → k < W0.heap.size) (hn : rdPair l 1000000 99 (at_, bad) = ((x, y), (a, b))) :
    Calls Try.prog 12 #[.pointer (some ⟨g, 0, none⟩)] w fun e w' => e = .returned (.agg #[.int .i64 x, .int .i64 y]) ∧ DM W0 g gc b0 B (fun w => RdW w g D A l c a b) w' cs DV OV L os ∧ Chg (fun k => k = g) w w' := by
  have C := pair_any h.rd (fun k hk => Nat.lt_of_lt_of_le (hD k hk) h.bel.size)
  rw [hn] at C
  exact C.mono fun e w' ⟨he, hr, hc⟩ => ⟨he, h.turn (R' := fun w => RdW w g D A l c a b) hr (RdW.stay hD) hc fun k hk => .inl hk, hc⟩
theorem DM.rsigned {W0 w : World} {g gc b0 B : Nat} {cs : Array Value} {DV OV : Value} {L : List Rf} {os : List OpD} {D : Nat → Prop} {A : Option Addr} {l : List UInt8} {c at_ : Nat} {bad : Bool} {x : Int} {a : Nat} {b : Bool}
    (h : DM W0 g gc b0 B (fun w => RdW w g D A l c at_ bad) w cs DV OV L os) (hD : ∀ k, D k → k < W0.heap.size) (hn : rdInt l at_ bad = (x, a, b)) :
    Calls Try.prog 14 #[.pointer (some ⟨g, 0, none⟩)] w fun e w' => e = .returned (.int .i64 x) ∧ DM W0 g gc b0 B (fun w => RdW w g D A l c a b) w' cs DV OV L os ∧ Chg (fun k => k = g) w w' := by
  have C := signed_any h.rd (fun k hk => Nat.lt_of_lt_of_le (hD k hk) h.bel.size)
  rw [hn] at C
  exact C.mono fun e w' ⟨he, hr, hc⟩ => ⟨he, h.turn (R' := fun w => RdW w g D A l c a b) hr (RdW.stay hD) hc fun k hk => .inl hk, hc⟩
/-- ahead of the change: the reader alone -/
structure RS (W0 : World) (g : Nat) (R : World → Prop) (w : World) : Prop where
  rd : R w
  stay : Stay W0.heap.size g R
  bel : Below W0.heap.size W0 w
  hg : W0.heap.size ≤ g
  gl : g < w.heap.size
theorem RS.rnum {W0 w : World} {g : Nat} {D : Nat → Prop} {A : Option Addr} {l : List UInt8} {c at_ : Nat} {bad : Bool} {n a : Nat} {b : Bool} (most : Nat)
    (h : RS W0 g (fun w => RdW w g D A l c at_ bad) w) (hD : ∀ k, D k → k < W0.heap.size) (hm : most ≤ 2000000) (hn : rdNum l most at_ bad = (n, a, b)) :
    Calls Try.prog 11 #[.pointer (some ⟨g, 0, none⟩), .int .i64 most] w fun e w' => e = .returned (.int .i64 n) ∧ RS W0 g (fun w => RdW w g D A l c a b) w' := by
  have C := rnum_any most h.rd (fun k hk => Nat.lt_of_lt_of_le (hD k hk) h.bel.size) hm
  rw [hn] at C
  exact C.mono fun e w' ⟨he, hr, hc⟩ => ⟨he, hr, RdW.stay hD, h.bel.trans (hc.below h.bel.size fun k hk => by have := h.hg; have : k = g := hk; omega), h.hg, Nat.lt_of_lt_of_le h.gl hc.size⟩
theorem RS.start {W0 w : World} {g : Nat} {R : World → Prop} (h : RS W0 g R w) (cs : Array Value) :
    DM W0 g w.heap.size (w.heap.size + 1) (w.heap.size + 1) R (w.alloc (.cells cs 25)) cs (.slice none 0 0) (.slice none 0 0) [] [] := by
  have h1 := h.hg; have h2 := h.gl; have h3 := h.bel.size
  exact ⟨h.stay (M := fun _ => False) ((Chg.refl w).alloc _) h.bel.size (fun _ e => e.elim) h.rd, h.stay, h.bel.alloc h3 _, Blk.new _ _ _, own_nil _ _ _ _, own_nil _ _ _ _, fun _ ho => absurd ho (by simp),
    fun _ e => by simp [Value.ownBlock] at e, fun _ e => by simp [Value.ownBlock] at e, fun _ ho => absurd ho (by simp), h1, h3, by omega, by omega, by omega, Nat.le_refl _, by simp⟩
theorem infoRef_ : (Try.prog.info? 46).map (fun i => (i.zero, i.size, i.bytes)) = some (some (.agg #[.int .i64 0, .int .i64 0]), 2, 16) := by kernel_rfl
theorem infoOp_ : ∃ z, (Try.prog.info? 33).map (fun i => (i.zero, i.size, i.bytes)) = some (some z, 13, 136) ∧ z.cells.size = 13 := ⟨.agg #[.int .i64 0, .int .i64 0, .int .i64 0, .string ⟨#[]⟩, .int .i64 0, .int .i64 0, .bool false, .int .i64 0, .int .i64 0, .string ⟨#[]⟩, .int .i64 0, .int .i64 0, .slice none 0 0], by kernel_rfl, by kernel_rfl⟩
theorem opC_one (o : OpD) : ∀ u ∈ opC o, u.oneCell' = true := by
  intro u hu
  simp only [opC, List.mem_cons, List.not_mem_nil, or_false] at hu
  rcases hu with rfl | rfl | rfl | rfl | rfl | rfl | rfl | rfl | rfl | rfl | rfl | rfl | rfl <;> rfl
/-- the block just laid, as one element -/
theorem one_reads {w : World} {k : Nat} {t : TypeId} {cs : Array Value} {n : Nat} (h : Blk w k t cs) (hn : cs.size = n) : Reads (fun x => x = k) w n (some ⟨k, 0, none⟩) 1 cs.toList := by
  refine ⟨by simpa using hn, fun _ => ⟨_, rfl, rfl, fun j u hu => ?_⟩⟩
  have e : (⟨k, 0, none⟩ : Addr).add j = ⟨k, j, none⟩ := by
    unfold Addr.add
    split
    · rename_i h0; rw [h0]
    · simp
  rw [e, h.cell j]
  simpa using hu
section
variable {W0 w w' : World} {g gc b0 B : Nat} {R : World → Prop} {cs : Array Value} {DV OV : Value} {L : List Rf} {os : List OpD}
theorem DM.runD (h : DM W0 g gc b0 B R w cs DV OV L os) (t ty : TypeId) (ht : Try.prog.underlying t = some (.slice 46)) {k : Nat} {x y : Int} (hb : Blk w k 46 #[.int .i64 x, .int .i64 y]) (hl : L.length ≤ 100) :
    ∃ v' w', (Builtin.append_ #[t, t] ty #[DV, .slice (some ⟨k, 0, none⟩) 1 1]).run Try.prog w = .ok v' w' ∧ DM W0 g gc b0 w'.heap.size R w' cs v' OV (L ++ [(x, y)]) os := by
  obtain ⟨i0, hi, hz0, hz1, hz2⟩ := info_parts infoRef_
  have h5 := h.bB; have h7 := h.hB
  obtain ⟨v', w', h1, h2, h3, h4⟩ := run_append_any (P := Try.prog) w b0 t ty 46 i0 _ 2 16 ht hi hz0 hz1 hz2 rfl (by omega) DV L.length (refC L) h.ownD _ (some ⟨k, 0, none⟩) 1 1 (refC [(x, y)]) (one_reads hb rfl) (refC_one_ _) (by simp only [maxLen]; omega) (by omega) (by omega)
  exact ⟨v', w', h1, h.appD h2 h3⟩
theorem DM.runO (h : DM W0 g gc b0 B R w cs DV OV L os) (t ty : TypeId) (ht : Try.prog.underlying t = some (.slice 33)) {k : Nat} {o : OpD} (hb : Blk w k 33 (opC o).toArray) (hl : os.length ≤ 100)
    (hp : w.ownsRow b0 28 2 (.slice o.A o.l.length o.c) o.l.length (refC o.l)) :
    ∃ v' w', (Builtin.append_ #[t, t] ty #[OV, .slice (some ⟨k, 0, none⟩) 1 1]).run Try.prog w = .ok v' w' ∧ DM W0 g gc b0 w'.heap.size R w' cs DV v' L (os ++ [o]) := by
  obtain ⟨z, hz, hzc⟩ := infoOp_
  obtain ⟨i0, hi, hz0, hz1, hz2⟩ := info_parts hz
  have h5 := h.bB; have h7 := h.hB
  obtain ⟨v', w', h1, h2, h3, h4⟩ := run_append_any (P := Try.prog) w b0 t ty 33 i0 _ 13 136 ht hi hz0 hz1 hz2 hzc (by omega) OV os.length (opsC os) h.ownO _ (some ⟨k, 0, none⟩) 1 1 (opC o) (one_reads hb rfl) (opC_one o) (by simp only [maxLen]; omega) (by omega) (by omega)
  exact ⟨v', w', h1, h.appO h2 h3 hp⟩
/-- one id more in the op at hand: its own row lies from B on -/
theorem DM.runP (h : DM W0 g gc b0 B R w cs DV OV L os) (t ty : TypeId) (ht : Try.prog.underlying t = some (.slice 28)) {k : Nat} {x y : Int} (hb : Blk w k 28 #[.int .i64 x, .int .i64 y])
    {PV : Value} {ps : List Rf} (hp : w.ownsRow B 28 2 PV ps.length (refC ps)) (hl : ps.length ≤ 100) :
    ∃ v' w', (Builtin.append_ #[t, t] ty #[PV, .slice (some ⟨k, 0, none⟩) 1 1]).run Try.prog w = .ok v' w' ∧ DM W0 g gc b0 B R w' cs DV OV L os ∧ w'.ownsRow B 28 2 v' (ps ++ [(x, y)]).length (refC (ps ++ [(x, y)])) ∧ Chg (fun z => PV.ownBlock = some z) w w' := by
  obtain ⟨i0, hi, hz0, hz1, hz2⟩ := info_parts infoId
  have h7 := h.hB
  obtain ⟨v', w', h1, h2, h3, h4⟩ := run_append_any (P := Try.prog) w B t ty 28 i0 _ 2 16 ht hi hz0 hz1 hz2 rfl (by omega) PV ps.length (refC ps) hp _ (some ⟨k, 0, none⟩) 1 1 (refC [(x, y)]) (one_reads hb rfl) (refC_one_ _) (by simp only [maxLen]; omega) (by omega) h7
  have hc : Chg (fun z => PV.ownBlock = some z) w w' := (Chg.refl w).grown h3 fun k e => .inl e
  exact ⟨v', w', h1, h.move hc fun k hk => (own_lt hp hk).1, by rw [refC_append, List.length_append]; exact h2, hc⟩
theorem DM.chm (h : DM W0 g gc b0 B R w cs DV OV L os) (hL : L.length ≤ 100) (hO : os.length ≤ 100) (hP : ∀ o ∈ os, o.l.length ≤ 100) : ∃ DA DC OA OC, DV = .slice DA L.length DC ∧ OV = .slice OA os.length OC ∧ ChM w L DA os OA := by
  obtain ⟨DA, DC, h1, _, _, h2⟩ := Reads.of_own h.ownD
  obtain ⟨OA, OC, h3, _, _, h4⟩ := Reads.of_own h.ownO
  refine ⟨DA, DC, OA, OC, h1, h3, h2.more fun k hk => (own_lt h.ownD hk).2, by omega, h4.more fun k hk => (own_lt h.ownO hk).2, by omega, fun o ho => ⟨?_, by have := hP o ho; omega⟩⟩
  obtain ⟨PA, PC, h5, _, _, h6⟩ := Reads.of_own (h.ownP o ho)
  injection h5 with h5
  rw [h5]
  exact h6.more fun k hk => (own_lt (h.ownP o ho) hk).2
end
end Go.Proofs.Ytoolpppbbphbjaa
