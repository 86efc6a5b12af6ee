/- Contracts for the law TreePlays: a row of things and two lists beside it. -/
import Derived.Test.YtfaihilehdjfjaaDoorTree15
import Derived.Test.YtfaihilehdjfjaaDoorTreeW
import Derived.Test.YtfaihilehdjfjaaDoorPlay1
import Derived.Test.YtfaihilehdjfjaaDoorAs
namespace Go.Proofs.YtfaihilehdjfjaaDoor
open Go.ChangeShapes Go.WideShapes Go.ChangeAt Go.RowKit

theorem setRow_bad (b : Nat) (t : T) (k : Nat) (at_ y : Int) (w : World) (h : RowOf w b t k) (hi : at_ < 0 ∨ t.cnt ≤ at_ ∨ ¬ (0 ≤ y ∧ y ≤ 1000000)) :
    Calls Tryd.prog 28 #[.pointer (some ⟨b, 0, none⟩), .int .i64 at_, .int .i64 y] w fun e w' => e = .returned (.iface 80 (.int .i64 1)) ∧ w' = w := by
  have H : Hid (RowOf w b t k) := h
  clear h
  by_cases h1 : at_ < 0
  · have h1' : decide (at_ < 0) = true := decide_eq_true h1
    clear hi
    go_enter Tryd.func28, Tryd.ntmps28
    go_wp2_with fail
    go_ret
    exact ⟨rfl, rfl⟩
  · have h1' : decide (at_ < 0) = false := decide_eq_false h1
    by_cases h2 : (t.cnt : Int) ≤ at_
    · have h2' : decide ((t.cnt : Int) ≤ at_) = true := decide_eq_true h2
      clear hi
      go_enter Tryd.func28, Tryd.ntmps28
      go_wp2_with fail
      go_at_call 31
      refine (len_any b t k w H.out).mono ?_
      rintro e w1 ⟨rfl, e1⟩
      rw [e1]
      clear e1 w1
      go_wp2_with fail
      go_ret
      exact ⟨rfl, rfl⟩
    · have h2' : decide ((t.cnt : Int) ≤ at_) = false := decide_eq_false h2
      have h3' : decide (0 ≤ y ∧ y ≤ 1000000) = false := decide_eq_false ((hi.resolve_left h1).resolve_left h2)
      clear hi
      go_enter Tryd.func28, Tryd.ntmps28
      go_wp2_with fail
      go_at_call 31
      refine (len_any b t k w H.out).mono ?_
      rintro e w1 ⟨rfl, e1⟩
      rw [e1]
      clear e1 w1
      go_wp2_with fail
      go_at_call 63
      refine (okWide_any y w).mono ?_
      rintro e w1 ⟨rfl, e1⟩
      rw [e1, h3']
      clear e1 w1
      go_wp2_with fail
      go_ret
      exact ⟨rfl, rfl⟩
set_option maxHeartbeats 2000000 in
set_option maxRecDepth 20000 in
theorem setRow_any (b : Nat) (t : T) (k i : Nat) (y : Int) (w : World) (h : RowOf w b t k) (hk : k ≤ 999999000) (hi : i < t.cnt) (hy : 0 ≤ y ∧ y ≤ 1000000) :
    Calls Tryd.prog 28 #[.pointer (some ⟨b, 0, none⟩), .int .i64 i, .int .i64 y] w fun e w' =>
      e = .returned .nilIface ∧ ∃ k', RowOf w' b (t.setT i y) k' ∧ k ≤ k' ∧ k' ≤ k + 2 * t.ht ∧ Chg (fun j => j = b ∨ j ∈ t.ads) w w' := by
  have H : Hid (RowOf w b t k) := h
  have hw : k + 2 * t.ht ≤ 999999990 := by have := h.ht; omega
  have h2 : decide ((t.cnt : Int) ≤ (i : Int)) = false := decide_eq_false (by omega)
  have h3' : decide (0 ≤ y ∧ y ≤ 1000000) = true := decide_eq_true hy
  have hbt : b ∉ t.ads := TreeAt.no_row h.row h.tree
  have hm := T.getT_mem t i hi
  have hbg : b ≠ (t.getT i).1 := fun e => hbt (e ▸ hm)
  have c0 : w.cell? ⟨b, 0, none⟩ = some t.ptr := h.row.cell 0
  have WA := way2_any t i b t.ptr k w h.row (by omega) h.tree hi (by have := h.cnt; omega)
  have HT := Lib.hid h.cnt
  have HN := Lib.hid h.nd
  have HS := Lib.hid h.small
  have HV := Lib.hid h.avl
  clear h
  go_enter Tryd.func28, Tryd.ntmps28
  go_wp2_with fail
  go_at_call 31
  refine (len_any b t k w H.out).mono ?_
  rintro e w1 ⟨rfl, e1⟩
  rw [e1]
  clear e1 w1
  go_wp2_with fail
  go_at_call 63
  refine (okWide_any y w).mono ?_
  rintro e w1 ⟨rfl, e1⟩
  rw [e1, h3']
  clear e1 w1
  go_wp2_with fail
  go_at_call 67
  refine WA.mono ?_
  rintro e w1 ⟨rfl, hT1, ⟨k1, hR1, hk1, hk1'⟩, hC1⟩
  have hST := TreeAt.stale y hT1 HN.out hi
  obtain ⟨l2, r2, h2', m2, s2, hG⟩ := hT1.raw hi
  have H1 : Hid (RowAt w1 b t.ptr k1 ∧ Chg (fun j => j = b) w w1 ∧ Stale (w1.setCell ⟨(t.getT i).1, 3, none⟩ (.int .i64 y)) t i y) := ⟨hR1, hC1, hST⟩
  have c3 : w1.cell? ⟨(t.getT i).1, 3, none⟩ = some (.int .i64 (t.getT i).2.2) := hG.cell 3
  have f3 : w1.frozen? ⟨(t.getT i).1, 3, none⟩ = false := hG.frozen 3
  clear hG hT1 hR1 hC1 hST c0 WA
  generalize (t.getT i).1 = g at *
  have c0 : (w1.setCell ⟨g, 3, none⟩ (.int .i64 y)).cell? ⟨b, 0, none⟩ = some t.ptr := (H1.out.1.chg (Chg.put g 3 _) hbg).cell 0
  go_wp2_with fail
  have H2 : Hid (RowAt (w1.setCell ⟨g, 3, none⟩ (.int .i64 y)) b t.ptr k1 ∧ Stale (w1.setCell ⟨g, 3, none⟩ (.int .i64 y)) t i y ∧ Chg (fun j => j = b ∨ j ∈ t.ads) w (w1.setCell ⟨g, 3, none⟩ (.int .i64 y))) :=
    ⟨H1.out.1.chg (Chg.put g 3 _) hbg, H1.out.2.2, (H1.out.2.1.mono (fun _ _ e => .inl e)).trans (Chg.put g 3 _) (fun _ _ e => .inr (e ▸ hm))⟩
  generalize w1.setCell ⟨g, 3, none⟩ (.int .i64 y) = w2 at H2 ⊢
  clear c0 c3 f3 H1
  go_at_call 67
  refine (way3_any y hy t i b t.ptr k1 w2 H2.out.1 (by omega) H2.out.2.1 hbt HN.out HS.out hi (by have := HT.out; omega)).mono ?_
  rintro e w3 ⟨⟨u, rfl⟩, hT3, ⟨k3, hR3, hk3, hk3'⟩, hC3⟩
  go_wp2_with fail
  go_ret
  exact ⟨rfl, k3, ⟨by rw [T.ptr_set]; exact hR3, hT3, by rw [T.ads_set]; exact HN.out, T.small_set _ _ HS.out hy, T.avl_set _ _ HV.out, by rw [T.cnt_set]; exact HT.out⟩, by omega, by omega, H2.out.2.2.trans hC3 (fun _ _ e => e)⟩

/-- two lists of the call's own beside the row -/
structure Lists (w wr : World) (v4 v5 : Value) (l4 l5 : List Int) : Prop where
  own4 : wr.ownsRow w.heap.size 3 1 v4 l4.length (intsC l4)
  own5 : wr.ownsRow w.heap.size 3 1 v5 l5.length (intsC l5)
  sep : ∀ g, v4.ownBlock = some g → v5.ownBlock ≠ some g
section
variable {w wr w' : World} {v4 v5 : Value} {l4 l5 : List Int} {b k : Nat} {t : T}
theorem Lists.chg (h : Lists w wr v4 v5 l4 l5) {M : Nat → Prop} (hc : Chg M wr w') (hM : ∀ g, v4.ownBlock = some g ∨ v5.ownBlock = some g → ¬ M g) : Lists w w' v4 v5 l4 l5 :=
  ⟨own_keep h.own4 fun g hg => hc.block g (own_lt h.own4 hg).2 (hM g (.inl hg)), own_keep h.own5 fun g hg => hc.block g (own_lt h.own5 hg).2 (hM g (.inr hg)), h.sep⟩
theorem Lists.below (h : Lists w wr v4 v5 l4 l5) (hb : Below wr.heap.size wr w') : Lists w w' v4 v5 l4 l5 := ⟨own_below h.own4 hb, own_below h.own5 hb, h.sep⟩
theorem TreeAt.blk : ∀ {t : T}, TreeAt wr t → ∀ g ∈ t.ads, ∃ cs, Blk wr g 106 cs
  | .nil, _, g, hg => by simp [T.ads] at hg
  | .node l k x y r, h, g, hg => by
    simp only [T.ads, List.mem_cons, List.mem_append] at hg
    rcases hg with rfl | hg | hg
    · exact ⟨_, h.1⟩
    · exact TreeAt.blk h.2.1 g hg
    · exact TreeAt.blk h.2.2 g hg
theorem Lists.apart (h : Lists w wr v4 v5 l4 l5) (hw : WorkI w wr b t k) : ∀ g, v4.ownBlock = some g ∨ v5.ownBlock = some g → ¬ (g = b ∨ g ∈ t.ads) := by
  intro g hg e
  have key : ∀ {v : Value} {l : List Int}, wr.ownsRow w.heap.size 3 1 v l.length (intsC l) → v.ownBlock = some g → False := by
    intro v l ho hv
    rcases e with rfl | e
    · exact own_blk_ne ho hw.row.row (by decide) hv
    · obtain ⟨cs, hb⟩ := hw.row.tree.blk g e
      exact own_blk_ne ho hb (by decide) hv
  rcases hg with hg | hg
  · exact key h.own4 hg
  · exact key h.own5 hg
/-- the row and its lists as one -/
structure PlayI (w wr : World) (b : Nat) (t : T) (k : Nat) (v4 v5 : Value) : Prop where
  work : WorkI w wr b t k
  lists : Lists w wr v4 v5 t.things t.wids
theorem WorkI.more (h : WorkI w wr b t k) (hb : Below wr.heap.size wr w') : WorkI w w' b t k :=
  ⟨⟨h.row.row.chg (Chg.of_below hb (M := fun _ => False)) id, h.row.tree.chg (Chg.of_below hb (M := fun _ => False)) (fun _ _ => id), h.row.nd, h.row.small, h.row.avl, h.row.cnt⟩, h.base, h.ads, h.below.trans (hb.mono h.below.size)⟩
theorem PlayI.more (h : PlayI w wr b t k v4 v5) (hb : Below wr.heap.size wr w') : PlayI w w' b t k v4 v5 := ⟨h.work.more hb, h.lists.below hb⟩
theorem PlayI.same (h : PlayI w wr b t k v4 v5) {k' : Nat} (hr : RowOf w' b t k') (hc : Chg (fun j => j = b) wr w') : PlayI w w' b t k' v4 v5 :=
  ⟨h.work.same hr hc, h.lists.chg hc fun g hg e => h.lists.apart h.work g hg (.inl e)⟩
theorem PlayI.err (h : PlayI w wr b t k v4 v5) (hE : ErrT w) : ErrT wr := hE.keep h.work.below
theorem same_ok (w : World) (hE : ErrT w) : Calls Tryd.prog 10 #[.nilIface, .int .i64 0] w fun e w' => e = .returned (.bool true) ∧ Below w.heap.size w w' := same_error 0 0 w hE
theorem same_one (w : World) (hE : ErrT w) : Calls Tryd.prog 10 #[.iface 80 (.int .i64 1), .int .i64 1] w fun e w' => e = .returned (.bool true) ∧ Below w.heap.size w w' := same_error 1 1 w hE
end
end Go.Proofs.YtfaihilehdjfjaaDoor
