/- Contracts: package tree: a row's own calls. -/
import Derived.Test.YtfaihilehdjfjaaDoorTree9
namespace Go.Proofs.YtfaihilehdjfjaaDoor
open Go.ChangeShapes Go.WideShapes Go.ChangeAt Go.RowKit

/-- a row that lies in a world: its tree is in order -/
structure RowOf (w : World) (b : Nat) (t : T) (k : Nat) : Prop where
  row : RowAt w b t.ptr k
  tree : TreeAt w t
  nd : t.ads.Nodup
  small : t.small
  avl : t.avl
  cnt : t.cnt ≤ 100000
theorem RowOf.keep {w w' : World} {b : Nat} {t : T} {k : Nat} (h : RowOf w b t k) {M : Nat → Prop} (hc : Chg M w w') (h1 : ¬ M b) (h2 : ∀ i ∈ t.ads, ¬ M i) : RowOf w' b t k :=
  ⟨h.row.chg hc h1, h.tree.chg hc h2, h.nd, h.small, h.avl, h.cnt⟩
theorem RowOf.with_ {w w' : World} {b : Nat} {t : T} {k k' : Nat} (h : RowOf w b t k) (hr : RowAt w' b t.ptr k') (hc : Chg (fun j => j = b) w w') : RowOf w' b t k' :=
  ⟨hr, h.tree.chg hc fun i hi e => TreeAt.no_row h.row h.tree (e ▸ hi), h.nd, h.small, h.avl, h.cnt⟩
/-- how high it is, by how many -/
theorem RowOf.ht {w : World} {b : Nat} {t : T} {k : Nat} (h : RowOf w b t k) : t.ht ≤ 34 := by
  have h1 : t.cnt < 2 ^ 17 := by have := h.cnt; omega
  have := T.avl_high h.avl h1
  omega

theorem new_any (w : World) : Calls Tryd.prog 20 #[] w fun e w' => e = .returned (.pointer (some ⟨w.heap.size, 0, none⟩)) ∧ RowOf w' w.heap.size .nil 0 ∧ Chg (fun _ => False) w w' := by
  go_enter Tryd.func20, Tryd.ntmps20
  go_wp2
  go_ret
  refine ⟨rfl, ⟨Blk.new _ _ _, trivial, by simp [T.ads], trivial, trivial, by simp [T.cnt]⟩, (Chg.refl w).alloc _⟩
theorem len_any (b : Nat) (t : T) (k : Nat) (w : World) (h : RowOf w b t k) :
    Calls Tryd.prog 31 #[.pointer (some ⟨b, 0, none⟩)] w fun e w' => e = .returned (.int .i64 t.cnt) ∧ w' = w := by
  have H : Hid (RowOf w b t k) := h
  have c0 : w.cell? ⟨b, 0, none⟩ = some t.ptr := h.row.cell 0
  clear h
  go_enter Tryd.func31, Tryd.ntmps31
  go_wp2_with fail
  go_at_call 73
  refine (count_any t _ H.out.tree).mono ?_
  rintro e w1 ⟨rfl, e1⟩
  rw [e1]
  clear e1 w1
  go_wp2_with fail
  go_ret
  exact ⟨rfl, rfl⟩
theorem rowWide_any (b : Nat) (t : T) (k : Nat) (w : World) (h : RowOf w b t k) :
    Calls Tryd.prog 32 #[.pointer (some ⟨b, 0, none⟩)] w fun e w' => e = .returned (.int .i64 t.wid) ∧ w' = w := by
  have H : Hid (RowOf w b t k) := h
  have c0 : w.cell? ⟨b, 0, none⟩ = some t.ptr := h.row.cell 0
  clear h
  go_enter Tryd.func32, Tryd.ntmps32
  go_wp2_with fail
  go_at_call 72
  refine (width_any t _ H.out.tree).mono ?_
  rintro e w1 ⟨rfl, e1⟩
  rw [e1]
  clear e1 w1
  go_wp2_with fail
  go_ret
  exact ⟨rfl, rfl⟩
theorem okWide_any (x : Int) (w : World) : Calls Tryd.prog 63 #[.int .i64 x] w fun e w' => e = .returned (.bool (decide (0 ≤ x ∧ x ≤ 1000000))) ∧ w' = w := by
  by_cases h1 : 0 ≤ x
  · have h1' : decide (0 ≤ x) = true := decide_eq_true h1
    have h2 : decide (0 ≤ x ∧ x ≤ 1000000) = decide (x ≤ 1000000) := by simp [h1]
    rw [h2]
    go_enter Tryd.func63, Tryd.ntmps63
    go_wp2_with fail
    go_ret
    exact ⟨rfl, rfl⟩
  · have h1' : decide (0 ≤ x) = false := decide_eq_false h1
    have h2 : decide (0 ≤ x ∧ x ≤ 1000000) = false := by simp [h1]
    rw [h2]
    go_enter Tryd.func63, Tryd.ntmps63
    go_wp2_with fail
    go_ret
    exact ⟨rfl, rfl⟩
/-- what a call that puts a thing in answers -/
def InsP (b : Nat) (t : T) (k : Nat) (at_ x y : Int) (w : World) (e : Ending) (w' : World) : Prop :=
  if at_ < 0 ∨ t.cnt < at_ ∨ ¬ (0 ≤ y ∧ y ≤ 1000000) then e = .returned (.iface 80 (.int .i64 1)) ∧ w' = w
  else if 100000 ≤ t.cnt then e = .returned (.iface 80 (.int .i64 4)) ∧ w' = w
  else e = .returned .nilIface ∧ ∃ g k', RowOf w' b (T.insT t at_.toNat g x y) k' ∧ k ≤ k' ∧ k' ≤ k + 3 * t.ht ∧ w.heap.size ≤ g ∧ Chg (fun i => i = b ∨ i ∈ t.ads) w w'
section
variable {b : Nat} {t : T} {k : Nat} {at_ x y : Int} {w w' : World} {e : Ending}
theorem InsP.one (h : at_ < 0 ∨ t.cnt < at_ ∨ ¬ (0 ≤ y ∧ y ≤ 1000000)) (hh : e = .returned (.iface 80 (.int .i64 1)) ∧ w' = w) : InsP b t k at_ x y w e w' := by
  unfold InsP; rw [if_pos h]; exact hh
theorem InsP.neg (h1 : ¬ at_ < 0) (h2 : ¬ t.cnt < at_) (h3 : 0 ≤ y ∧ y ≤ 1000000) : ¬ (at_ < 0 ∨ t.cnt < at_ ∨ ¬ (0 ≤ y ∧ y ≤ 1000000)) := by
  simp only [not_or, Classical.not_not]; exact ⟨h1, h2, h3⟩
theorem InsP.two (h1 : ¬ at_ < 0) (h2 : ¬ t.cnt < at_) (h3 : 0 ≤ y ∧ y ≤ 1000000) (h4 : 100000 ≤ t.cnt) (hh : e = .returned (.iface 80 (.int .i64 4)) ∧ w' = w) : InsP b t k at_ x y w e w' := by
  unfold InsP; rw [if_neg (InsP.neg h1 h2 h3), if_pos h4]; exact hh
theorem InsP.none (h1 : ¬ at_ < 0) (h2 : ¬ t.cnt < at_) (h3 : 0 ≤ y ∧ y ≤ 1000000) (h4 : ¬ 100000 ≤ t.cnt)
    (hh : e = .returned .nilIface ∧ ∃ g k', RowOf w' b (T.insT t at_.toNat g x y) k' ∧ k ≤ k' ∧ k' ≤ k + 3 * t.ht ∧ w.heap.size ≤ g ∧ Chg (fun i => i = b ∨ i ∈ t.ads) w w') : InsP b t k at_ x y w e w' := by
  unfold InsP; rw [if_neg (InsP.neg h1 h2 h3), if_neg h4]; exact hh
end
set_option maxHeartbeats 2000000 in
set_option maxRecDepth 20000 in
theorem insertRow_any (b : Nat) (t : T) (k : Nat) (at_ x y : Int) (w : World) (h : RowOf w b t k) (hk : k ≤ 999999000) :
    Calls Tryd.prog 23 #[.pointer (some ⟨b, 0, none⟩), .int .i64 at_, .int .i64 x, .int .i64 y] w (InsP b t k at_ x y w) := by
  have H : Hid (RowOf w b t k) := h
  clear h
  by_cases h1 : at_ < 0
  · have h1' : decide (at_ < 0) = true := decide_eq_true h1
    refine Calls.mono (R := fun e w' => e = .returned (.iface 80 (.int .i64 1)) ∧ w' = w) ?_ (fun e w' hh => InsP.one (.inl h1) hh)
    go_enter Tryd.func23, Tryd.ntmps23
    go_wp2_with fail
    go_ret
    exact ⟨rfl, rfl⟩
  · have h1' : decide (at_ < 0) = false := decide_eq_false h1
    by_cases h2 : (t.cnt : Int) < at_
    · have h2' : decide ((t.cnt : Int) < at_) = true := decide_eq_true h2
      refine Calls.mono (R := fun e w' => e = .returned (.iface 80 (.int .i64 1)) ∧ w' = w) ?_ (fun e w' hh => InsP.one (.inr (.inl h2)) hh)
      go_enter Tryd.func23, Tryd.ntmps23
      go_wp2_with fail
      go_at_call 31
      refine (len_any b t k w H.out).mono ?_
      rintro e w1 ⟨rfl, e1⟩
      rw [e1]
      clear e1 w1
      go_wp2_with fail
      go_ret
      exact ⟨rfl, rfl⟩
    · have h2' : decide ((t.cnt : Int) < at_) = false := decide_eq_false h2
      by_cases h3 : 0 ≤ y ∧ y ≤ 1000000
      · have h3' : decide (0 ≤ y ∧ y ≤ 1000000) = true := decide_eq_true h3
        by_cases h4 : 100000 ≤ t.cnt
        · refine Calls.mono (R := fun e w' => e = .returned (.iface 80 (.int .i64 4)) ∧ w' = w) ?_ (fun e w' hh => InsP.two h1 h2 h3 h4 hh)
          have h4' : decide ((100000 : Int) ≤ t.cnt) = true := decide_eq_true (by omega)
          clear h4
          go_enter Tryd.func23, Tryd.ntmps23
          go_wp2_with fail
          go_at_call 31
          refine (len_any b t k w H.out).mono ?_
          rintro e w1 ⟨rfl, e1⟩
          rw [e1]
          clear e1 w1
          go_wp2_with fail
          go_at_call 63
          refine (okWide_any y w).mono ?_
          rintro e w1 ⟨rfl, e1⟩
          rw [e1, h3']
          clear e1 w1
          go_wp2_with fail
          go_at_call 31
          refine (len_any b t k w H.out).mono ?_
          rintro e w1 ⟨rfl, e1⟩
          rw [e1]
          clear e1 w1
          go_wp2_with fail
          go_ret
          exact ⟨rfl, rfl⟩
        · obtain ⟨i, rfl⟩ := Int.eq_ofNat_of_zero_le (show 0 ≤ at_ by omega)
          refine Calls.mono (R := fun e w' => e = .returned .nilIface ∧ ∃ g k', RowOf w' b (T.insT t i g x y) k' ∧ k ≤ k' ∧ k' ≤ k + 3 * t.ht ∧ w.heap.size ≤ g ∧ Chg (fun i => i = b ∨ i ∈ t.ads) w w') ?_ (fun e w' hh => InsP.none h1 h2 h3 h4 hh)
          have h4' : decide ((100000 : Int) ≤ t.cnt) = false := decide_eq_false (by omega)
          have H4 : Hid (t.cnt < 100000) := Lib.hid (by omega)
          clear h4
          go_enter Tryd.func23, Tryd.ntmps23
          go_wp2_with fail
          go_at_call 31
          refine (len_any b t k w H.out).mono ?_
          rintro e w1 ⟨rfl, e1⟩
          rw [e1]
          clear e1 w1
          go_wp2_with fail
          go_at_call 63
          refine (okWide_any y w).mono ?_
          rintro e w1 ⟨rfl, e1⟩
          rw [e1, h3']
          clear e1 w1
          go_wp2_with fail
          go_at_call 31
          refine (len_any b t k w H.out).mono ?_
          rintro e w1 ⟨rfl, e1⟩
          rw [e1]
          clear e1 w1
          go_wp2_with fail
          have hbg : b ≠ w.heap.size := by have := H.out.row.lt; omega
          have hgt : w.heap.size ∉ t.ads := fun e => by have := H.out.tree.lt _ e; omega
          have hi : i ≤ t.cnt := by omega
          have H1 : Hid (RowOf (w.alloc (.cells #[.pointer none, .pointer none, .int .i64 x, .int .i64 y, .int .i64 0, .int .i64 0, .int .i64 0] 106)) b t k ∧ RawN (w.alloc (.cells #[.pointer none, .pointer none, .int .i64 x, .int .i64 y, .int .i64 0, .int .i64 0, .int .i64 0] 106)) w.heap.size .nil .nil x y 0 0 0 ∧ Chg (fun _ => False) w (w.alloc (.cells #[.pointer none, .pointer none, .int .i64 x, .int .i64 y, .int .i64 0, .int .i64 0, .int .i64 0] 106))) :=
            ⟨H.out.keep ((Chg.refl w).alloc _) (M := fun _ => False) id (fun _ _ => id), Blk.new _ _ _, (Chg.refl w).alloc _⟩
          generalize hg : w.heap.size = g at *
          generalize (w.alloc (.cells #[.pointer none, .pointer none, .int .i64 x, .int .i64 y, .int .i64 0, .int .i64 0, .int .i64 0] 106)) = w1 at H1 ⊢
          have c0 : w1.cell? ⟨b, 0, none⟩ = some t.ptr := H1.out.1.row.cell 0
          have FX : Calls Tryd.prog 65 #[.pointer (some ⟨g, 0, none⟩)] w1.drew fun e w' => e = .returned (.pointer (some ⟨g, 0, none⟩)) ∧ TreeAt w' (.node .nil g x y .nil) ∧ Chg (fun j => j = g) w1 w' :=
            (fix_any .nil .nil g x y 0 0 0 w1.drew H1.out.2.1 trivial trivial (by simp [T.ads]) (by simp [T.ads]) trivial trivial h3 (by simp [T.cnt])).mono fun e w' hh => ⟨hh.1, hh.2.1, (Chg.refl w1).drew.trans hh.2.2 (fun _ _ e => e)⟩
          have IN : ∀ w2, RowAt w2 b t.ptr k → TreeAt w2 t → TreeAt w2 (.node .nil g x y .nil) → _ :=
            fun w2 hR hT hX => insert_any t i g x y b t.ptr k w2 hR (by have := H.out.ht; omega) hT hX (List.nodup_cons.mpr ⟨hgt, H.out.nd⟩) H.out.small h3 hi (by have := H4.out; omega)
          obtain ⟨v, hv⟩ := T.ptr_pointer (T.insT t i g x y)
          rw [hv] at IN
          obtain ⟨u, hu⟩ := T.ptr_pointer t
          rw [hu] at IN c0
          go_region_with (first | (go_at_call 65; refine FX.mono ?_; rintro e w2 ⟨rfl, hT2, hC2⟩; have c0' : w2.cell? ⟨b, 0, none⟩ = some (.pointer u) := ((hu ▸ H1.out.1.row.chg hC2 hbg : RowAt w2 b (.pointer u) k)).cell 0) | (go_at_call 64; refine (IN w2 (hu ▸ H1.out.1.row.chg hC2 hbg) (H1.out.1.tree.chg hC2 (fun i hi e => hgt (e ▸ hi))) hT2).mono ?_; rintro e w3 ⟨rfl, hT3, ⟨k3, hR3, hk3, hk3'⟩, hC3⟩; have c0'' : w3.cell? ⟨b, 0, none⟩ = some (.pointer u) := hR3.cell 0; have f0'' : w3.frozen? ⟨b, 0, none⟩ = false := hR3.frozen 0))
          all_goals
            go_wp2_with fail
            go_ret
            have hbt : b ∉ t.ads := TreeAt.no_row H1.out.1.row H1.out.1.tree
            have hpp := T.perm_ins t i g x y
            have hbi : b ∉ (T.insT t i g x y).ads := fun e => by
              rcases List.mem_cons.mp (hpp.mem_iff.mp e) with e | e
              · exact hbg e
              · exact hbt e
            have hrow : RowAt (w3.setCell ⟨b, 0, none⟩ (.pointer v)) b (T.ptr (T.insT t i g x y)) k3 := by
              rw [hv]
              have := Blk.set_ hR3 0 (.pointer v)
              simpa [RowAt] using this
            have hcw : Chg (fun i => i = b ∨ i ∈ t.ads) w w2 := (H1.out.2.2.mono (fun _ _ e => e.elim)).trans hC2 (fun i hi e => by omega)
            refine ⟨rfl, g, k3, ⟨hrow, hT3.put hbi _ _, hpp.nodup_iff.mpr (List.nodup_cons.mpr ⟨hgt, H.out.nd⟩), T.small_ins H.out.small h3 hi, (T.ins_avl i g x y H.out.avl).1, by rw [T.cnt_ins]; exact H4.out⟩, hk3, hk3', by omega, ?_⟩
            refine (hcw.trans hC3 ?_).setCell (.inl (.inl rfl)) _
            intro i hi e
            rcases e with e | e
            · exact .inl e
            · rcases List.mem_cons.mp e with e | e
              · omega
              · exact .inr e
      · have h3' : decide (0 ≤ y ∧ y ≤ 1000000) = false := decide_eq_false h3
        refine Calls.mono (R := fun e w' => e = .returned (.iface 80 (.int .i64 1)) ∧ w' = w) ?_ (fun e w' hh => InsP.one (.inr (.inr h3)) hh)
        go_enter Tryd.func23, Tryd.ntmps23
        go_wp2_with fail
        go_at_call 31
        refine (len_any b t k w H.out).mono ?_
        rintro e w1 ⟨rfl, e1⟩
        rw [e1]
        clear e1 w1
        go_wp2_with fail
        go_at_call 63
        refine (okWide_any y w).mono ?_
        rintro e w1 ⟨rfl, e1⟩
        rw [e1, h3']
        clear e1 w1
        go_wp2_with fail
        go_ret
        exact ⟨rfl, rfl⟩
end Go.Proofs.YtfaihilehdjfjaaDoor
