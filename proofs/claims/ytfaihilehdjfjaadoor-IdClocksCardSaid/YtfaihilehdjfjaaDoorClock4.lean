/- Contracts: two lists behind each other. -/
import Derived.Test.YtfaihilehdjfjaaDoorClock3
import Derived.Test.YtfaihilehdjfjaaDoorShelf
namespace Go.Proofs.YtfaihilehdjfjaaDoor
open Go.ChangeShapes Go.WideShapes Go.ChangeAt Go.RowKit

theorem infoRef : (Tryd.prog.info? 79).map (fun i => (i.zero, i.size, i.bytes)) = some (some (.agg #[.int .i64 0, .int .i64 0]), 2, 16) := by kernel_rfl
theorem refC_one (l : List Rf) : ∀ u ∈ refC l, u.oneCell' = true := by
  intro u hu
  simp only [refC, List.mem_flatMap, List.mem_cons, List.not_mem_nil, or_false] at hu
  obtain ⟨r, -, rfl | rfl⟩ := hu <;> rfl
/-- room for so many -/
theorem grow_any (n : Nat) (w : World) (hn : n ≤ 1000000) :
    Calls Tryd.prog 99 #[.slice none 0 0, .int .i64 n] w fun e w' => ∃ v, e = .returned v ∧ w'.ownsRow w.heap.size 79 2 v 0 [] ∧ Below w.heap.size w w' := by
  by_cases h0 : n = 0
  · subst h0
    refine (Any8.slices_Grow_room Tryd.growRef none 0 0 0 w (Nat.le_refl _) (by omega) (by omega) (Nat.le_refl _)).mono ?_
    rintro e w' ⟨rfl, rfl⟩
    exact ⟨_, rfl, own_nil _ _ _ _, Below.refl _ _⟩
  · obtain ⟨i0, hi, hz0, hz1, hz2⟩ := info_parts infoRef
    refine (Any8.slices_Grow_grow Tryd.growRef i0 _ hi hz0 (by omega) none 0 0 n [] w (Nat.le_refl _) (by omega) (by rw [hz2]; omega) (by omega) (by simp) (fun _ => rfl) (by simp)).mono ?_
    rintro e w' ⟨rfl, rfl⟩
    refine ⟨_, rfl, ⟨by simp, .inr ⟨w.heap.size, _, _, rfl, Nat.le_refl _, by rw [show w.heap.size = w.drew.heap.size from rfl]; exact heap_alloc_new w.drew _, Nat.zero_le _, grownCap_le_maxLen _ _ _ _ (by simp only [maxLen]; omega), ?_, by simp⟩⟩, ((Below.refl _ w).drew).alloc (Nat.le_refl _) _⟩
    have hge := grownCap_ge w (0 + n) 0 79
    have ez : (Value.agg #[.int .i64 0, .int .i64 0]).cells.size = 2 := rfl
    change (_ : Nat) = grownCap w (0 + n) 0 79 * 2
    simp only [Array.size_append, size_zeroCells, ez]
    show 0 + (0 + n - 0) * 2 + (grownCap w (0 + n) 0 79 - (0 + n)) * 2 = _
    omega
set_option maxHeartbeats 2000000 in
set_option maxRecDepth 20000 in
theorem concat_any (a b : List Rf) (D D' : Nat → Prop) (A B : Option Addr) (ca cb g : Nat) (w : World) (ha : Reads D w 2 A a.length (refC a)) (hb : Reads D' w 2 B b.length (refC b)) (hD : ∀ k, D k → k < w.heap.size) (hD' : ∀ k, D' k → k < w.heap.size)
    (hla : a.length ≤ 400000) (hlb : b.length ≤ 400000) (c0 : w.cell? ⟨g, 0, none⟩ = some (.slice A a.length ca)) (c1 : w.cell? ⟨g, 1, none⟩ = some (.slice B b.length cb)) :
    Calls Tryd.prog 47 #[.slice (some ⟨g, 0, none⟩) 2 2] w fun e w' => ∃ v, e = .returned v ∧ w'.ownsRow w.heap.size 79 2 v (a.length + b.length) (refC (a ++ b)) ∧ Below w.heap.size w w' := by
  obtain ⟨i0, hi, hz0, hz1, hz2⟩ := info_parts infoRef
  have hgl : g < w.heap.size := by
    rcases Nat.lt_or_ge g w.heap.size with h | h
    · exact h
    · simp [World.cell?, Array.getElem?_eq_none h] at c0
  have HA := Lib.hid ha
  have HB := Lib.hid hb
  have HD := Lib.hid hD
  have HD' := Lib.hid hD'
  obtain ⟨na, hna⟩ : ∃ n, a.length = n := ⟨_, rfl⟩
  obtain ⟨nb, hnb⟩ : ∃ n, b.length = n := ⟨_, rfl⟩
  rw [hna] at hla c0 ⊢
  rw [hnb] at hlb c1 ⊢
  have HNA := Lib.hid hna
  have HNB := Lib.hid hnb
  clear ha hb hD hD' hna hnb
  go_enter Tryd.func47, Tryd.ntmps47
  go_wp2_with fail
  go_loop [3, 11] (fun s3 s11 => ∃ (k s : Nat), s3 = .int .i64 s ∧ s11 = .int .i64 k ∧ ((k = 0 ∧ s = 0) ∨ (k = 1 ∧ s = na) ∨ (k = 2 ∧ s = na + nb))) (fun _ s11 => 2 - (intOf s11).toNat)
  case atStart => exact ⟨0, 0, rfl, rfl, .inl ⟨rfl, rfl⟩⟩
  case round =>
    obtain ⟨k, s, rfl, rfl, ⟨rfl, rfl⟩ | ⟨rfl, rfl⟩ | ⟨rfl, rfl⟩⟩ := hrel
    · go_wp2_with fail
      go_round
      case rel => exact ⟨1, na, by first | rfl | go_num, by go_num, .inr (.inl ⟨rfl, rfl⟩)⟩
      case measure => simp [intOf]
    · go_wp2_with fail
      go_round
      case rel => exact ⟨2, _, by first | rfl | go_num, by go_num, .inr (.inr ⟨rfl, rfl⟩)⟩
      case measure => simp [intOf]
    · have HG := grow_any (na + nb) w (by omega)
      rw [Int.natCast_add] at HG
      go_wp2_with fail
      go_at_call 99
      refine HG.mono ?_
      rintro e w1 ⟨v0, rfl, ho1, hb1⟩
      have HO1 := Lib.hid ho1
      have HB1 := Lib.hid hb1
      have HC : Hid (w.cell? ⟨g, 0, none⟩ = some (.slice A na ca) ∧ w.cell? ⟨g, 1, none⟩ = some (.slice B nb cb)) := ⟨c0, c1⟩
      clear ho1 hb1 c0 c1
      go_wp2_with fail
      go_loopw [6, 27] (fun s6 s27 wr => ∃ (k n : Nat) (l : List Rf), s27 = .int .i64 k ∧ Hid (Below w.heap.size w wr) ∧ Hid (wr.ownsRow w.heap.size 79 2 s6 n (refC l)) ∧ ((k = 0 ∧ n = 0 ∧ l = []) ∨ (k = 1 ∧ n = na ∧ l = a) ∨ (k = 2 ∧ n = na + nb ∧ l = a ++ b))) (fun _ s27 _ => 2 - (intOf s27).toNat)
      case atStart => exact ⟨0, 0, [], rfl, HB1, HO1, .inl ⟨rfl, rfl, rfl⟩⟩
      case round =>
        obtain ⟨k, n, l, rfl, HBw, HO, ⟨rfl, rfl, rfl⟩ | ⟨rfl, rfl, rfl⟩ | ⟨rfl, rfl, rfl⟩⟩ := hrel
        · have c0 : wr.cell? ⟨g, 0, none⟩ = some (.slice A na ca) := (World.cell?_of_block (w := w) (HBw.out.block g hgl)).trans HC.out.1
          have hr : Reads D wr 2 A na (refC a) := by have := HA.out.keep (w' := wr) fun k hk => HBw.out.block k (HD.out k hk); rwa [HNA.out] at this
          go_wp2_with (at_builtin; refine wpList_append_any _ rfl (.tmp 31) (.tmp 32) _ rfl (w.heap.size) 79 i0 _ 2 16 Tryd.underlying22 hi hz0 hz1 hz2 rfl (by omega) (u6) (0) (refC []) rfl (HO.out) _ (A) (na) (ca) (refC a) rfl (hr) (refC_one _) ?c1 ?c2 ?c3 ?_)
          case c1 => simp only [maxLen]; omega
          case c2 => omega
          case c3 => exact HBw.out.size
          intro v1 w2 ho2 hg2 hat2
          have hb2 := HBw.out.grown hg2 HBw.out.size (fun j hj => (own_lt HO.out hj).1)
          have HO2 : Hid (w2.ownsRow w.heap.size 79 2 v1 na (refC a)) := by
            show w2.ownsRow w.heap.size 79 2 v1 na (refC a)
            simpa [refC] using ho2
          have HB2 := Lib.hid hb2
          clear ho2 hg2 hat2 hb2 c0 hr
          go_wp2_with fail
          go_roundw
          case rel => exact ⟨1, na, a, by go_num, HB2, HO2, .inr (.inl ⟨rfl, rfl, rfl⟩)⟩
          case measure => simp [intOf]
        · have c1 : wr.cell? ⟨g, 1, none⟩ = some (.slice B nb cb) := (World.cell?_of_block (w := w) (HBw.out.block g hgl)).trans HC.out.2
          have hr : Reads D' wr 2 B nb (refC b) := by have := HB.out.keep (w' := wr) fun k hk => HBw.out.block k (HD'.out k hk); rwa [HNB.out] at this
          go_wp2_with (at_builtin; refine wpList_append_any _ rfl (.tmp 31) (.tmp 32) _ rfl (w.heap.size) 79 i0 _ 2 16 Tryd.underlying22 hi hz0 hz1 hz2 rfl (by omega) (u6) (n) (refC l) rfl (HO.out) _ (B) (nb) (cb) (refC b) rfl (hr) (refC_one _) ?d1 ?d2 ?d3 ?_)
          case d1 => simp only [maxLen]; omega
          case d2 => omega
          case d3 => exact HBw.out.size
          intro v1 w2 ho2 hg2 hat2
          have hb2 := HBw.out.grown hg2 HBw.out.size (fun j hj => (own_lt HO.out hj).1)
          have HO2 : Hid (w2.ownsRow w.heap.size 79 2 v1 (n + nb) (refC (l ++ b))) := by
            show w2.ownsRow w.heap.size 79 2 v1 (n + nb) (refC (l ++ b))
            rw [refC_append]; exact ho2
          have HB2 := Lib.hid hb2
          clear ho2 hg2 hat2 hb2 c1 hr
          go_wp2_with fail
          go_roundw
          case rel => exact ⟨2, _, _, by go_num, HB2, HO2, .inr (.inr ⟨rfl, rfl, rfl⟩)⟩
          case measure => simp [intOf]
        · go_wp2_with fail
          go_ret
          exact ⟨_, rfl, HO.out, HBw.out⟩
end Go.Proofs.YtfaihilehdjfjaaDoor
