/- Contracts: strings.Builder (WriteByte, Write, String), with a frame that tells which rows may turn; strings.IndexByte. -/
import Derived.Test.YtfaihilehdjfjaaDoorBytes0
import Derived.Test.YtfaihilehdjfjaaDoorQuoteP
import Derived.Shelf.RegionOpenPlain
import Derived.Lib.Strings
import Derived.Lib.Slices
import Derived.Lib.Walk
import Derived.Lib.Builder
import Derived.Lib.UnsafeStr
import Derived.Lib.Bytealg
import Derived.Laws.Externs
namespace Go.Proofs.YtfaihilehdjfjaaDoor
open Go.ChangeShapes Go.WideShapes Go.ChangeAt Go.RowKit

theorem infoBuilder : (Tryd.prog.info? 154).map (·.size) = some 2 := by kernel_rfl
theorem liesBuilder : liesAt Tryd.prog Tryd.prog.depth 154 (2 / Tryd.prog.cellsOf 154) 0 154 1 = true := by kernel_rfl

/-- a builder: its block, what its buffer holds -/
structure IsB (base b : Nat) (v : Value) (l : List UInt8) (w : World) : Prop where
  blk : Blk w b 154 #[.pointer none, v] ∨ Blk w b 154 #[.pointer (some ⟨b, 0, none⟩), v]
  own : w.ownsRow base 5 1 v l.length (bytesC l)
  ne : v.ownBlock ≠ some b
def BM (b : Nat) (v : Value) (k : Nat) : Prop := k = b ∨ v.ownBlock = some k

theorem Blk.shape {w : World} {g : Nat} {t : TypeId} {cs : Array Value} (h : Blk w g t cs) : w.shape? g = some (t, cs.size) := by
  unfold Blk at h
  simp [World.shape?, h]

set_option maxRecDepth 100000 in
set_option maxHeartbeats 1000000 in
theorem copy_used (b : Nat) (v : Value) (w : World) (h0 : Blk w b 154 #[.pointer (some ⟨b, 0, none⟩), v]) :
    Calls Tryd.prog 149 #[.pointer (some ⟨b, 0, none⟩)] w fun e w' => e = .returned (.tuple #[]) ∧ w' = w := by
  obtain ⟨j, hj, _⟩ := Option.map_eq_some_iff.1 infoBuilder
  have c0 : w.cell? ⟨b, 0, none⟩ = some (.pointer (some ⟨b, 0, none⟩)) := h0.cell 0
  go_enter Tryd.func149, Tryd.ntmps149
  go_wp2
  rw [Lib.run_neq_ptr_same w _ Tryd.underlying152 hj]
  go_wp2
  go_end0
  exact ⟨rfl, rfl⟩
set_option maxRecDepth 100000 in
set_option maxHeartbeats 1000000 in
theorem copy_fresh (b : Nat) (v : Value) (w : World) (h0 : Blk w b 154 #[.pointer none, v]) :
    Calls Tryd.prog 149 #[.pointer (some ⟨b, 0, none⟩)] w fun e w' => e = .returned (.tuple #[]) ∧ w' = w.setCell ⟨b, 0, none⟩ (.pointer (some ⟨b, 0, none⟩)) := by
  obtain ⟨j, hj, hjs⟩ := Option.map_eq_some_iff.1 infoBuilder
  have c0 : w.cell? ⟨b, 0, none⟩ = some (.pointer none) := h0.cell 0
  have hsh := h0.shape
  have hfz := h0.frozen 0
  go_enter Tryd.func149, Tryd.ntmps149
  go_wp2
  rw [Lib.run_to_unsafe w ⟨b, 0, none⟩ Tryd.underlying152 Tryd.underlying162 hj (by rw [hjs]; decide) hsh (Nat.zero_lt_succ 1)]
  simp only [Result.andThen]
  rw [Oper.upon_value]
  go_wp2
  rw [run_callFunc_extern Tryd.func168 (by kernel_rfl) (by kernel_rfl) (by kernel_rfl) (e := Extern.AbiNoEscape.same) (by kernel_rfl)]
  rw [Lib.run_noEscape]
  simp only [Result.andThen]
  rw [Oper.upon_value]
  go_wp2
  rw [Lib.run_from_unsafe w ⟨b, 0, none⟩ Tryd.underlying162 Tryd.underlying152 hj hsh liesBuilder]
  simp only [Result.andThen]
  rw [Oper.upon_value]
  go_wp2
  go_end0
  exact ⟨rfl, rfl⟩
theorem copy_any (base b : Nat) (v : Value) (l : List UInt8) (w : World) (h : IsB base b v l w) :
    Calls Tryd.prog 149 #[.pointer (some ⟨b, 0, none⟩)] w fun e w' => e = .returned (.tuple #[]) ∧ Blk w' b 154 #[.pointer (some ⟨b, 0, none⟩), v] ∧ w'.ownsRow base 5 1 v l.length (bytesC l) ∧ Chg (BM b v) w w' ∧ w'.heap.size = w.heap.size := by
  rcases h.blk with hb | hb
  · refine (copy_fresh b v w hb).mono ?_
    rintro e w' ⟨rfl, rfl⟩
    refine ⟨rfl, by simpa using hb.set_ 0 (.pointer (some ⟨b, 0, none⟩)), ?_, (Chg.refl w).setCell (.inl (.inl rfl)) _, by simp [World.setCell]⟩
    exact own_keep h.own fun g hg => Below.heap_setCell w _ _ g (fun e => h.ne (by rw [hg, e]))
  · refine (copy_used b v w hb).mono ?_
    rintro e w' ⟨rfl, rfl⟩
    exact ⟨rfl, hb, h.own, Chg.refl _, rfl⟩

set_option maxRecDepth 100000 in
set_option maxHeartbeats 2000000 in
theorem writeByte_any (base b : Nat) (v : Value) (l : List UInt8) (c : UInt8) (x : Int) (hx : x = (c.toNat : Int)) (w : World) (h : IsB base b v l w) (hl : l.length ≤ 20000000) (hbase : base ≤ w.heap.size) :
    Calls Tryd.prog 119 #[.pointer (some ⟨b, 0, none⟩), .int .u8 x] w fun e w' => e = .returned .nilIface ∧ ∃ v', IsB base b v' (l ++ [c]) w' ∧ Chg (BM b v) w w' ∧ (∀ k, v'.ownBlock = some k → v.ownBlock = some k ∨ w.heap.size ≤ k) := by
  obtain ⟨i0, hi, hz0, hz1, hz2⟩ := info_parts infoByte
  go_enter Tryd.func119, Tryd.ntmps119
  go_wp2_with fail
  refine (copy_any base b v l w h).mono ?_
  rintro e w1 ⟨rfl, hb1, ho1, hc1, hs1_⟩
  have HS1 := Lib.hid hs1_
  clear hs1_
  have c1 : w1.cell? ⟨b, 1, none⟩ = some v := hb1.cell 1
  go_wp2_with (at_builtin; refine wpList_append_any _ rfl (.tmp 11) (.tmp 13) _ rfl base 5 i0 _ 1 1 Tryd.underlying39 hi hz0 hz1 hz2 rfl (by omega) v l.length (bytesC l) rfl (ho1.alloc _) (fun k => k = w1.heap.size) (some ⟨w1.heap.size, 0, none⟩) 1 1 (bytesC [c]) rfl ?c1 (bytesC_one _) ?c2 ?c3 ?c4 ?_)
  try case c1 => exact reads_new _ _ _ _ (by first | rfl | exact hx) _ rfl
  try case c2 => simp only [maxLen]; omega
  try case c3 => first | omega | (have := HS1.out; omega)
  try case c4 => have := HS1.out; simp; omega
  intro v2 w2 ho2 hg2 hat2
  have hlt := hb1.lt; have hs1 := HS1.out; clear HS1
  have hb2 : Blk w2 b 154 #[.pointer (some ⟨b, 0, none⟩), v] := (hb1.alloc _).keep (hg2.block b (by simp; omega) (fun e => h.ne e.symm))
  have d1 : w2.cell? ⟨b, 1, none⟩ = some v := hb2.cell 1
  have f1 := hb2.frozen 1
  have hne2 : v2.ownBlock ≠ some b := by
    rcases hat2 with h2 | h2
    · rw [h2]; exact h.ne
    · rw [h2]; simp; omega
  have hbs := hb2.set_ 1 v2
  have hc2 : Chg (BM b v) w (w2.setCell ⟨b, 1, none⟩ v2) := by
    refine Chg.setCell ?_ (.inl (.inl rfl)) _
    refine Chg.grown (hc1.alloc _) hg2 (fun g hg => .inl (.inr hg))
  have ho3 : (w2.setCell ⟨b, 1, none⟩ v2).ownsRow base 5 1 v2 (l ++ [c]).length (bytesC (l ++ [c])) := by
    rw [List.length_append, bytesC_append]
    exact own_keep ho2 fun g hg => Below.heap_setCell w2 _ _ g (fun e => hne2 (by rw [hg, e]))
  obtain ⟨A2, k2, hv2, _⟩ := Reads.of_own ho2
  subst hv2
  go_wp2
  go_ret
  refine ⟨rfl, _, ⟨.inr (by simpa using hbs), ho3, hne2⟩, hc2, fun k hk => ?_⟩
  rcases hat2 with h2 | h2
  · exact .inl (h2 ▸ hk)
  · rw [h2] at hk; simp at hk; omega

set_option maxRecDepth 100000 in
set_option maxHeartbeats 2000000 in
theorem write_any (base b : Nat) (v : Value) (l : List UInt8) (D : Nat → Prop) (A : Option Addr) (c : Nat) (news : List UInt8) (w : World) (h : IsB base b v l w) (hr : Reads D w 1 A news.length (bytesC news)) (hD : ∀ k, D k → k < w.heap.size ∧ ¬ BM b v k) (hl : l.length ≤ 20000000) (hn : news.length ≤ 20000000) (hbase : base ≤ w.heap.size) :
    Calls Tryd.prog 120 #[.pointer (some ⟨b, 0, none⟩), .slice A news.length c] w fun e w' => e = .returned (.tuple #[.int .i64 news.length, .nilIface]) ∧ ∃ v', IsB base b v' (l ++ news) w' ∧ Chg (BM b v) w w' ∧ (∀ k, v'.ownBlock = some k → v.ownBlock = some k ∨ w.heap.size ≤ k) := by
  obtain ⟨i0, hi, hz0, hz1, hz2⟩ := info_parts infoByte
  go_enter Tryd.func120, Tryd.ntmps120
  go_wp2_with fail
  refine (copy_any base b v l w h).mono ?_
  rintro e w1 ⟨rfl, hb1, ho1, hc1, hs1_⟩
  have HS1 := Lib.hid hs1_
  clear hs1_
  have c1 : w1.cell? ⟨b, 1, none⟩ = some v := hb1.cell 1
  have hr1 := hr.keep (hc1.keeps hD)
  go_wp2_with (at_builtin; refine wpList_append_any _ rfl (.tmp 12) (.tmp 13) _ rfl (base) 5 i0 _ 1 1 Tryd.underlying39 hi hz0 hz1 hz2 rfl (by omega) (v) (l.length) (bytesC l) rfl (ho1) _ (A) (news.length) (c) (bytesC news) rfl (hr1) (bytesC_one _) ?c1 ?c2 ?c3 ?_)
  try case c1 => simp only [maxLen]; omega
  try case c2 => omega
  try case c3 => first | omega | (have := HS1.out; omega)
  intro v2 w2 ho2 hg2 hat2
  have hlt := hb1.lt; have hs1 := HS1.out; clear HS1
  have hb2 : Blk w2 b 154 #[.pointer (some ⟨b, 0, none⟩), v] := hb1.keep (hg2.block b (by omega) (fun e => h.ne e.symm))
  have d1 : w2.cell? ⟨b, 1, none⟩ = some v := hb2.cell 1
  have f1 := hb2.frozen 1
  have hne2 : v2.ownBlock ≠ some b := by
    rcases hat2 with h2 | h2
    · rw [h2]; exact h.ne
    · rw [h2]; simp; omega
  have hbs := hb2.set_ 1 v2
  have hc2 : Chg (BM b v) w (w2.setCell ⟨b, 1, none⟩ v2) := by
    refine Chg.setCell ?_ (.inl (.inl rfl)) _
    refine Chg.grown hc1 hg2 (fun g hg => .inl (.inr hg))
  have ho3 : (w2.setCell ⟨b, 1, none⟩ v2).ownsRow base 5 1 v2 (l ++ news).length (bytesC (l ++ news)) := by
    rw [List.length_append, bytesC_append]
    exact own_keep ho2 fun g hg => Below.heap_setCell w2 _ _ g (fun e => hne2 (by rw [hg, e]))
  obtain ⟨A2, k2, hv2, _⟩ := Reads.of_own ho2
  subst hv2
  go_wp2
  go_ret2
  refine ⟨rfl, _, ⟨.inr (by simpa using hbs), ho3, hne2⟩, hc2, fun k hk => ?_⟩
  rcases hat2 with h2 | h2
  · exact .inl (h2 ▸ hk)
  · rw [h2] at hk; simp at hk; omega

set_option maxRecDepth 100000 in
set_option maxHeartbeats 2000000 in
theorem bString_any (base b : Nat) (v : Value) (l : List UInt8) (w : World) (h : IsB base b v l w) (h0 : l ≠ []) (B : Nat) (hB : B ≤ base) :
    Calls Tryd.prog 121 #[.pointer (some ⟨b, 0, none⟩)] w fun e w' => e = .returned (.string ⟨l.toArray⟩) ∧ Below B w w' := by
  obtain ⟨p, hbk⟩ : ∃ p, Blk w b 154 #[p, v] := by
    rcases h.blk with h | h
    · exact ⟨_, h⟩
    · exact ⟨_, h⟩
  have hl0 : l.length ≠ 0 := by simpa using h0
  have hown := h.own
  obtain ⟨g, cap, cur, rfl, hbg, hg, hnc, hcm, hcs, htake⟩ : ∃ g cap cur, v = .slice (some ⟨g, 0, none⟩) l.length cap ∧ base ≤ g ∧ w.heap[g]? = some (.cells cur 5 (0, 0)) ∧ l.length ≤ cap ∧ cap ≤ maxLen ∧ cur.size = cap * 1 ∧ cur.toList.take (l.length * 1) = bytesC l := by
    rcases hown.2 with ⟨_, hz⟩ | ⟨g, cap, cur, hv, r⟩
    · exact absurd hz hl0
    · exact ⟨g, cap, cur, hv, r⟩
  have c1 : w.drew.cell? ⟨b, 1, none⟩ = some (.slice (some ⟨g, 0, none⟩) l.length cap) := hbk.drew.cell 1
  have hSD : (Builtin.unsafeSliceData_ #[39] 192 #[.slice (some ⟨g, 0, none⟩) l.length cap]).run Tryd.prog w.drew = .ok (.pointer (some ⟨g, 0, none⟩)) w.drew :=
    Lib.run_unsafeSliceData_row _ _ _ _ _ _ (by omega)
  have hUS : (Builtin.unsafeString_ #[192, 3] 9 #[.pointer (some ⟨g, 0, none⟩), .int .i64 l.length]).run Tryd.prog w.drew = .ok (.string ⟨l.toArray⟩) (w.drew.freeze ⟨g, 0, none⟩ l.length) := by
    refine Lib.run_unsafeString_row w.drew 192 3 9 5 Tryd.underlying192 (by kernel_rfl) g cur.size (by have hg' : w.drew.heap[g]? = some (.cells cur 5 (0, 0)) := hg; simp [World.shape?, hg']) l h0 (by omega) (by unfold maxLen at hcm; omega) ?_
    intro j x hx
    have := hown.cells (g := g) rfl j (.int .u8 x.toNat) (by simp [bytesC, hx])
    exact this
  go_enter Tryd.func121, Tryd.ntmps121
  go_wp2
  go_region
  all_goals (go_wp2; go_ret; exact ⟨rfl, Lib.below_freeze (Below.drew (Below.refl B w)) (p := ⟨g, 0, none⟩) (by simp; omega) _⟩)

end Go.Proofs.YtfaihilehdjfjaaDoor
