/- The walk of Quote. -/
import Derived.Test.YtfaihilehdjfjaaDoorBldV
import Derived.Laws.IdiomStrings
namespace Go.Proofs.YtfaihilehdjfjaaDoor
open Go.ChangeShapes Go.WideShapes Go.ChangeAt Go.RowKit

/-- the bytes of a string in a new row -/
theorem conv_string (l : List UInt8) (w : World) : ∃ cap w', (convert 9 39 (.string ⟨l.toArray⟩)).run Tryd.prog w = .ok (.slice (some ⟨w.heap.size, 0, none⟩) l.length cap) w' ∧
    Reads (fun k => k = w.heap.size) w' 1 (some ⟨w.heap.size, 0, none⟩) l.length (bytesC l) ∧ Below w.heap.size w w' ∧ w.heap.size < w'.heap.size := by
  refine ⟨_, _, run_bytes_of_string w 9 39 5 ⟨l.toArray⟩ Tryd.underlying9 Tryd.underlying39 Tryd.underlying5, ?_, ?_, ?_⟩
  · refine ⟨by simp [bytesC], fun hn => ⟨_, rfl, rfl, fun j u hu => ?_⟩⟩
    have hj : j < l.length := by
      rcases Nat.lt_or_ge j l.length with h | h
      · exact h
      · rw [List.getElem?_eq_none (by simp [bytesC]; omega)] at hu; cases hu
    have e : ((⟨w.heap.size, 0, none⟩ : Addr).add j) = ⟨w.heap.size, j, none⟩ := by unfold Addr.add; split <;> simp_all
    rw [e]
    have hb : (w.drew.alloc (.cells (bytesRow ⟨l.toArray⟩ (grownCap w (ByteArray.size ⟨l.toArray⟩) 0 5)) 5 ((bytesRow ⟨l.toArray⟩ (grownCap w (ByteArray.size ⟨l.toArray⟩) 0 5)).size, (bytesRow ⟨l.toArray⟩ (grownCap w (ByteArray.size ⟨l.toArray⟩) 0 5)).size + 1))).heap[w.heap.size]? = some _ := heap_alloc_new w.drew _
    rw [cell_of_row _ _ j _ _ _ hb]
    simp only [bytesRow]
    rw [Array.getElem?_append_left (by simpa using hj), ← hu]
    simp [bytesC]
  · exact (Below.refl _ w).drew.alloc (Nat.le_refl _) _
  · simp

theorem and_15_fin : ∀ c : Fin 256, bits .and .u8 ((c.val : Nat) : Int) 15 = ((c.val % 16 : Nat) : Int) := by decide +kernel
theorem and_15 (c : UInt8) : bits .and .u8 (c.toNat : Int) 15 = ((c.toNat % 16 : Nat) : Int) := and_15_fin ⟨c.toNat, c.toNat_lt⟩
/-- where the loop of Quote stands -/
structure QAt (l : List UInt8) (w : World) (H : Nat) (pre : List UInt8) (v : Value) (wr : World) : Prop where
  b : IsB w.heap.size w.heap.size v pre wr
  bel : Below w.heap.size w wr
  rd : Reads (fun k => k = H) wr 1 (some ⟨H, 0, none⟩) l.length (bytesC l)
  lt : H < wr.heap.size
  ne : v.ownBlock ≠ some H
  nb : H ≠ w.heap.size
theorem QAt.step {l : List UInt8} {w wr w' : World} {H : Nat} {pre pre' : List UInt8} {v v' : Value} (h : QAt l w H pre v wr) (hb : IsB w.heap.size w.heap.size v' pre' w') (hc : Chg (BM w.heap.size v) wr w') (hv : ∀ k, v'.ownBlock = some k → v.ownBlock = some k ∨ wr.heap.size ≤ k) : QAt l w H pre' v' w' where
  b := hb
  bel := h.bel.trans (hc.below h.bel.size (fun k hk => by
    rcases hk with rfl | hk
    · exact Nat.le_refl _
    · exact (own_lt h.b.own hk).1))
  rd := h.rd.keep (hc.keeps fun k hk => by
    subst hk
    refine ⟨h.lt, fun e => ?_⟩
    rcases e with e | e
    · exact h.nb e
    · exact h.ne e)
  lt := Nat.lt_of_lt_of_le h.lt hc.size
  ne := fun e => by
    rcases hv H e with e | e
    · exact h.ne e
    · have := h.lt; omega
  nb := h.nb
theorem QAt.drewN {l : List UInt8} {w wr : World} {H : Nat} {pre : List UInt8} {v : Value} (h : QAt l w H pre v wr) (n : Nat) : QAt l w H pre v (wr.drewN n) :=
  ⟨⟨h.b.blk, h.b.own, h.b.ne⟩, h.bel.trans (below_drewN (Below.refl _ wr) n), h.rd, h.lt, h.ne, h.nb⟩

theorem q_write1 {l : List UInt8} {w wr : World} {H : Nat} {pre : List UInt8} {v : Value} (h : QAt l w H pre v wr) (hp : pre.length ≤ 20000000) (c : UInt8) (x : Int) (hx : x = (c.toNat : Int)) :
    Calls Tryd.prog 119 #[.pointer (some ⟨w.heap.size, 0, none⟩), .int .u8 x] wr fun e w' => e = .returned .nilIface ∧ ∃ v', QAt l w H (pre ++ [c]) v' w' := by
  refine (writeByte_any w.heap.size w.heap.size v pre c x hx wr h.b hp h.bel.size).mono ?_
  rintro e w' ⟨rfl, v', hb, hc, hv⟩
  exact ⟨rfl, v', h.step hb hc hv⟩
theorem QAt.alloc {l : List UInt8} {w wr : World} {H : Nat} {pre : List UInt8} {v : Value} (h : QAt l w H pre v wr) (o : Obj) : QAt l w H pre v (wr.alloc o).drew := by
  have hlt : w.heap.size < wr.heap.size := by
    rcases h.b.blk with h | h
    · exact h.lt
    · exact h.lt
  have hk : Keeps (· < wr.heap.size) wr (wr.alloc o).drew := fun k hk => Below.heap_alloc wr o k hk
  refine ⟨⟨?_, own_keep h.b.own fun g hg => hk g (own_lt h.b.own hg).2, h.b.ne⟩, (h.bel.alloc h.bel.size o).drew, h.rd.keep fun k e => hk k (by rw [e]; exact h.lt), by have := h.lt; simp; omega, h.ne, h.nb⟩
  rcases h.b.blk with h | h
  · exact .inl (h.keep (hk _ hlt))
  · exact .inr (h.keep (hk _ hlt))
theorem q_write3 {l : List UInt8} {w wr : World} {H : Nat} {pre : List UInt8} {v : Value} (h : QAt l w H pre v wr) (hp : pre.length ≤ 20000000) (c d : UInt8) (x y : Int) (hx : x = (c.toNat : Int)) (hy : y = (d.toNat : Int)) :
    Calls Tryd.prog 120 #[.pointer (some ⟨w.heap.size, 0, none⟩), .slice (some ⟨wr.heap.size, 0, none⟩) 3 3] (wr.alloc (.cells #[.int .u8 92, .int .u8 x, .int .u8 y] 5)).drew fun e w' => e = .returned (.tuple #[.int .i64 3, .nilIface]) ∧ ∃ v', QAt l w H (pre ++ [92, c, d]) v' w' := by
  subst hx hy
  have h' := h.alloc (.cells #[.int .u8 92, .int .u8 (c.toNat : Int), .int .u8 (d.toNat : Int)] 5)
  have hlt : w.heap.size < wr.heap.size := by
    rcases h.b.blk with h | h
    · exact h.lt
    · exact h.lt
  refine (write_any w.heap.size w.heap.size v pre (fun k => k = wr.heap.size) (some ⟨wr.heap.size, 0, none⟩) 3 [92, c, d] _ h'.b ?_ ?_ hp (by simp) h'.bel.size).mono ?_
  · refine ⟨by simp [bytesC], fun _ => ⟨_, rfl, rfl, fun j u hu => ?_⟩⟩
    match j, hu with
    | 0, hu => simp [bytesC] at hu; subst hu; simp [Addr.add]
    | 1, hu => simp [bytesC] at hu; subst hu; simp [Addr.add]
    | 2, hu => simp [bytesC] at hu; subst hu; simp [Addr.add]
    | j + 3, hu => simp [bytesC] at hu
  · rintro k rfl
    refine ⟨by simp, fun e => ?_⟩
    rcases e with e | e
    · omega
    · have := (own_lt h.b.own e).2; omega
  · rintro e w' ⟨rfl, v', hb, hc, hv⟩
    exact ⟨rfl, v', h'.step hb hc hv⟩

theorem hex_fin : ∀ n : Fin 16, (((⟨#[48, 49, 50, 51, 52, 53, 54, 55, 56, 57, 97, 98, 99, 100, 101, 102]⟩ : ByteArray)[n.val]'n.isLt).toNat : Int) = ((hexB n.val).toNat : Int) := by decide +kernel
theorem hex_get (n : Nat) (h : n < (⟨#[48, 49, 50, 51, 52, 53, 54, 55, 56, 57, 97, 98, 99, 100, 101, 102]⟩ : ByteArray).size) : (((⟨#[48, 49, 50, 51, 52, 53, 54, 55, 56, 57, 97, 98, 99, 100, 101, 102]⟩ : ByteArray)[n]'h).toNat : Int) = ((hexB n).toNat : Int) := hex_fin ⟨n, h⟩
theorem quoteB_len (c : UInt8) : (quoteB c).length ≤ 3 := by unfold quoteB; split <;> (try split) <;> simp
theorem quoteF_len (l : List UInt8) : (l.flatMap quoteB).length ≤ 3 * l.length := by
  induction l with
  | nil => simp
  | cons c l ih => have := quoteB_len c; rw [List.flatMap_cons, List.length_append, List.length_cons]; omega

set_option maxRecDepth 100000 in
set_option maxHeartbeats 4000000 in
theorem quote_any (l : List UInt8) (w : World) (hl : l.length ≤ 1048576) :
    Calls Tryd.prog 86 #[.string ⟨l.toArray⟩] w fun e w' => e = .returned (.string ⟨(quoteL l).toArray⟩) ∧ Below w.heap.size w w' := by
  go_enter Tryd.func86, Tryd.ntmps86
  go_wp2_with fail
  have h0 : IsB w.heap.size w.heap.size (.slice none 0 0) [] (w.alloc (.cells #[.pointer none, .slice none 0 0] 154)) := ⟨.inl (Blk.new _ _ _), own_nil _ _ _ _, by simp [Value.ownBlock]⟩
  refine (writeByte_any w.heap.size w.heap.size (.slice none 0 0) [] 34 34 rfl _ h0 (by simp) (by simp)).mono ?_
  rintro e w1 ⟨rfl, v1, hb1, hc1, hv1⟩
  obtain ⟨cap, w2, hcv, hr2, hbl2, hlt2⟩ := conv_string l w1
  have hs1 : w.heap.size < w1.heap.size := by have := hc1.size; simp at this; omega
  have hB1 : Below w.heap.size w w1 := ((Below.refl _ w).alloc (Nat.le_refl _) _).trans (hc1.below (by simp) (fun k hk => by
    rcases hk with rfl | hk
    · exact Nat.le_refl _
    · simp [Value.ownBlock] at hk))
  have hne1 : v1.ownBlock ≠ some w1.heap.size := fun e => by
    have := (own_lt hb1.own e).2; omega
  have HQ : Hid (QAt l w w1.heap.size [34] v1 w2) := by
    refine ⟨⟨?_, own_keep hb1.own fun g hg => hbl2.block g (own_lt hb1.own hg).2, hb1.ne⟩, hB1.trans (hbl2.mono (Nat.le_of_lt hs1)), hr2, hlt2, hne1, by omega⟩
    rcases hb1.blk with h | h
    · exact .inl (h.keep (hbl2.block _ hs1))
    · exact .inr (h.keep (hbl2.block _ hs1))
  clear hc1 hv1 hb1 hr2 hbl2 hlt2 hB1 hne1 h0
  go_wp2_with fail
  go_loopw [10] (fun i wr => ∃ (k : Nat) (v : Value), k ≤ l.length ∧ i = .int .i64 k ∧ Hid (QAt l w w1.heap.size (34 :: (l.take k).flatMap quoteB) v wr)) (fun i _ => l.length - (intOf i).toNat)
  case atStart => exact ⟨0, v1, by omega, rfl, HQ⟩
  case round =>
    obtain ⟨k, v, hk, rfl, HQk⟩ := hrel
    have hqb : (34 :: (l.take k).flatMap quoteB).length ≤ 20000000 := by
      have := quoteF_len (l.take k)
      simp only [List.length_cons, List.length_take] at this ⊢; omega
    by_cases hlt : k < l.length
    · obtain ⟨c, hc⟩ := get_lt hlt
      obtain ⟨b1, o1, hA1, _, hcell1⟩ := HQk.out.rd.at_ (by omega) (by omega)
      injection hA1 with hA1
      injection hA1 with hA1 hA2
      subst hA1 hA2
      have hcl := hcell1 k (.int .u8 (c.toNat : Int)) (by simp [bytesC, hc])
      rw [Nat.zero_add] at hcl
      have hstep : Hid (34 :: (l.take (k + 1)).flatMap quoteB = 34 :: (l.take k).flatMap quoteB ++ quoteB c) := by
        show _ = _
        rw [List.take_add_one, hc, List.flatMap_append]; simp
      clear hcell1 hc
      by_cases e34 : c.toNat = 34 ∨ c.toNat = 92
      · have hq : Hid (quoteB c = [92, c]) := by show _ = _; rw [quoteB, if_pos e34]
        have HQB := Lib.hid hqb
        clear hqb
        rcases e34 with e34 | e34
        · have d34 : ((c.toNat : Int) == 34) = true := by simp; omega
          clear e34
          go_wp2_with fail
          refine (q_write1 HQk.out HQB.out 92 _ rfl).mono ?_
          rintro e w3 ⟨rfl, v3, hq3⟩
          have HQ3 := Lib.hid hq3
          clear hq3 hcl
          have HQB3 : Hid ((34 :: (l.take k).flatMap quoteB ++ [92]).length ≤ 20000000) := by
            have := quoteF_len (l.take k)
            show _ ≤ _
            simp only [List.length_cons, List.length_append, List.length_take, List.length_nil] at this ⊢; omega
          go_wp2_with fail
          refine (q_write1 HQ3.out HQB3.out c _ rfl).mono ?_
          rintro e w4 ⟨rfl, v4, hq4⟩
          have HQ4 : Hid (QAt l w w1.heap.size (34 :: (l.take (k + 1)).flatMap quoteB) v4 w4) := by rw [hstep.out, hq.out]; rw [List.append_assoc] at hq4; exact hq4
          clear hq4
          go_wp2_with fail
          exact ⟨⟨k + 1, v4, by omega, by go_num, HQ4⟩, by simp [intOf]; omega⟩
        · have d34 : ((c.toNat : Int) == 34) = false := by simp; omega
          have d92 : ((c.toNat : Int) == 92) = true := by simp; omega
          clear e34
          go_wp2_with fail
          refine (q_write1 HQk.out HQB.out 92 _ rfl).mono ?_
          rintro e w3 ⟨rfl, v3, hq3⟩
          have HQ3 := Lib.hid hq3
          clear hq3 hcl
          have HQB3 : Hid ((34 :: (l.take k).flatMap quoteB ++ [92]).length ≤ 20000000) := by
            have := quoteF_len (l.take k)
            show _ ≤ _
            simp only [List.length_cons, List.length_append, List.length_take, List.length_nil] at this ⊢; omega
          go_wp2_with fail
          refine (q_write1 HQ3.out HQB3.out c _ rfl).mono ?_
          rintro e w4 ⟨rfl, v4, hq4⟩
          have HQ4 : Hid (QAt l w w1.heap.size (34 :: (l.take (k + 1)).flatMap quoteB) v4 w4) := by rw [hstep.out, hq.out]; rw [List.append_assoc] at hq4; exact hq4
          clear hq4
          go_wp2_with fail
          exact ⟨⟨k + 1, v4, by omega, by go_num, HQ4⟩, by simp [intOf]; omega⟩
      · have d34 : ((c.toNat : Int) == 34) = false := by simp; omega
        have d92 : ((c.toNat : Int) == 92) = false := by simp; omega
        by_cases ex : c.toNat < 32 ∨ 126 < c.toNat
        · have hq : Hid (quoteB c = [92, hexB (c.toNat / 16), hexB (c.toNat % 16)]) := by show _ = _; rw [quoteB, if_neg e34, if_pos ex]
          obtain ⟨hi, hhi⟩ : ∃ hi : Nat, hi = c.toNat / 16 := ⟨_, rfl⟩
          obtain ⟨lo, hlo⟩ : ∃ lo : Nat, lo = c.toNat % 16 := ⟨_, rfl⟩
          have h15 : bits .and .u8 (c.toNat : Int) 15 = (lo : Int) := by rw [hlo]; exact and_15 c
          have h16 : (c.toNat : Int) / 16 = (hi : Int) := by omega
          have hi16 : (hi : Int) < 16 := by have := c.toNat_lt; omega
          have lo16 : (lo : Int) < 16 := by omega
          rw [← hhi, ← hlo] at hq
          have HQB := Lib.hid hqb
          clear hhi hlo hqb e34
          rcases ex with ex | ex
          · have d32 : decide ((c.toNat : Int) < 32) = true := by simp; omega
            go_wp2_with fail
            go_region_held3 (fun w' => True) (trivial) (first | (go_at_call 120; refine (q_write3 HQk.out HQB.out (hexB hi) (hexB lo) _ _ (hex_get hi _) (hex_get lo _)).mono ?_; rintro e w3 ⟨rfl, v3, hq3⟩) | fail)
            all_goals
              have HQ3 : Hid (QAt l w w1.heap.size (34 :: (l.take (k + 1)).flatMap quoteB) v3 w3) := by rw [hstep.out, hq.out]; exact hq3
              clear hq3 hcl
              go_wp2_with fail
              exact ⟨⟨k + 1, v3, by omega, by go_num, HQ3⟩, by simp [intOf]; omega⟩
          · have d32 : decide ((c.toNat : Int) < 32) = false := by simp; omega
            have d126 : decide (126 < (c.toNat : Int)) = true := by simp; omega
            go_wp2_with fail
            go_region_held3 (fun w' => True) (trivial) (first | (go_at_call 120; refine (q_write3 HQk.out HQB.out (hexB hi) (hexB lo) _ _ (hex_get hi _) (hex_get lo _)).mono ?_; rintro e w3 ⟨rfl, v3, hq3⟩) | fail)
            all_goals
              have HQ3 : Hid (QAt l w w1.heap.size (34 :: (l.take (k + 1)).flatMap quoteB) v3 w3) := by rw [hstep.out, hq.out]; exact hq3
              clear hq3 hcl
              go_wp2_with fail
              exact ⟨⟨k + 1, v3, by omega, by go_num, HQ3⟩, by simp [intOf]; omega⟩
        · have hq : Hid (quoteB c = [c]) := by show _ = _; rw [quoteB, if_neg e34, if_neg ex]
          have d32 : decide ((c.toNat : Int) < 32) = false := by simp; omega
          have d126 : decide (126 < (c.toNat : Int)) = false := by simp; omega
          have HQB := Lib.hid hqb
          clear hqb e34 ex
          go_wp2_with fail
          refine (q_write1 HQk.out HQB.out c _ rfl).mono ?_
          rintro e w3 ⟨rfl, v3, hq3⟩
          have HQ3 : Hid (QAt l w w1.heap.size (34 :: (l.take (k + 1)).flatMap quoteB) v3 w3) := by rw [hstep.out, hq.out]; exact hq3
          clear hq3 hcl
          go_wp2_with fail
          exact ⟨⟨k + 1, v3, by omega, by go_num, HQ3⟩, by simp [intOf]; omega⟩
    · have hk' : k = l.length := by omega
      subst hk'
      have HQB := Lib.hid hqb
      clear hqb
      go_wp2_with fail
      refine (q_write1 HQk.out HQB.out 34 _ rfl).mono ?_
      rintro e w3 ⟨rfl, v3, hq3⟩
      have HQ3 : Hid (QAt l w w1.heap.size (quoteL l) v3 w3) := by
        have := hq3
        rw [List.take_length] at this
        exact this
      clear hq3
      go_wp2_with fail
      refine (bString_any w.heap.size w.heap.size v3 (quoteL l) w3 HQ3.out.b (by simp [quoteL]) w.heap.size (Nat.le_refl _)).mono ?_
      rintro e w4 ⟨rfl, hb4⟩
      have HB4 := Lib.hid (HQ3.out.bel.trans hb4)
      clear hb4
      go_wp2_with fail
      go_ret
      exact ⟨rfl, HB4.out⟩
end Go.Proofs.YtfaihilehdjfjaaDoor
