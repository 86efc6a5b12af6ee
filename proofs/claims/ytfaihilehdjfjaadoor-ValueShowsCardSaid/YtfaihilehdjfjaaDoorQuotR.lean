/- The document's answer: Quote, Unquote. -/
import Derived.Test.YtfaihilehdjfjaaDoorQuoteV
import Derived.OwnWalk
namespace Go.Proofs.YtfaihilehdjfjaaDoor
open Go.ChangeShapes Go.WideShapes Go.ChangeAt Go.RowKit

theorem str_at {l : List UInt8} {k : Nat} {c : UInt8} (h : l[k]? = some c) (h' : k < (⟨l.toArray⟩ : ByteArray).size) : (⟨l.toArray⟩ : ByteArray)[k]'h' = c := by
  obtain ⟨hlt, rfl⟩ := List.getElem?_eq_some_iff.1 h
  rfl
theorem reads_newL (wr : World) (t : TypeId) (l : List UInt8) (n : Nat) (hn : l.length = n) (cs : Array Value) (hcs : cs.toList = bytesC l) (H : Nat) (hH : wr.heap.size = H) : Reads (fun k => k = H) (wr.alloc (.cells cs t)) 1 (some ⟨H, 0, none⟩) n (bytesC l) := by
  subst hH hn
  refine ⟨by simp [bytesC], fun _ => ⟨_, rfl, rfl, fun j u hu => ?_⟩⟩
  have e : ((⟨wr.heap.size, 0, none⟩ : Addr).add j) = ⟨wr.heap.size, j, none⟩ := by unfold Addr.add; split <;> simp_all
  have hb : (wr.alloc (.cells cs t)).heap[wr.heap.size]? = some (.cells cs t) := heap_alloc_new wr _
  rw [e, cell_of_row _ _ j _ _ _ hb, ← hu, ← hcs]
  simp

set_option maxHeartbeats 1000000 in
theorem hexR_any (n : Nat) (hn : n < 16) (w : World) :
    Calls Tryd.prog 124 #[.int .u8 (n : Int)] w fun e w' => e = .returned (.int .u8 ((hexB n).toNat : Int)) ∧ w' = w := by
  have hx := hexB_nat hn
  go_enter Tryd.func124, Tryd.ntmps124
  by_cases h : n < 10
  · rw [if_pos h] at hx
    have hd : decide ((n : Int) < 10) = true := by simp; omega
    go_wp2
    go_ret
    rw [hx]
    refine ⟨?_, rfl⟩
    congr 2
    all_goals first | rfl | (simp; omega)
  · rw [if_neg h] at hx
    have hd : decide ((n : Int) < 10) = false := by simp; omega
    go_wp2
    go_ret
    rw [hx]
    refine ⟨?_, rfl⟩
    congr 2
    all_goals first | rfl | (simp; omega)
set_option maxRecDepth 100000 in
set_option maxHeartbeats 4000000 in
theorem quoteR_any (l : List UInt8) (w : World) (hl : l.length ≤ 1048576) :
    Calls Tryd.prog 89 #[.string ⟨l.toArray⟩] w fun e w' => e = .returned (.string ⟨(quoteL l).toArray⟩) ∧ Below w.heap.size w w' := by
  obtain ⟨i0, hi, hz0, hz1, hz2⟩ := info_parts infoByte
  go_enter Tryd.func89, Tryd.ntmps89
  go_wp2_with (at_builtin; refine wpList_append_any _ rfl (.tmp 6) (.tmp 7) _ rfl (w.heap.size) 5 i0 _ 1 1 Tryd.underlying39 hi hz0 hz1 hz2 rfl (by omega) (.slice none 0 0) (0) ([]) rfl (own_nil _ _ _ _) _ (some ⟨w.heap.size, 0, none⟩) (1) (1) (bytesC [34]) rfl (reads_newL _ _ [34] 1 rfl _ rfl _ rfl) (bytesC_one _) ?c1 ?c2 ?c3 ?_)
  try case c1 => simp only [maxLen]; omega
  try case c2 => omega
  try case c3 => simp
  intro v1 w1 ho1 hg1 hat1
  have hb1 : Below w.heap.size w w1 := ((Below.refl _ w).alloc (Nat.le_refl _) _).grown hg1 (by simp) (fun g hg => by simp [Value.ownBlock] at hg)
  clear hg1 hat1
  go_wp2_with fail
  go_loopw [3, 4] (fun v i wr => ∃ (k : Nat) (pre : List UInt8), k ≤ l.length ∧ i = .int .i64 k ∧ Hid (pre = 34 :: (l.take k).flatMap quoteB) ∧ wr.ownsRow w.heap.size 5 1 v pre.length (bytesC pre) ∧ Below w.heap.size w wr) (fun _ i _ => l.length - (intOf i).toNat)
  case atStart => exact ⟨0, [34], by omega, rfl, Lib.hid rfl, ho1, hb1⟩
  obtain ⟨k, pre, hk, rfl, hpre, hown, hb⟩ := hrel
  have hqb : pre.length ≤ 20000000 := by
    have := quoteF_len (l.take k)
    rw [hpre.out]
    simp only [List.length_cons, List.length_take] at this ⊢; omega
  by_cases hlt : k < l.length
  · obtain ⟨c, hc⟩ := get_lt hlt
    have hck : ∀ h, (⟨l.toArray⟩ : ByteArray)[k]'h = c := fun h => str_at hc h
    have hstep : Hid (34 :: (l.take (k + 1)).flatMap quoteB = pre ++ quoteB c) := by
      show _ = _
      rw [hpre.out, List.take_add_one, hc, List.flatMap_append]; simp
    clear hc
    have HQB := Lib.hid hqb
    clear hqb
    by_cases e34 : c.toNat = 34 ∨ c.toNat = 92
    · have hq : Hid (quoteB c = [92, c]) := by show _ = _; rw [quoteB, if_pos e34]
      rcases e34 with e34 | e34
      · have d34 : ((c.toNat : Int) == 34) = true := by simp; omega
        clear e34
        go_wp2_with (at_builtin; refine wpList_append_any _ rfl (.tmp 24) (.tmp 26) _ rfl (w.heap.size) 5 i0 _ 1 1 Tryd.underlying39 hi hz0 hz1 hz2 rfl (by omega) (u3) (pre.length) (bytesC pre) rfl (hown.alloc _) _ (some ⟨wr.heap.size, 0, none⟩) (2) (2) (bytesC [92, c]) rfl (reads_newL _ _ [92, c] 2 rfl _ rfl _ rfl) (bytesC_one _) ?c1 ?c2 ?c3 ?_)
        try case c1 => have := HQB.out; simp only [maxLen]; omega
        try case c2 => have := HQB.out; omega
        try case c3 => have := hb.size; simp; omega
        intro v2 w2 ho2 hg2 hat2
        have hb2 : Below w.heap.size w w2 := (hb.alloc hb.size _).grown hg2 (by have := hb.size; simp; omega) (fun g hg => (own_lt hown hg).1)
        clear hg2 hat2
        go_wp2_with fail
        exact ⟨⟨k + 1, pre ++ [92, c], by omega, by go_num, Lib.hid (by rw [hstep.out, hq.out]), by rw [List.length_append, bytesC_append]; exact ho2, hb2⟩, by simp [intOf]; omega⟩
      · have d34 : ((c.toNat : Int) == 34) = false := by simp; omega
        have d92 : ((c.toNat : Int) == 92) = true := by simp; omega
        clear e34
        go_wp2_with (at_builtin; refine wpList_append_any _ rfl (.tmp 24) (.tmp 26) _ rfl (w.heap.size) 5 i0 _ 1 1 Tryd.underlying39 hi hz0 hz1 hz2 rfl (by omega) (u3) (pre.length) (bytesC pre) rfl (hown.alloc _) _ (some ⟨wr.heap.size, 0, none⟩) (2) (2) (bytesC [92, c]) rfl (reads_newL _ _ [92, c] 2 rfl _ rfl _ rfl) (bytesC_one _) ?c1 ?c2 ?c3 ?_)
        try case c1 => have := HQB.out; simp only [maxLen]; omega
        try case c2 => have := HQB.out; omega
        try case c3 => have := hb.size; simp; omega
        intro v2 w2 ho2 hg2 hat2
        have hb2 : Below w.heap.size w w2 := (hb.alloc hb.size _).grown hg2 (by have := hb.size; simp; omega) (fun g hg => (own_lt hown hg).1)
        clear hg2 hat2
        go_wp2_with fail
        exact ⟨⟨k + 1, pre ++ [92, c], by omega, by go_num, Lib.hid (by rw [hstep.out, hq.out]), by rw [List.length_append, bytesC_append]; exact ho2, hb2⟩, by simp [intOf]; omega⟩
    · have d34 : ((c.toNat : Int) == 34) = false := by simp; omega
      have d92 : ((c.toNat : Int) == 92) = false := by simp; omega
      by_cases ex : c.toNat < 32 ∨ 126 < c.toNat
      · have hq : Hid (quoteB c = [92, hexB (c.toNat / 16), hexB (c.toNat % 16)]) := by show _ = _; rw [quoteB, if_neg e34, if_pos ex]
        obtain ⟨hi_, hhi⟩ : ∃ hi_ : Nat, hi_ = c.toNat / 16 := ⟨_, rfl⟩
        obtain ⟨lo, hlo⟩ : ∃ lo : Nat, lo = c.toNat % 16 := ⟨_, rfl⟩
        have h15 : (c.toNat : Int) % 16 = (lo : Int) := by omega
        have h16 : (c.toNat : Int) / 16 = (hi_ : Int) := by omega
        have h15t : (c.toNat : Int).tmod 16 = (lo : Int) := by rw [Int.tmod_eq_emod_of_nonneg (by omega)]; omega
        have h16t : (c.toNat : Int).tdiv 16 = (hi_ : Int) := by rw [Int.tdiv_eq_ediv_of_nonneg (by omega)]; omega
        have hi16 : hi_ < 16 := by have := c.toNat_lt; omega
        have lo16 : lo < 16 := by omega
        rw [← hhi, ← hlo] at hq
        clear hhi hlo e34
        rcases ex with ex | ex
        · have d32 : decide ((c.toNat : Int) < 32) = true := by simp; omega
          clear ex
          go_wp2_with fail
          refine (hexR_any hi_ hi16 wr).mono ?_
          rintro e w8 ⟨rfl, rfl⟩
          go_wp2_with fail
          refine (hexR_any lo lo16 w8).mono ?_
          rintro e wr ⟨rfl, rfl⟩
          go_wp2_with (at_builtin; refine wpList_append_any _ rfl (.tmp 34) (.tmp 41) _ rfl (w.heap.size) 5 i0 _ 1 1 Tryd.underlying39 hi hz0 hz1 hz2 rfl (by omega) (u3) (pre.length) (bytesC pre) rfl (hown.alloc _) _ (some ⟨wr.heap.size, 0, none⟩) (3) (3) (bytesC [92, hexB hi_, hexB lo]) rfl (reads_newL _ _ [92, hexB hi_, hexB lo] 3 rfl _ rfl _ rfl) (bytesC_one _) ?c1 ?c2 ?c3 ?_)
          try case c1 => have := HQB.out; simp only [maxLen]; omega
          try case c2 => have := HQB.out; omega
          try case c3 => have := hb.size; simp; omega
          intro v2 w2 ho2 hg2 hat2
          have hb2 : Below w.heap.size w w2 := (hb.alloc hb.size _).grown hg2 (by have := hb.size; simp; omega) (fun g hg => (own_lt hown hg).1)
          clear hg2 hat2
          go_wp2_with fail
          exact ⟨⟨k + 1, pre ++ [92, hexB hi_, hexB lo], by omega, by go_num, Lib.hid (by rw [hstep.out, hq.out]), by rw [List.length_append, bytesC_append]; exact ho2, hb2⟩, by simp [intOf]; omega⟩
        · have d32 : decide ((c.toNat : Int) < 32) = false := by simp; omega
          have d126 : decide (126 < (c.toNat : Int)) = true := by simp; omega
          clear ex
          go_wp2_with fail
          refine (hexR_any hi_ hi16 wr).mono ?_
          rintro e w8 ⟨rfl, rfl⟩
          go_wp2_with fail
          refine (hexR_any lo lo16 w8).mono ?_
          rintro e wr ⟨rfl, rfl⟩
          go_wp2_with (at_builtin; refine wpList_append_any _ rfl (.tmp 34) (.tmp 41) _ rfl (w.heap.size) 5 i0 _ 1 1 Tryd.underlying39 hi hz0 hz1 hz2 rfl (by omega) (u3) (pre.length) (bytesC pre) rfl (hown.alloc _) _ (some ⟨wr.heap.size, 0, none⟩) (3) (3) (bytesC [92, hexB hi_, hexB lo]) rfl (reads_newL _ _ [92, hexB hi_, hexB lo] 3 rfl _ rfl _ rfl) (bytesC_one _) ?c1 ?c2 ?c3 ?_)
          try case c1 => have := HQB.out; simp only [maxLen]; omega
          try case c2 => have := HQB.out; omega
          try case c3 => have := hb.size; simp; omega
          intro v2 w2 ho2 hg2 hat2
          have hb2 : Below w.heap.size w w2 := (hb.alloc hb.size _).grown hg2 (by have := hb.size; simp; omega) (fun g hg => (own_lt hown hg).1)
          clear hg2 hat2
          go_wp2_with fail
          exact ⟨⟨k + 1, pre ++ [92, hexB hi_, hexB lo], by omega, by go_num, Lib.hid (by rw [hstep.out, hq.out]), by rw [List.length_append, bytesC_append]; exact ho2, hb2⟩, by simp [intOf]; omega⟩
      · have hq : Hid (quoteB c = [c]) := by show _ = _; rw [quoteB, if_neg e34, if_neg ex]
        have d32 : decide ((c.toNat : Int) < 32) = false := by simp; omega
        have d126 : decide (126 < (c.toNat : Int)) = false := by simp; omega
        clear e34 ex
        go_wp2_with (at_builtin; refine wpList_append_any _ rfl (.tmp 43) (.tmp 45) _ rfl (w.heap.size) 5 i0 _ 1 1 Tryd.underlying39 hi hz0 hz1 hz2 rfl (by omega) (u3) (pre.length) (bytesC pre) rfl (hown.alloc _) _ (some ⟨wr.heap.size, 0, none⟩) (1) (1) (bytesC [c]) rfl (reads_newL _ _ [c] 1 rfl _ rfl _ rfl) (bytesC_one _) ?c1 ?c2 ?c3 ?_)
        try case c1 => have := HQB.out; simp only [maxLen]; omega
        try case c2 => have := HQB.out; omega
        try case c3 => have := hb.size; simp; omega
        intro v2 w2 ho2 hg2 hat2
        have hb2 : Below w.heap.size w w2 := (hb.alloc hb.size _).grown hg2 (by have := hb.size; simp; omega) (fun g hg => (own_lt hown hg).1)
        clear hg2 hat2
        go_wp2_with fail
        exact ⟨⟨k + 1, pre ++ [c], by omega, by go_num, Lib.hid (by rw [hstep.out, hq.out]), by rw [List.length_append, bytesC_append]; exact ho2, hb2⟩, by simp [intOf]; omega⟩
  · have hk' : k = l.length := by omega
    subst hk'
    have HP : Hid (pre ++ [34] = quoteL l) := by show _ = _; rw [hpre.out, List.take_length]; rfl
    have HQB := Lib.hid hqb
    clear hqb
    go_wp2_with (at_builtin; refine wpList_append_any _ rfl (.tmp 47) (.tmp 48) _ rfl (w.heap.size) 5 i0 _ 1 1 Tryd.underlying39 hi hz0 hz1 hz2 rfl (by omega) (u3) (pre.length) (bytesC pre) rfl (hown.alloc _) _ (some ⟨wr.heap.size, 0, none⟩) (1) (1) (bytesC [34]) rfl (reads_newL _ _ [34] 1 rfl _ rfl _ rfl) (bytesC_one _) ?c1 ?c2 ?c3 ?_)
    try case c1 => have := HQB.out; simp only [maxLen]; omega
    try case c2 => have := HQB.out; omega
    try case c3 => have := hb.size; simp; omega
    intro v2 w2 ho2 hg2 hat2
    have hb2 : Below w.heap.size w w2 := (hb.alloc hb.size _).grown hg2 (by have := hb.size; simp; omega) (fun g hg => (own_lt hown hg).1)
    have ho3 : w2.ownsRow w.heap.size 5 1 v2 (quoteL l).length (bytesC (quoteL l)) := by rw [← HP.out, List.length_append, bytesC_append]; exact ho2
    obtain ⟨A, cap, hv, _, _, hr⟩ := Reads.of_own ho3
    subst hv
    have hcv := conv_reads (c := cap) hr
    clear ho2 hg2 hat2 hr ho3
    go_wp2_with fail
    go_ret
    exact ⟨rfl, hb2⟩
end Go.Proofs.YtfaihilehdjfjaaDoor
