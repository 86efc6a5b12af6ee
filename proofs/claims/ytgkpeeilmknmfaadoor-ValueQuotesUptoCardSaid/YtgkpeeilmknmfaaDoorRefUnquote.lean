/- The document's answer: Unquote. -/
import Derived.Test.YtgkpeeilmknmfaaDoorRefQuote
namespace Go.Proofs.YtgkpeeilmknmfaaDoor
open Go.ChangeShapes Go.WideShapes Go.ChangeAt Go.RowKit

def unqRV : Option (List UInt8 × Nat) → Value
  | none => .tuple #[.string ⟨#[]⟩, .int .i64 0, .bool false]
  | some (t, n) => .tuple #[.string ⟨t.toArray⟩, .int .i64 n, .bool true]

set_option maxRecDepth 100000 in
set_option maxHeartbeats 4000000 in
theorem unquoteR_any (l : List UInt8) (w : World) (hl : l.length ≤ 10000000) :
    Calls Tryd.prog 26 #[.string ⟨l.toArray⟩] w fun e w' => e = .returned (unqRV (unquoteL l)) ∧ Below w.heap.size w w' := by
  obtain ⟨i0, hi, hz0, hz1, hz2⟩ := info_parts infoByte
  go_enter Tryd.func26, Tryd.ntmps26
  rcases Nat.eq_zero_or_pos l.length with h0 | h0
  · have : l = [] := List.length_eq_zero_iff.1 h0
    subst this
    go_wp2_with fail
    go_ret3
    exact ⟨rfl, Below.refl _ _⟩
  obtain ⟨q, hq0⟩ := get_lt h0
  have hem : l.isEmpty = false := by cases l <;> simp at h0 ⊢
  have hne : ¬ l = [] := by rintro rfl; simp at h0
  have hq1 : ∀ h, (⟨l.toArray⟩ : ByteArray)[0]'h = q := fun h => str_at hq0 h
  have hln := Lib.hid hl
  by_cases hq : q.toNat = 34
  · have dq : ((q.toNat : Int) != 34) = false := by simp; omega
    have HU : Hid (UqAt l 1 []) := ⟨by simp, by omega, by omega, _, by omega, uq_start hq0 hq⟩
    clear hq0 hq
    go_wp2_with fail
    clear dq hq1
    go_loopw [5, 6] (fun v i wr => ∃ (k : Nat) (acc : List UInt8), k ≤ l.length ∧ i = .int .i64 k ∧ Hid (UqAt l k acc) ∧ wr.ownsRow w.heap.size 5 1 v acc.length (bytesC acc) ∧ Below w.heap.size w wr) (fun _ i _ => l.length + 3 - (intOf i).toNat)
    case atStart => exact ⟨1, [], by omega, rfl, HU, own_nil _ _ _ _, Below.refl _ _⟩
    case round =>
      obtain ⟨k, acc, hk, rfl, HUk, hown, hb⟩ := hrel
      have HAL := Lib.hid HUk.out.1
      by_cases hlt : k < l.length
      · obtain ⟨c, hc⟩ := get_lt hlt
        have hck : ∀ h, (⟨l.toArray⟩ : ByteArray)[k]'h = c := fun h => str_at hc h
        obtain ⟨A, cap, hv, hcap, hcm, hr⟩ := Reads.of_own hown
        subst hv
        have hcv := conv_reads (c := cap) hr
        have HC := Lib.hid hc
        clear hc
        by_cases e34 : c.toNat = 34
        · have d34 : ((c.toNat : Int) == 34) = true := by simp; omega
          have HF : Hid (unquoteL l = some (acc, k + 1)) := HUk.out.fin HC.out e34
          clear e34
          go_wp2_with fail
          go_ret3
          exact ⟨by rw [HF.out]; rfl, hb⟩
        · have d34 : ((c.toNat : Int) == 34) = false := by simp; omega
          by_cases ex : c.toNat < 32 ∨ 126 < c.toNat
          · have HF : Hid (unquoteL l = none) := HUk.out.bad HC.out e34 ex
            rcases ex with ex | ex
            · have d32 : decide ((c.toNat : Int) < 32) = true := by simp; omega
              clear e34 ex
              go_wp2_with fail
              go_ret3
              exact ⟨by rw [HF.out]; rfl, hb⟩
            · have d32 : decide ((c.toNat : Int) < 32) = false := by simp; omega
              have d126 : decide (126 < (c.toNat : Int)) = true := by simp; omega
              clear e34 ex
              go_wp2_with fail
              go_ret3
              exact ⟨by rw [HF.out]; rfl, hb⟩
          · have d32 : decide ((c.toNat : Int) < 32) = false := by simp; omega
            have d126 : decide (126 < (c.toNat : Int)) = false := by simp; omega
            by_cases e92 : c.toNat = 92
            · have d92 : ((c.toNat : Int) != 92) = false := by simp; omega
              have H92 := Lib.hid e92
              clear e34 ex e92
              by_cases hk1 : k + 1 < l.length
              rotate_left
              focus
                have HF : Hid (unquoteL l = none) := HUk.out.end1 HC.out (by simp; omega) H92.out
                have dk : decide ((k : Int) + 1 < (l.length : Int)) = false := by simp; omega
                have dk2 : decide ((l.length : Int) ≤ (k : Int) + 2) = true := by simp; omega
                go_wp2_with fail
                go_ret3
                exact ⟨by rw [HF.out]; rfl, hb⟩
              obtain ⟨d, hd⟩ := get_lt hk1
              have hdk : ∀ h, (⟨l.toArray⟩ : ByteArray)[k + 1]'h = d := fun h => str_at hd h
              have HD := Lib.hid hd
              have dk : decide ((k : Int) + 1 < (l.length : Int)) = true := by simp; omega
              clear hd
              by_cases q34 : d.toNat = 34 ∨ d.toNat = 92
              · have HN : Hid (UqAt l (k + 2) (acc ++ [d])) := HUk.out.two HC.out HD.out H92.out q34
                have hk2 := HN.out.2.2.1
                rcases q34 with q34 | q34
                · have x34 : ((d.toNat : Int) == 34) = true := by simp; omega
                  clear q34
                  go_wp2_with (at_builtin; refine wpList_append_any _ rfl (.tmp 64) (.tmp 69) _ rfl (w.heap.size) 5 i0 _ 1 1 Tryd.underlying23 hi hz0 hz1 hz2 rfl (by omega) (.slice A acc.length cap) (acc.length) (bytesC acc) rfl ((hown.alloc _)) _ (some ⟨wr.heap.size, 0, none⟩) (1) (1) (bytesC [d]) rfl (reads_newL _ _ [d] 1 rfl _ rfl _ rfl) (bytesC_one _) ?c1 ?c2 ?c3 ?_)
                  try case c1 => have := hln.out; have := HAL.out; simp only [maxLen]; omega
                  try case c2 => have := hln.out; have := HAL.out; omega
                  try case c3 => have := hb.size; simp; omega
                  intro v2 w2 ho2 hg2 hat2
                  have hb2 : Below w.heap.size w w2 := (hb.alloc hb.size _).grown hg2 (by have := hb.size; simp; omega) (fun g hg => (own_lt hown hg).1)
                  clear hg2 hat2
                  go_wp2_with fail
                  exact ⟨⟨k + 2, acc ++ [d], by omega, by go_num, HN, by rw [List.length_append, bytesC_append]; exact ho2, hb2⟩, by simp [intOf]; omega⟩
                · have x34 : ((d.toNat : Int) == 34) = false := by simp; omega
                  have x92 : ((d.toNat : Int) == 92) = true := by simp; omega
                  clear q34
                  go_wp2_with (at_builtin; refine wpList_append_any _ rfl (.tmp 64) (.tmp 69) _ rfl (w.heap.size) 5 i0 _ 1 1 Tryd.underlying23 hi hz0 hz1 hz2 rfl (by omega) (.slice A acc.length cap) (acc.length) (bytesC acc) rfl ((hown.alloc _)) _ (some ⟨wr.heap.size, 0, none⟩) (1) (1) (bytesC [d]) rfl (reads_newL _ _ [d] 1 rfl _ rfl _ rfl) (bytesC_one _) ?c1 ?c2 ?c3 ?_)
                  try case c1 => have := hln.out; have := HAL.out; simp only [maxLen]; omega
                  try case c2 => have := hln.out; have := HAL.out; omega
                  try case c3 => have := hb.size; simp; omega
                  intro v2 w2 ho2 hg2 hat2
                  have hb2 : Below w.heap.size w w2 := (hb.alloc hb.size _).grown hg2 (by have := hb.size; simp; omega) (fun g hg => (own_lt hown hg).1)
                  clear hg2 hat2
                  go_wp2_with fail
                  exact ⟨⟨k + 2, acc ++ [d], by omega, by go_num, HN, by rw [List.length_append, bytesC_append]; exact ho2, hb2⟩, by simp [intOf]; omega⟩
              have x34 : ((d.toNat : Int) == 34) = false := by simp; omega
              have x92 : ((d.toNat : Int) == 92) = false := by simp; omega
              have HQ := Lib.hid q34
              clear q34
              by_cases hk2 : k + 2 < l.length
              rotate_left
              focus
                have HF : Hid (unquoteL l = none) := HUk.out.end2 HC.out HD.out (by simp; omega) H92.out HQ.out
                have dk2 : decide ((l.length : Int) ≤ (k : Int) + 2) = true := by simp; omega
                go_wp2_with fail
                go_ret3
                exact ⟨by rw [HF.out]; rfl, hb⟩
              obtain ⟨e, he⟩ := get_lt hk2
              have hek : ∀ h, (⟨l.toArray⟩ : ByteArray)[k + 2]'h = e := fun h => str_at he h
              have HE := Lib.hid he
              have dk2 : decide ((l.length : Int) ≤ (k : Int) + 2) = false := by simp; omega
              clear he
              go_wp2_with fail
              refine (digitR_any d wr).mono ?_
              rintro e8 w8 ⟨rfl, rfl⟩
              go_wp2_with fail
              refine (digitR_any e w8).mono ?_
              rintro e8 wr ⟨rfl, rfl⟩
              cases hm : hexOf d with
              | none =>
                have HF : Hid (unquoteL l = none) := HUk.out.hexNo HC.out HD.out HE.out H92.out HQ.out (.inl hm)
                rw [hexI_none hm]
                generalize hexI e = y
                clear hm
                go_wp2_with fail
                go_ret3
                exact ⟨by rw [HF.out]; rfl, hb⟩
              | some m =>
                cases hn : hexOf e with
                | none =>
                  have HF : Hid (unquoteL l = none) := HUk.out.hexNo HC.out HD.out HE.out H92.out HQ.out (.inr hn)
                  rw [hexI_some hm, hexI_none hn]
                  have hm16 := hexOf_lt hm
                  clear hm hn
                  go_wp2_with fail
                  go_ret3
                  exact ⟨by rw [HF.out]; rfl, hb⟩
                | some n =>
                  rw [hexI_some hm, hexI_some hn]
                  have hm16 := hexOf_lt hm
                  have hn16 := hexOf_lt hn
                  obtain ⟨X, hX⟩ : ∃ X : Nat, X = m * 16 + n := ⟨_, rfl⟩
                  have hor : (m : Int) * 16 + (n : Int) = (X : Int) := by omega
                  have hX6 : X < 256 := by omega
                  have HM := Lib.hid hm
                  have HN := Lib.hid hn
                  have HX := Lib.hid hX
                  clear hm hn hX hr hcv
                  by_cases hx1 : 32 ≤ X
                  · have x32 : decide ((32 : Int) ≤ (X : Int)) = true := by simp; omega
                    by_cases hx2 : X ≤ 126
                    · have x126 : decide ((X : Int) ≤ 126) = true := by simp; omega
                      have HF : Hid (unquoteL l = none) := HUk.out.hexBad HC.out HD.out HE.out H92.out HQ.out HM.out HN.out (by rw [← HX.out]; omega)
                      clear hx1 hx2
                      go_wp2_with fail
                      go_ret3
                      exact ⟨by rw [HF.out]; rfl, hb⟩
                    · have x126 : decide ((X : Int) ≤ 126) = false := by simp; omega
                      have HT : Hid (UqAt l (k + 3) (acc ++ [UInt8.ofNat X])) := by
                        have := HUk.out.three HC.out HD.out HE.out H92.out HQ.out HM.out HN.out (by rw [← HX.out]; omega)
                        rw [← HX.out] at this; exact this
                      clear hx1 hx2
                      have hk3 := HT.out.2.2.1
                      go_wp2_with (at_builtin; refine wpList_append_any _ rfl (.tmp 106) (.tmp 109) _ rfl (w.heap.size) 5 i0 _ 1 1 Tryd.underlying23 hi hz0 hz1 hz2 rfl (by omega) (.slice A acc.length cap) (acc.length) (bytesC acc) rfl ((hown.alloc _)) _ (some ⟨wr.heap.size, 0, none⟩) (1) (1) (bytesC [UInt8.ofNat X]) rfl (reads_new _ _ _ _ (by rw [ofNat_toNat hX6]) _ rfl) (bytesC_one _) ?c1 ?c2 ?c3 ?_)
                      try case c1 => have := hln.out; have := HAL.out; simp only [maxLen]; omega
                      try case c2 => have := hln.out; have := HAL.out; omega
                      try case c3 => have := hb.size; simp; omega
                      intro v2 w2 ho2 hg2 hat2
                      have hb2 : Below w.heap.size w w2 := (hb.alloc hb.size _).grown hg2 (by have := hb.size; simp; omega) (fun g hg => (own_lt hown hg).1)
                      clear hg2 hat2
                      go_wp2_with fail
                      exact ⟨⟨k + 3, acc ++ [UInt8.ofNat X], by omega, by go_num, HT, by rw [List.length_append, bytesC_append]; exact ho2, hb2⟩, by simp [intOf]; omega⟩
                  · have x32 : decide ((32 : Int) ≤ (X : Int)) = false := by simp; omega
                    have HT : Hid (UqAt l (k + 3) (acc ++ [UInt8.ofNat X])) := by
                      have := HUk.out.three HC.out HD.out HE.out H92.out HQ.out HM.out HN.out (by rw [← HX.out]; omega)
                      rw [← HX.out] at this; exact this
                    clear hx1
                    have hk3 := HT.out.2.2.1
                    go_wp2_with (at_builtin; refine wpList_append_any _ rfl (.tmp 106) (.tmp 109) _ rfl (w.heap.size) 5 i0 _ 1 1 Tryd.underlying23 hi hz0 hz1 hz2 rfl (by omega) (.slice A acc.length cap) (acc.length) (bytesC acc) rfl ((hown.alloc _)) _ (some ⟨wr.heap.size, 0, none⟩) (1) (1) (bytesC [UInt8.ofNat X]) rfl (reads_new _ _ _ _ (by rw [ofNat_toNat hX6]) _ rfl) (bytesC_one _) ?c1 ?c2 ?c3 ?_)
                    try case c1 => have := hln.out; have := HAL.out; simp only [maxLen]; omega
                    try case c2 => have := hln.out; have := HAL.out; omega
                    try case c3 => have := hb.size; simp; omega
                    intro v2 w2 ho2 hg2 hat2
                    have hb2 : Below w.heap.size w w2 := (hb.alloc hb.size _).grown hg2 (by have := hb.size; simp; omega) (fun g hg => (own_lt hown hg).1)
                    clear hg2 hat2
                    go_wp2_with fail
                    exact ⟨⟨k + 3, acc ++ [UInt8.ofNat X], by omega, by go_num, HT, by rw [List.length_append, bytesC_append]; exact ho2, hb2⟩, by simp [intOf]; omega⟩
            · have d92 : ((c.toNat : Int) != 92) = true := by simp; omega
              have HN : Hid (UqAt l (k + 1) (acc ++ [c])) := HUk.out.one HC.out e34 ex e92
              clear e34 ex e92
              go_wp2_with (at_builtin; refine wpList_append_any _ rfl (.tmp 39) (.tmp 41) _ rfl (w.heap.size) 5 i0 _ 1 1 Tryd.underlying23 hi hz0 hz1 hz2 rfl (by omega) (.slice A acc.length cap) (acc.length) (bytesC acc) rfl ((hown.alloc _)) _ (some ⟨wr.heap.size, 0, none⟩) (1) (1) (bytesC [c]) rfl (reads_newL _ _ [c] 1 rfl _ rfl _ rfl) (bytesC_one _) ?c1 ?c2 ?c3 ?_)
              try case c1 => have := hln.out; have := HAL.out; simp only [maxLen]; omega
              try case c2 => have := hln.out; have := HAL.out; omega
              try case c3 => have := hb.size; simp; omega
              intro v2 w2 ho2 hg2 hat2
              have hb2 : Below w.heap.size w w2 := (hb.alloc hb.size _).grown hg2 (by have := hb.size; simp; omega) (fun g hg => (own_lt hown hg).1)
              clear hg2 hat2
              go_wp2_with fail
              exact ⟨⟨k + 1, acc ++ [c], by omega, by go_num, HN, by rw [List.length_append, bytesC_append]; exact ho2, hb2⟩, by simp [intOf]; omega⟩
      · have HF : Hid (unquoteL l = none) := HUk.out.fall hlt
        go_wp2_with fail
        go_ret3
        exact ⟨by rw [HF.out]; rfl, hb⟩
  · have dq : ((q.toNat : Int) != 34) = true := by simp; omega
    have HF : Hid (unquoteL l = none) := uq_no hq0 hq
    clear hq hq0
    go_wp2_with fail
    go_ret3
    exact ⟨by rw [HF.out]; rfl, Below.refl _ _⟩
end Go.Proofs.YtgkpeeilmknmfaaDoor
