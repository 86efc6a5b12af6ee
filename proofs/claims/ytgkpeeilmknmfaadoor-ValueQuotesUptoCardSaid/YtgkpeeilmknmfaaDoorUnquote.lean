/- The walk of Unquote. -/
import Derived.Test.YtgkpeeilmknmfaaDoorQuote
namespace Go.Proofs.YtgkpeeilmknmfaaDoor
open Go.ChangeShapes Go.WideShapes Go.ChangeAt Go.RowKit

def hexI (c : UInt8) : Int := match hexOf c with | some h => (h : Int) | none => -1
theorem ix_fin : ∀ c : Fin 256, Lib.indexByte [48, 49, 50, 51, 52, 53, 54, 55, 56, 57, 97, 98, 99, 100, 101, 102] ((c.val : Nat) : Int).toNat.toUInt8 = hexI (UInt8.ofNat c.val) := by decide +kernel
theorem ix_hex (c : UInt8) (w : World) : Calls Tryd.prog 43 #[.string ⟨#[48, 49, 50, 51, 52, 53, 54, 55, 56, 57, 97, 98, 99, 100, 101, 102]⟩, .int .u8 (c.toNat : Int)] w fun e w' => e = .returned (.int .i64 (hexI c)) ∧ w' = w := by
  refine (index_any _ _ w).mono ?_
  rintro e w' ⟨rfl, rfl⟩
  refine ⟨?_, rfl⟩
  have := ix_fin ⟨c.toNat, c.toNat_lt⟩
  simp only [UInt8.ofNat_toNat] at this
  rw [← this]
theorem hexOf_lt {c : UInt8} {h : Nat} (hc : hexOf c = some h) : h < 16 := by
  unfold hexOf at hc
  split at hc
  · injection hc; omega
  · split at hc
    · injection hc; omega
    · cases hc
theorem hexI_some {c : UInt8} {h : Nat} (hc : hexOf c = some h) : hexI c = (h : Int) := by simp [hexI, hc]
theorem hexI_none {c : UInt8} (hc : hexOf c = none) : hexI c = -1 := by simp [hexI, hc]
theorem or_fin : ∀ h k : Fin 16, bits .or .i64 (((h.val : Nat) : Int) * 16) ((k.val : Nat) : Int) = ((h.val * 16 + k.val : Nat) : Int) := by decide +kernel
theorem or_16 {h k : Nat} (hh : h < 16) (hk : k < 16) : bits .or .i64 ((h : Int) * 16) (k : Int) = ((h * 16 + k : Nat) : Int) := or_fin ⟨h, hh⟩ ⟨k, hk⟩

def unqV : Option (List UInt8 × Nat) → Value
  | none => .tuple #[.string ⟨#[]⟩, .int .i64 0, .iface 76 (.int .i64 2)]
  | some (t, n) => .tuple #[.string ⟨t.toArray⟩, .int .i64 n, .nilIface]

/-- where the loop of Unquote stands -/
def UqAt (l : List UInt8) (k : Nat) (acc : List UInt8) : Prop := acc.length ≤ k ∧ 1 ≤ k ∧ k ≤ l.length ∧ ∃ f, l.length - k < f ∧ unquoteL l = unqG f (l.drop k) k acc

theorem uq_start {l : List UInt8} {q : UInt8} (h : l[0]? = some q) (hq : q.toNat = 34) : unquoteL l = unqG (l.length) (l.drop 1) 1 [] := by
  cases l with
  | nil => simp at h
  | cons c r => simp at h; subst h; simp only [unquoteL, if_pos hq]; rfl
theorem uq_no {l : List UInt8} {q : UInt8} (h : l[0]? = some q) (hq : ¬ q.toNat = 34) : unquoteL l = none := by
  cases l with
  | nil => simp at h
  | cons c r => simp at h; subst h; simp only [unquoteL, if_neg hq]
section
variable {l : List UInt8} {k : Nat} {acc : List UInt8} {c d e : UInt8}
theorem drop_cons (h : l[k]? = some c) : l.drop k = c :: l.drop (k + 1) := by
  obtain ⟨hlt, rfl⟩ := List.getElem?_eq_some_iff.1 h
  exact List.drop_eq_getElem_cons hlt
theorem UqAt.fin (h : UqAt l k acc) (hc : l[k]? = some c) (h34 : c.toNat = 34) : unquoteL l = some (acc, k + 1) := by
  obtain ⟨_, _, _, f, hf, e⟩ := h
  rw [e, drop_cons hc]
  obtain _ | f := f
  · omega
  simp only [unqG, if_pos h34]
theorem UqAt.bad (h : UqAt l k acc) (hc : l[k]? = some c) (h34 : ¬ c.toNat = 34) (hx : c.toNat < 32 ∨ 126 < c.toNat) : unquoteL l = none := by
  obtain ⟨_, _, _, f, hf, e⟩ := h
  rw [e, drop_cons hc]
  obtain _ | f := f
  · omega
  simp only [unqG, if_neg h34, if_pos hx]
theorem UqAt.fall (h : UqAt l k acc) (hk : ¬ k < l.length) : unquoteL l = none := by
  obtain ⟨_, _, _, f, hf, e⟩ := h
  rw [e, List.drop_eq_nil_of_le (by omega)]
  obtain _ | f := f
  · omega
  rfl
theorem UqAt.one (h : UqAt l k acc) (hc : l[k]? = some c) (h34 : ¬ c.toNat = 34) (hx : ¬ (c.toNat < 32 ∨ 126 < c.toNat)) (h92 : ¬ c.toNat = 92) : UqAt l (k + 1) (acc ++ [c]) := by
  have hlt := (List.getElem?_eq_some_iff.1 hc).1
  obtain ⟨h1, h2, h3, f, hf, e⟩ := h
  obtain _ | f := f
  · omega
  refine ⟨by simp; omega, by omega, by omega, f, by omega, ?_⟩
  rw [e, drop_cons hc]
  simp only [unqG, if_neg h34, if_neg hx, if_pos h92, ne_eq, not_false_iff]
theorem UqAt.two (h : UqAt l k acc) (hc : l[k]? = some c) (hd : l[k + 1]? = some d) (h92 : c.toNat = 92) (hq : d.toNat = 34 ∨ d.toNat = 92) : UqAt l (k + 2) (acc ++ [d]) := by
  have hlt := (List.getElem?_eq_some_iff.1 hd).1
  obtain ⟨h1, h2, h3, f, hf, e⟩ := h
  obtain _ | f := f
  · omega
  refine ⟨by simp; omega, by omega, by omega, f, by omega, ?_⟩
  rw [e, drop_cons hc, drop_cons hd]
  simp only [unqG]
  rw [if_neg (by omega), if_neg (by omega), if_neg (by omega)]
  simp only [if_pos hq]
theorem UqAt.end1 (h : UqAt l k acc) (hc : l[k]? = some c) (hd : l[k + 1]? = none) (h92 : c.toNat = 92) : unquoteL l = none := by
  obtain ⟨h1, h2, h3, f, hf, e⟩ := h
  obtain _ | f := f
  · omega
  rw [e, drop_cons hc, List.drop_eq_nil_of_le (by simpa using hd)]
  simp only [unqG]
  rw [if_neg (by omega), if_neg (by omega), if_neg (by omega)]
theorem UqAt.end2 (h : UqAt l k acc) (hc : l[k]? = some c) (hd : l[k + 1]? = some d) (he : l[k + 2]? = none) (h92 : c.toNat = 92) (hq : ¬ (d.toNat = 34 ∨ d.toNat = 92)) : unquoteL l = none := by
  obtain ⟨h1, h2, h3, f, hf, e⟩ := h
  obtain _ | f := f
  · omega
  rw [e, drop_cons hc, drop_cons hd, List.drop_eq_nil_of_le (by simpa using he)]
  simp only [unqG]
  rw [if_neg (by omega), if_neg (by omega), if_neg (by omega)]
  simp only [if_neg hq]
theorem UqAt.hexNo (h : UqAt l k acc) (hc : l[k]? = some c) (hd : l[k + 1]? = some d) (he : l[k + 2]? = some e) (h92 : c.toNat = 92) (hq : ¬ (d.toNat = 34 ∨ d.toNat = 92)) (hn : hexOf d = none ∨ hexOf e = none) : unquoteL l = none := by
  obtain ⟨h1, h2, h3, f, hf, e⟩ := h
  obtain _ | f := f
  · omega
  rw [e, drop_cons hc, drop_cons hd, drop_cons he]
  simp only [unqG]
  rw [if_neg (by omega), if_neg (by omega), if_neg (by omega)]
  simp only [if_neg hq]
  rcases hn with hn | hn
  · rw [hn]
  · rw [hn]; split <;> simp_all
theorem UqAt.hexBad (h : UqAt l k acc) (hc : l[k]? = some c) (hd : l[k + 1]? = some d) (he : l[k + 2]? = some e) (h92 : c.toNat = 92) (hq : ¬ (d.toNat = 34 ∨ d.toNat = 92)) {m n : Nat} (hm : hexOf d = some m) (hn : hexOf e = some n) (hr : 32 ≤ m * 16 + n ∧ m * 16 + n ≤ 126) : unquoteL l = none := by
  obtain ⟨h1, h2, h3, f, hf, e⟩ := h
  obtain _ | f := f
  · omega
  rw [e, drop_cons hc, drop_cons hd, drop_cons he]
  simp only [unqG]
  rw [if_neg (by omega), if_neg (by omega), if_neg (by omega)]
  simp only [if_neg hq, hm, hn, if_pos hr]
theorem UqAt.three (h : UqAt l k acc) (hc : l[k]? = some c) (hd : l[k + 1]? = some d) (he : l[k + 2]? = some e) (h92 : c.toNat = 92) (hq : ¬ (d.toNat = 34 ∨ d.toNat = 92)) {m n : Nat} (hm : hexOf d = some m) (hn : hexOf e = some n) (hr : ¬ (32 ≤ m * 16 + n ∧ m * 16 + n ≤ 126)) : UqAt l (k + 3) (acc ++ [UInt8.ofNat (m * 16 + n)]) := by
  have hlt := (List.getElem?_eq_some_iff.1 he).1
  obtain ⟨h1, h2, h3, f, hf, e⟩ := h
  obtain _ | f := f
  · omega
  refine ⟨by simp; omega, by omega, by omega, f, by omega, ?_⟩
  rw [e, drop_cons hc, drop_cons hd, drop_cons he]
  simp only [unqG]
  rw [if_neg (by omega), if_neg (by omega), if_neg (by omega)]
  simp only [if_neg hq, hm, hn, if_neg hr]
theorem ext_drop (l : List UInt8) (k : Nat) : (⟨l.toArray⟩ : ByteArray).extract k l.length = ⟨(l.drop k).toArray⟩ := by
  apply ByteArray.ext
  simp
  exact List.take_of_length_le (by simp)
theorem wrap_small {x : Int} (h : 0 ≤ x) (h2 : x < 9223372036854775808) : wrap64 x = x := by unfold wrap64; omega
theorem str_at (h : l[k]? = some c) (h' : k < (⟨l.toArray⟩ : ByteArray).size) : (⟨l.toArray⟩ : ByteArray)[k]'h' = c := by
  obtain ⟨hlt, rfl⟩ := List.getElem?_eq_some_iff.1 h
  rfl
end

set_option maxRecDepth 100000 in
set_option maxHeartbeats 4000000 in
theorem unquote_any (l : List UInt8) (w : World) (hl : l.length ≤ 10000000) :
    Calls Tryd.prog 27 #[.string ⟨l.toArray⟩] w fun e w' => e = .returned (unqV (unquoteL l)) ∧ Below w.heap.size w w' := by
  obtain ⟨i0, hi, hz0, hz1, hz2⟩ := info_parts infoByte
  go_enter Tryd.func27, Tryd.ntmps27
  rcases Nat.eq_zero_or_pos l.length with h0 | h0
  · have : l = [] := List.length_eq_zero_iff.1 h0
    subst this
    go_wp2_with fail
    go_ret3
    exact ⟨rfl, Below.refl _ _⟩
  obtain ⟨q, hq0⟩ := get_lt h0
  have hem : l.isEmpty = false := by cases l <;> simp at h0 ⊢
  have hne : ¬ l = [] := by rintro rfl; simp at h0
  have hq1 : ∀ h, (⟨l.toArray⟩ : ByteArray)[0]'h = q := fun h => str_at hq0 h
  have hln := Lib.hid hl
  by_cases hq : q.toNat = 34
  · have dq : ((q.toNat : Int) != 34) = false := by simp; omega
    have HU : Hid (UqAt l 1 []) := ⟨by simp, by omega, by omega, _, by omega, uq_start hq0 hq⟩
    clear hq0 hq
    go_wp2_with fail
    clear dq hq1
    go_loopw [5, 6] (fun v i wr => ∃ (k : Nat) (acc : List UInt8), k ≤ l.length ∧ i = .int .i64 k ∧ Hid (UqAt l k acc) ∧ wr.ownsRow w.heap.size 5 1 v acc.length (bytesC acc) ∧ Below w.heap.size w wr) (fun _ i _ => l.length + 3 - (intOf i).toNat)
    case atStart => exact ⟨1, [], by omega, rfl, HU, own_nil _ _ _ _, Below.refl _ _⟩
    case round =>
      obtain ⟨k, acc, hk, rfl, HUk, hown, hb⟩ := hrel
      by_cases hlt : k < l.length
      · obtain ⟨c, hc⟩ := get_lt hlt
        have hck : ∀ h, (⟨l.toArray⟩ : ByteArray)[k]'h = c := fun h => str_at hc h
        obtain ⟨A, cap, hv, hcap, hcm, hr⟩ := Reads.of_own hown
        subst hv
        have hcv := conv_reads (c := cap) hr
        have HC := Lib.hid hc
        clear hc
        by_cases e34 : c.toNat = 34
        · have d34 : ((c.toNat : Int) == 34) = true := by simp; omega
          have HF : Hid (unquoteL l = some (acc, k + 1)) := HUk.out.fin HC.out e34
          clear e34
          go_wp2_with fail
          go_ret3
          exact ⟨by rw [HF.out]; rfl, hb⟩
        · have d34 : ((c.toNat : Int) == 34) = false := by simp; omega
          by_cases ex : c.toNat < 32 ∨ 126 < c.toNat
          · have HF : Hid (unquoteL l = none) := HUk.out.bad HC.out e34 ex
            rcases ex with ex | ex
            · have d32 : decide ((c.toNat : Int) < 32) = true := by simp; omega
              clear e34 ex
              go_wp2_with fail
              go_ret3
              exact ⟨by rw [HF.out]; rfl, hb⟩
            · have d32 : decide ((c.toNat : Int) < 32) = false := by simp; omega
              have d126 : decide (126 < (c.toNat : Int)) = true := by simp; omega
              clear e34 ex
              go_wp2_with fail
              go_ret3
              exact ⟨by rw [HF.out]; rfl, hb⟩
          · have d32 : decide ((c.toNat : Int) < 32) = false := by simp; omega
            have d126 : decide (126 < (c.toNat : Int)) = false := by simp; omega
            by_cases e92 : c.toNat = 92
            · have d92 : ((c.toNat : Int) != 92) = false := by simp; omega
              have H92 := Lib.hid e92
              obtain ⟨r, hr0⟩ : ∃ r, r = l.drop (k + 1) := ⟨_, rfl⟩
              have hex_ : (⟨l.toArray⟩ : ByteArray).extract (k + 1) l.length = ⟨r.toArray⟩ := by rw [hr0]; exact ext_drop l (k + 1)
              have hrl : r.length = l.length - (k + 1) := by rw [hr0]; simp
              have hrg : ∀ j, r[j]? = l[k + 1 + j]? := fun j => by rw [hr0, List.getElem?_drop]
              have HRG := Lib.hid hrg
              have HAL := Lib.hid HUk.out.1
              clear e34 ex e92 hr0 hrg
              by_cases hr1 : r.length = 0
              · have hre : r = [] := List.length_eq_zero_iff.1 hr1
                subst hre
                have HF : Hid (unquoteL l = none) := HUk.out.end1 HC.out (by rw [← HRG.out 0]; rfl) H92.out
                clear hr1 hrl
                go_wp2_with fail
                go_ret3
                exact ⟨by rw [HF.out]; rfl, hb⟩
              obtain ⟨d, hd⟩ := get_lt (l := r) (k := 0) (by omega)
              have hd0 : ∀ h, (⟨r.toArray⟩ : ByteArray)[0]'h = d := fun h => str_at hd h
              have hrn : r.isEmpty = false := by cases r <;> simp at hr1 ⊢
              have hrn2 : ¬ r = [] := by rintro rfl; simp at hr1
              have hrp : 0 < r.length := by omega
              have HD : Hid (l[k + 1]? = some d) := by show _ = _; rw [← hd, HRG.out 0]
              clear hd hr1
              by_cases q34 : d.toNat = 34 ∨ d.toNat = 92
              · have HN : Hid (UqAt l (k + 2) (acc ++ [d])) := HUk.out.two HC.out HD.out H92.out q34
                have hk2 := HN.out.2.2.1
                rcases q34 with q34 | q34
                · have x34 : ((d.toNat : Int) == 34) = true := by simp; omega
                  clear q34
                  go_wp2_with (at_builtin; refine wpList_append_any _ rfl (.tmp 67) (.tmp 70) _ rfl (w.heap.size) 5 i0 _ 1 1 Tryd.underlying23 hi hz0 hz1 hz2 rfl (by omega) (.slice A acc.length cap) (acc.length) (bytesC acc) rfl ((hown.alloc _)) _ (some ⟨wr.heap.size, 0, none⟩) (1) (1) (bytesC [d]) rfl (reads_new _ _ _ _ rfl _ rfl) (bytesC_one _) ?c1 ?c2 ?c3 ?_)
                  try case c1 => have := hln.out; have := HAL.out; simp only [maxLen]; omega
                  try case c2 => have := hln.out; have := HAL.out; omega
                  try case c3 => have := hb.size; simp; omega
                  intro v2 w2 ho2 hg2 hat2
                  have hb2 : Below w.heap.size w w2 := (hb.alloc hb.size _).grown hg2 (by have := hb.size; simp; omega) (fun g hg => (own_lt hown hg).1)
                  go_wp2_with fail
                  exact ⟨⟨k + 2, acc ++ [d], by omega, by go_num, HN, by rw [List.length_append, bytesC_append]; exact ho2, hb2⟩, by simp [intOf]; omega⟩
                · have x34 : ((d.toNat : Int) == 34) = false := by simp; omega
                  have x92 : ((d.toNat : Int) == 92) = true := by simp; omega
                  clear q34
                  go_wp2_with (at_builtin; refine wpList_append_any _ rfl (.tmp 67) (.tmp 70) _ rfl (w.heap.size) 5 i0 _ 1 1 Tryd.underlying23 hi hz0 hz1 hz2 rfl (by omega) (.slice A acc.length cap) (acc.length) (bytesC acc) rfl ((hown.alloc _)) _ (some ⟨wr.heap.size, 0, none⟩) (1) (1) (bytesC [d]) rfl (reads_new _ _ _ _ rfl _ rfl) (bytesC_one _) ?c1 ?c2 ?c3 ?_)
                  try case c1 => have := hln.out; have := HAL.out; simp only [maxLen]; omega
                  try case c2 => have := hln.out; have := HAL.out; omega
                  try case c3 => have := hb.size; simp; omega
                  intro v2 w2 ho2 hg2 hat2
                  have hb2 : Below w.heap.size w w2 := (hb.alloc hb.size _).grown hg2 (by have := hb.size; simp; omega) (fun g hg => (own_lt hown hg).1)
                  go_wp2_with fail
                  exact ⟨⟨k + 2, acc ++ [d], by omega, by go_num, HN, by rw [List.length_append, bytesC_append]; exact ho2, hb2⟩, by simp [intOf]; omega⟩
              have x34 : ((d.toNat : Int) == 34) = false := by simp; omega
              have x92 : ((d.toNat : Int) == 92) = false := by simp; omega
              have HQ := Lib.hid q34
              clear q34
              by_cases hr2 : r.length < 2
              · have xl : decide ((r.length : Int) < 2) = true := by simp; omega
                have HF : Hid (unquoteL l = none) := HUk.out.end2 HC.out HD.out (by rw [← HRG.out 1]; simp; omega) H92.out HQ.out
                clear hrl hr2
                go_wp2_with fail
                go_ret3
                exact ⟨by rw [HF.out]; rfl, hb⟩
              obtain ⟨e, he⟩ := get_lt (l := r) (k := 1) (by omega)
              have he1 : ∀ h, (⟨r.toArray⟩ : ByteArray)[1]'h = e := fun h => str_at he h
              have hrp1 : 1 < r.length := by omega
              have HE : Hid (l[k + 2]? = some e) := by show _ = _; rw [← he, HRG.out 1]
              have xl : decide ((r.length : Int) < 2) = false := by simp; omega
              clear he hr2
              go_wp2_with fail
              go_quiet (first | (go_at_call 43; exact Calls.quiet_of_same (ix_hex d _)) | (go_at_call 43; exact Calls.quiet_of_same (ix_hex e _)))
              cases hm : hexOf d with
              | none =>
                have HF : Hid (unquoteL l = none) := HUk.out.hexNo HC.out HD.out HE.out H92.out HQ.out (.inl hm)
                rw [hexI_none hm]
                generalize hexI e = y
                clear hm
                go_wp2_with fail
                go_ret3
                exact ⟨by rw [HF.out]; rfl, below_drewN hb _⟩
              | some m =>
                cases hn : hexOf e with
                | none =>
                  have HF : Hid (unquoteL l = none) := HUk.out.hexNo HC.out HD.out HE.out H92.out HQ.out (.inr hn)
                  rw [hexI_some hm, hexI_none hn]
                  have hm16 := hexOf_lt hm
                  clear hm hn
                  go_wp2_with fail
                  go_ret3
                  exact ⟨by rw [HF.out]; rfl, below_drewN hb _⟩
                | some n =>
                  rw [hexI_some hm, hexI_some hn]
                  have hm16 := hexOf_lt hm
                  have hn16 := hexOf_lt hn
                  obtain ⟨X, hX⟩ : ∃ X : Nat, X = m * 16 + n := ⟨_, rfl⟩
                  have hor := or_16 hm16 hn16
                  rw [← hX] at hor
                  have hX6 : X < 256 := by omega
                  obtain ⟨w5, hw5⟩ : ∃ w5, w5 = wr.drewN nq := ⟨_, rfl⟩
                  rw [← hw5]
                  have hown5 : w5.ownsRow w.heap.size 5 1 (.slice A acc.length cap) acc.length (bytesC acc) := by rw [hw5]; exact hown
                  have hb5 : Below w.heap.size w w5 := by rw [hw5]; exact below_drewN hb _
                  have HM := Lib.hid hm
                  have HN := Lib.hid hn
                  have HX := Lib.hid hX
                  clear hm hn hX hw5 hown hb hr hcv
                  by_cases hx1 : 32 ≤ X
                  · have x32 : decide ((32 : Int) ≤ (X : Int)) = true := by simp; omega
                    by_cases hx2 : X ≤ 126
                    · have x126 : decide ((X : Int) ≤ 126) = true := by simp; omega
                      have HF : Hid (unquoteL l = none) := HUk.out.hexBad HC.out HD.out HE.out H92.out HQ.out HM.out HN.out (by rw [← HX.out]; omega)
                      clear hx1 hx2
                      go_wp2_with fail
                      go_ret3
                      exact ⟨by rw [HF.out]; rfl, hb5⟩
                    · have x126 : decide ((X : Int) ≤ 126) = false := by simp; omega
                      have HT : Hid (UqAt l (k + 3) (acc ++ [UInt8.ofNat X])) := by
                        have := HUk.out.three HC.out HD.out HE.out H92.out HQ.out HM.out HN.out (by rw [← HX.out]; omega)
                        rw [← HX.out] at this; exact this
                      clear hx1 hx2
                      have hk3 := HT.out.2.2.1
                      go_wp2_with (at_builtin; refine wpList_append_any _ rfl (.tmp 103) (.tmp 106) _ rfl (w.heap.size) 5 i0 _ 1 1 Tryd.underlying23 hi hz0 hz1 hz2 rfl (by omega) (.slice A acc.length cap) (acc.length) (bytesC acc) rfl ((hown5.alloc _)) _ (some ⟨w5.heap.size, 0, none⟩) (1) (1) (bytesC [UInt8.ofNat X]) rfl (reads_new _ _ _ _ (by rw [ofNat_toNat hX6]) _ rfl) (bytesC_one _) ?c1 ?c2 ?c3 ?_)
                      try case c1 => have := hln.out; have := HAL.out; simp only [maxLen]; omega
                      try case c2 => have := hln.out; have := HAL.out; omega
                      try case c3 => have := hb5.size; simp; omega
                      intro v2 w2 ho2 hg2 hat2
                      have hb2 : Below w.heap.size w w2 := (hb5.alloc hb5.size _).grown hg2 (by have := hb5.size; simp; omega) (fun g hg => (own_lt hown5 hg).1)
                      go_wp2_with fail
                      exact ⟨⟨k + 3, acc ++ [UInt8.ofNat X], by omega, by go_num, HT, by rw [List.length_append, bytesC_append]; exact ho2, hb2⟩, by simp [intOf]; omega⟩
                  · have x32 : decide ((32 : Int) ≤ (X : Int)) = false := by simp; omega
                    have HT : Hid (UqAt l (k + 3) (acc ++ [UInt8.ofNat X])) := by
                      have := HUk.out.three HC.out HD.out HE.out H92.out HQ.out HM.out HN.out (by rw [← HX.out]; omega)
                      rw [← HX.out] at this; exact this
                    clear hx1
                    have hk3 := HT.out.2.2.1
                    go_wp2_with (at_builtin; refine wpList_append_any _ rfl (.tmp 103) (.tmp 106) _ rfl (w.heap.size) 5 i0 _ 1 1 Tryd.underlying23 hi hz0 hz1 hz2 rfl (by omega) (.slice A acc.length cap) (acc.length) (bytesC acc) rfl ((hown5.alloc _)) _ (some ⟨w5.heap.size, 0, none⟩) (1) (1) (bytesC [UInt8.ofNat X]) rfl (reads_new _ _ _ _ (by rw [ofNat_toNat hX6]) _ rfl) (bytesC_one _) ?c1 ?c2 ?c3 ?_)
                    try case c1 => have := hln.out; have := HAL.out; simp only [maxLen]; omega
                    try case c2 => have := hln.out; have := HAL.out; omega
                    try case c3 => have := hb5.size; simp; omega
                    intro v2 w2 ho2 hg2 hat2
                    have hb2 : Below w.heap.size w w2 := (hb5.alloc hb5.size _).grown hg2 (by have := hb5.size; simp; omega) (fun g hg => (own_lt hown5 hg).1)
                    go_wp2_with fail
                    exact ⟨⟨k + 3, acc ++ [UInt8.ofNat X], by omega, by go_num, HT, by rw [List.length_append, bytesC_append]; exact ho2, hb2⟩, by simp [intOf]; omega⟩
            · have d92 : ((c.toNat : Int) != 92) = true := by simp; omega
              have HN : Hid (UqAt l (k + 1) (acc ++ [c])) := HUk.out.one HC.out e34 ex e92
              have HAL := Lib.hid HUk.out.1
              clear e34 ex e92
              go_wp2_with (at_builtin; refine wpList_append_any _ rfl (.tmp 47) (.tmp 49) _ rfl (w.heap.size) 5 i0 _ 1 1 Tryd.underlying23 hi hz0 hz1 hz2 rfl (by omega) (.slice A acc.length cap) (acc.length) (bytesC acc) rfl ((hown.alloc _)) _ (some ⟨wr.heap.size, 0, none⟩) (1) (1) (bytesC [c]) rfl (reads_new _ _ _ _ rfl _ rfl) (bytesC_one _) ?c1 ?c2 ?c3 ?_)
              try case c1 => have := hln.out; have := HAL.out; simp only [maxLen]; omega
              try case c2 => have := hln.out; have := HAL.out; omega
              try case c3 => have := hb.size; simp; omega
              intro v2 w2 ho2 hg2 hat2
              have hb2 : Below w.heap.size w w2 := (hb.alloc hb.size _).grown hg2 (by have := hb.size; simp; omega) (fun g hg => (own_lt hown hg).1)
              go_wp2_with fail
              exact ⟨⟨k + 1, acc ++ [c], by omega, by go_num, HN, by rw [List.length_append, bytesC_append]; exact ho2, hb2⟩, by simp [intOf]; omega⟩
      · have HF : Hid (unquoteL l = none) := HUk.out.fall hlt
        go_wp2_with fail
        go_ret3
        exact ⟨by rw [HF.out]; rfl, hb⟩
  · have dq : ((q.toNat : Int) != 34) = true := by simp; omega
    have HF : Hid (unquoteL l = none) := uq_no hq0 hq
    clear hq hq0
    go_wp2_with fail
    go_ret3
    exact ⟨by rw [HF.out]; rfl, Below.refl _ _⟩
end Go.Proofs.YtgkpeeilmknmfaaDoor
