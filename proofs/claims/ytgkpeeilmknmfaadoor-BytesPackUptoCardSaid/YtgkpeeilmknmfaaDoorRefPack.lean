/- The document's answer: Pack. -/
import Derived.Test.YtgkpeeilmknmfaaDoorRefPut
import Derived.Test.YtgkpeeilmknmfaaDoorBytesQ
namespace Go.Proofs.YtgkpeeilmknmfaaDoor
open Go.ChangeShapes Go.WideShapes Go.ChangeAt Go.RowKit

/-- where the inner loop of the document's Pack stands -/
def InP (l : List Int) (la : Int) (i : Nat) (d : Int) (i' : Nat) (la' : Int) (n : Nat) : Prop :=
  i + n = i' ∧ (n = 0 ∧ la' = la ∨ 1 ≤ n ∧ runsL (deltasF la (l.drop i)) = runsG n d (deltasF la' (l.drop i')))
section
variable {l : List Int} {la la' d y x : Int} {i i' n : Nat}
theorem drop_at (h : l[i]? = some x) : l.drop i = x :: l.drop (i + 1) := by
  obtain ⟨hlt, rfl⟩ := List.getElem?_eq_some_iff.1 h
  exact List.drop_eq_getElem_cons hlt
theorem InP.start (l : List Int) (la : Int) (i : Nat) (d : Int) : InP l la i d i la 0 := ⟨rfl, .inl ⟨rfl, rfl⟩⟩
theorem InP.step (h : InP l la i d i' la' n) (hy : l[i']? = some y) (hd : wrap64 (y - la') = d) : InP l la i d (i' + 1) y (n + 1) := by
  obtain ⟨h1, h2⟩ := h
  refine ⟨by omega, .inr ⟨by omega, ?_⟩⟩
  rcases h2 with ⟨rfl, rfl⟩ | ⟨hn, h2⟩
  · obtain rfl : i = i' := by omega
    rw [drop_at hy, deltasF, hd, runsL]; rfl
  · rw [h2, drop_at hy, deltasF, hd, runsG, if_pos rfl]; rfl
theorem InP.fin (h : InP l la i d i' la' n) (hn : 1 ≤ n) (hy : l[i']? = none ∨ ∃ y, l[i']? = some y ∧ wrap64 (y - la') ≠ d) : runsL (deltasF la (l.drop i)) = ((n : Int), d) :: runsL (deltasF la' (l.drop i')) := by
  obtain ⟨h1, h2⟩ := h
  rcases h2 with ⟨h0, _⟩ | ⟨_, h2⟩
  · omega
  rcases hy with hy | ⟨y, hy, hne⟩
  · rw [h2, List.drop_eq_nil_of_le (by simpa using hy)]; rfl
  · rw [h2, drop_at hy, deltasF, runsG, if_neg hne]; rfl
end

set_option maxRecDepth 20000 in
set_option maxHeartbeats 4000000 in
theorem packR_any (l : List Int) (D : Nat → Prop) (A : Option Addr) (c : Nat) (w : World) (hr : Reads D w 1 A l.length (intsC l)) (hD : ∀ k, D k → k < w.heap.size) (hl : l.length ≤ 400) :
    Calls Tryd.prog 28 #[.slice A l.length c] w fun e w' => ∃ v, e = .returned v ∧ w'.ownsRow w.heap.size 5 1 v (packL l).length (bytesC (packL l)) ∧ Below w.heap.size w w' := by
  obtain ⟨i0, hi, hz0, hz1, hz2⟩ := info_parts infoByte
  have HR := Lib.hid (hr.more (D' := (· < w.heap.size)) hD)
  clear hr hD
  have eL : IntKind.u64.wrap (l.length : Int) = (l.length : Int) := u64_keep (by omega)
  go_enter Tryd.func28, Tryd.ntmps28
  go_wp2_with fail
  refine (putR_any l.length (by show _ < _; omega) w).mono ?_
  rintro e w1 ⟨v1, rfl, ho1, hb1⟩
  go_wp2_with fail
  have hp1 := (putN_length l.length).2
  go_loopw [3, 4, 5, 6, 7] (fun s3 s4 s5 _ _ wr => ∃ (i : Nat) (la : Int) (pre : List UInt8), s4 = .int .i64 i ∧ s5 = .int .i64 la ∧ i ≤ l.length ∧ pre.length ≤ 10 + 20 * i ∧ Hid (packL l = pre ++ piecesB (runsL (deltasF la (l.drop i)))) ∧ wr.ownsRow w.heap.size 5 1 s3 pre.length (bytesC pre) ∧ Hid (Below w.heap.size w wr)) (fun _ s4 _ _ _ _ => l.length - (intOf s4).toNat)
  case atStart => exact ⟨0, 0, putN l.length, rfl, rfl, by omega, by omega, rfl, ho1, hb1⟩
  obtain ⟨i, la, pre, rfl, rfl, hil, hpl, HP, hown, HB⟩ := hrel
  by_cases hlt : i < l.length
  rotate_left
  focus
    have HF : Hid (packL l = pre) := by
      show _ = _
      rw [HP.out, List.drop_eq_nil_of_le (by omega)]
      simp [deltasF, runsL, piecesB]
    go_wp2_with fail
    go_ret
    exact ⟨_, rfl, by rw [HF.out]; exact hown, HB.out⟩
  obtain ⟨x, hx⟩ := get_lt hlt
  obtain ⟨b, off, hA, hDb, hcell⟩ := HR.out.at_ (by omega) (by omega)
  have HC : Hid (∀ w', Below w.heap.size w w' → ∀ (j : Nat) (y : Int), l[j]? = some y → w'.cell? ⟨b, off + j, none⟩ = some (.int .i64 y)) := fun w' hb' j y hy => (hb'.cell (p := ⟨b, off + j, none⟩) hDb).trans (hcell j _ (ints_at hy))
  have hcx := HC.out wr HB.out i x hx
  obtain ⟨d, hd⟩ : ∃ d, wrap64 (x - la) = d := ⟨_, rfl⟩
  have hdb : -9223372036854775808 ≤ d ∧ d ≤ 9223372036854775807 := by rw [← hd]; unfold wrap64; omega
  have HWF : Hid ((Lit.int .i64 d).wf = true) := by
    show _ = _
    simpa [Lit.wf, IntKind.min, IntKind.max, IntKind.signed, IntKind.bits] using hdb
  have HX := Lib.hid hx
  have HD0 := Lib.hid hd
  subst hA
  clear hcell hdb hx
  obtain ⟨wo, rfl⟩ : ∃ wo : World, wo = wr := ⟨_, rfl⟩
  go_wp2_with fail
  rw [hd]
  clear hd hcx
  go_loopw [4, 5, 7] (fun s4 s5 s7 wr => ∃ (i' : Nat) (la' : Int) (n : Nat), s4 = .int .i64 i' ∧ s5 = .int .i64 la' ∧ s7 = .int .i64 n ∧ i' ≤ l.length ∧ n ≤ i' ∧ Hid (InP l la i d i' la' n) ∧ wo = wr) (fun s4 _ _ _ => l.length - (intOf s4).toNat)
  case atStart => exact ⟨i, la, 0, rfl, rfl, rfl, by omega, by omega, InP.start _ _ _ _, rfl⟩
  obtain ⟨i', la', n, rfl, rfl, rfl, hi', hn', HI, rfl⟩ := hrel
  have hrest : (∃ y, l[i']? = some y ∧ wrap64 (y - la') = d) ∨ (l[i']? = none ∨ ∃ y, l[i']? = some y ∧ wrap64 (y - la') ≠ d) := by
    cases hy : l[i']? with
    | none => exact .inr (.inl rfl)
    | some y =>
      by_cases e : wrap64 (y - la') = d
      · exact .inl ⟨y, rfl, e⟩
      · exact .inr (.inr ⟨y, rfl, e⟩)
  rcases hrest with ⟨y, hy, hyd⟩ | hstop
  focus
    have hlt' := (List.getElem?_eq_some_iff.1 hy).1
    have hcy := HC.out wo HB.out i' y hy
    have HS := Lib.hid (HI.out.step hy hyd)
    have hyw : IntKind.i64.wrap (y - la') = d := by rw [← hyd, IntKind.wrap_i64, wrap_i64]
    have hyb : (wrap64 (y - la') == d) = true := by rw [hyd]; simp
    have hyc : (IntKind.i64.wrap (y - la') == d) = true := by rw [hyw]; simp
    clear hy
    go_wp2_with fail
    exact ⟨⟨i' + 1, y, n + 1, by go_num, rfl, by go_num, by omega, by omega, HS, by trivial⟩, by simp [intOf]; omega⟩
  have hn1 : 1 ≤ n := by
    rcases Nat.eq_zero_or_pos n with h0 | h0
    · exfalso
      subst h0
      obtain ⟨h1, h2⟩ := HI.out
      rcases h2 with ⟨_, rfl⟩ | ⟨h2, _⟩
      · obtain rfl : i = i' := by omega
        rcases hstop with hs | ⟨y, hy, hne⟩
        · rw [HX.out] at hs; cases hs
        · rw [HX.out] at hy; injection hy with e; subst e; exact hne HD0.out
      · omega
    · exact h0
  have hin := HI.out.1
  have HF := Lib.hid (HI.out.fin hn1 hstop)
  have hn4 : n ≤ 400 := by omega
  have eN : IntKind.u64.wrap (n : Int) = (n : Int) := u64_keep (by omega)
  have HPN : Hid (packL l = (pre ++ putN n ++ putS d) ++ piecesB (runsL (deltasF la' (l.drop i')))) := by
    show _ = _
    rw [HP.out, HF.out]
    simp [piecesB, pieceB]
  rcases hstop with hs | ⟨y, hy, hne⟩
  · have hge : ¬ i' < l.length := by simpa using hs
    clear hs
    go_wp2_with fail
    refine (putR_any n (by show _ < _; omega) wo).mono ?_
    rintro e w3 ⟨v3, rfl, ho3, hb3⟩
    obtain ⟨A3, c3, hv3, _, _, hr3⟩ := Reads.of_own ho3
    subst hv3
    have HB3 : Hid (Below w.heap.size w w3) := HB.out.trans (hb3.mono HB.out.size)
    have hown3 := own_keep hown fun g hg => hb3.block g (own_lt hown hg).2
    have hpn := (putN_length n).2
    have HR3 := Lib.hid hr3
    have hs3 := HB3.out.size
    clear ho3 hb3 hr3
    go_wp2_with (at_builtin; refine wpList_append_any _ rfl (.tmp 44) (.tmp 47) _ rfl (w.heap.size) 5 i0 _ 1 1 Tryd.underlying23 hi hz0 hz1 hz2 rfl (by omega) (u3) (pre.length) (bytesC pre) rfl (hown3) _ (A3) ((putN n).length) (c3) (bytesC (putN n)) rfl (HR3.out) (bytesC_one _) ?c1 ?c2 ?c3 ?_)
    try case c1 => simp only [maxLen]; omega
    try case c2 => omega
    try case c3 => exact hs3
    intro v4 w4 ho4 hg4 hat4
    have HB4 : Hid (Below w.heap.size w w4) := HB3.out.grown hg4 HB3.out.size (fun g hg => (own_lt hown3 hg).1)
    rw [← bytesC_append] at ho4
    clear hown3 hg4 hat4 HR3 hs3
    go_wp2_with fail
    refine (putSR_any d HWF.out w4).mono ?_
    rintro e w5 ⟨v5, rfl, ho5, hb5⟩
    obtain ⟨A5, c5, hv5, _, _, hr5⟩ := Reads.of_own ho5
    subst hv5
    have HB5 : Hid (Below w.heap.size w w5) := HB4.out.trans (hb5.mono HB4.out.size)
    have hown5 := own_keep ho4 fun g hg => hb5.block g (own_lt ho4 hg).2
    have hps : (putS d).length ≤ 10 := (putN_length (zz d)).2
    have HR5 := Lib.hid hr5
    have hs5 := HB5.out.size
    clear ho5 hb5 hr5 ho4
    go_wp2_with (at_builtin; refine wpList_append_any _ rfl (.tmp 49) (.tmp 51) _ rfl (w.heap.size) 5 i0 _ 1 1 Tryd.underlying23 hi hz0 hz1 hz2 rfl (by omega) (v4) (pre.length + (putN n).length) (bytesC (pre ++ putN n)) rfl (hown5) _ (A5) ((putS d).length) (c5) (bytesC (putS d)) rfl (HR5.out) (bytesC_one _) ?c1 ?c2 ?c3 ?_)
    try case c1 => simp only [maxLen]; omega
    try case c2 => omega
    try case c3 => exact hs5
    intro v6 w6 ho6 hg6 hat6
    have HB6 : Hid (Below w.heap.size w w6) := HB5.out.grown hg6 HB5.out.size (fun g hg => (own_lt hown5 hg).1)
    rw [← bytesC_append] at ho6
    clear hown5 hg6 hat6 HR5 hs5
    go_wp2_with fail
    exact ⟨⟨i', la', pre ++ putN n ++ putS d, rfl, rfl, hi', by simp only [List.length_append]; omega, HPN, by simp only [List.length_append]; exact ho6, HB6⟩, by simp [intOf]; omega⟩
  · have hlt' := (List.getElem?_eq_some_iff.1 hy).1
    have hcy := HC.out wo HB.out i' y hy
    obtain ⟨e_, he⟩ : ∃ e_, wrap64 (y - la') = e_ := ⟨_, rfl⟩
    rw [he] at hne
    have hned : (e_ == d) = false := by simpa using hne
    have hyw : IntKind.i64.wrap (y - la') = e_ := by rw [← he, IntKind.wrap_i64, wrap_i64]
    have hyb : (wrap64 (y - la') == d) = false := by rw [he]; exact hned
    have hyc : (IntKind.i64.wrap (y - la') == d) = false := by rw [hyw]; exact hned
    clear hy hne
    go_wp2_with fail
    refine (putR_any n (by show _ < _; omega) wo).mono ?_
    rintro e w3 ⟨v3, rfl, ho3, hb3⟩
    obtain ⟨A3, c3, hv3, _, _, hr3⟩ := Reads.of_own ho3
    subst hv3
    have HB3 : Hid (Below w.heap.size w w3) := HB.out.trans (hb3.mono HB.out.size)
    have hown3 := own_keep hown fun g hg => hb3.block g (own_lt hown hg).2
    have hpn := (putN_length n).2
    have HR3 := Lib.hid hr3
    have hs3 := HB3.out.size
    clear ho3 hb3 hr3
    go_wp2_with (at_builtin; refine wpList_append_any _ rfl (.tmp 44) (.tmp 47) _ rfl (w.heap.size) 5 i0 _ 1 1 Tryd.underlying23 hi hz0 hz1 hz2 rfl (by omega) (u3) (pre.length) (bytesC pre) rfl (hown3) _ (A3) ((putN n).length) (c3) (bytesC (putN n)) rfl (HR3.out) (bytesC_one _) ?c1 ?c2 ?c3 ?_)
    try case c1 => simp only [maxLen]; omega
    try case c2 => omega
    try case c3 => exact hs3
    intro v4 w4 ho4 hg4 hat4
    have HB4 : Hid (Below w.heap.size w w4) := HB3.out.grown hg4 HB3.out.size (fun g hg => (own_lt hown3 hg).1)
    rw [← bytesC_append] at ho4
    clear hown3 hg4 hat4 HR3 hs3
    go_wp2_with fail
    refine (putSR_any d HWF.out w4).mono ?_
    rintro e w5 ⟨v5, rfl, ho5, hb5⟩
    obtain ⟨A5, c5, hv5, _, _, hr5⟩ := Reads.of_own ho5
    subst hv5
    have HB5 : Hid (Below w.heap.size w w5) := HB4.out.trans (hb5.mono HB4.out.size)
    have hown5 := own_keep ho4 fun g hg => hb5.block g (own_lt ho4 hg).2
    have hps : (putS d).length ≤ 10 := (putN_length (zz d)).2
    have HR5 := Lib.hid hr5
    have hs5 := HB5.out.size
    clear ho5 hb5 hr5 ho4
    go_wp2_with (at_builtin; refine wpList_append_any _ rfl (.tmp 49) (.tmp 51) _ rfl (w.heap.size) 5 i0 _ 1 1 Tryd.underlying23 hi hz0 hz1 hz2 rfl (by omega) (v4) (pre.length + (putN n).length) (bytesC (pre ++ putN n)) rfl (hown5) _ (A5) ((putS d).length) (c5) (bytesC (putS d)) rfl (HR5.out) (bytesC_one _) ?c1 ?c2 ?c3 ?_)
    try case c1 => simp only [maxLen]; omega
    try case c2 => omega
    try case c3 => exact hs5
    intro v6 w6 ho6 hg6 hat6
    have HB6 : Hid (Below w.heap.size w w6) := HB5.out.grown hg6 HB5.out.size (fun g hg => (own_lt hown5 hg).1)
    rw [← bytesC_append] at ho6
    clear hown5 hg6 hat6 HR5 hs5
    go_wp2_with fail
    exact ⟨⟨i', la', pre ++ putN n ++ putS d, rfl, rfl, hi', by simp only [List.length_append]; omega, HPN, by simp only [List.length_append]; exact ho6, HB6⟩, by simp [intOf]; omega⟩
end Go.Proofs.YtgkpeeilmknmfaaDoor
