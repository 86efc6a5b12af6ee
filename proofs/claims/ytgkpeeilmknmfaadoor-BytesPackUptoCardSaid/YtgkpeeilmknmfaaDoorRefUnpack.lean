/- The document's answer: Unpack. -/
import Derived.Test.YtgkpeeilmknmfaaDoorRefGetS
import Derived.Test.YtgkpeeilmknmfaaDoorBytesQ
namespace Go.Proofs.YtgkpeeilmknmfaaDoor
open Go.ChangeShapes Go.WideShapes Go.ChangeAt Go.RowKit

def endS : Int → List Int → Int
  | s, [] => s
  | s, x :: l => endS (wrap64 (s + x)) l
theorem endS_append : ∀ (l r : List Int) (s : Int), endS s (l ++ r) = endS (endS s l) r
  | [], _, _ => rfl
  | x :: l, r, s => by rw [List.cons_append, endS, endS, endS_append l r]
theorem sumsF_append : ∀ (l r : List Int) (s : Int), sumsF s (l ++ r) = sumsF s l ++ sumsF (endS s l) r
  | [], _, _ => rfl
  | x :: l, r, s => by rw [List.cons_append, sumsF, sumsF, endS, sumsF_append l r]; rfl
theorem sumsF_one (l : List Int) (s d : Int) : sumsF s (l ++ [d]) = sumsF s l ++ [wrap64 (endS s l + d)] := by rw [sumsF_append]; rfl
theorem endS_one (l : List Int) (s d : Int) : endS s (l ++ [d]) = wrap64 (endS s l + d) := by rw [endS_append]; rfl
theorem expandL_one (p : List (Int × Int)) (m : Nat) (d : Int) : expandL (p ++ [((m : Int), d)]) = expandL p ++ List.replicate m d := by rw [expandL_append]; simp [expandL]
/-- is a piece like the last one? -/
def FstOk (p : List (Int × Int)) (fst : Bool) (bf : Int) : Prop := fst = true ∧ p = [] ∨ fst = false ∧ p.getLast?.map (·.2) = some bf
theorem FstOk.like {p : List (Int × Int)} {fst : Bool} {bf d : Int} (h : FstOk p fst bf) : (p.getLast?.map (·.2) = some d) ↔ (fst = false ∧ d = bf) := by
  rcases h with ⟨rfl, rfl⟩ | ⟨rfl, h⟩
  · simp
  · rw [h]; simp [eq_comm]
theorem FstOk.next (p : List (Int × Int)) (m d : Int) : FstOk (p ++ [(m, d)]) false d := .inr ⟨rfl, by simp⟩

theorem rdNum_none {l : List UInt8} {most at_ : Nat} (h : getN (l.drop at_) = none) : rdNum l most at_ false = (0, at_, true) := by simp [rdNum, h]
theorem rdNum_big {l : List UInt8} {most at_ n k : Nat} (h : getN (l.drop at_) = some (n, k)) (hn : ¬ n ≤ most) : rdNum l most at_ false = (0, at_, true) := by simp [rdNum, h, hn]
theorem rdNum_some {l : List UInt8} {most at_ n k : Nat} (h : getN (l.drop at_) = some (n, k)) (hn : n ≤ most) : rdNum l most at_ false = (n, at_ + k, false) := by simp [rdNum, h, hn]
theorem rdInt_none {l : List UInt8} {at_ : Nat} (h : getS (l.drop at_) = none) : rdInt l at_ false = (0, at_, true) := by simp [rdInt, h]
theorem rdInt_some {l : List UInt8} {at_ k : Nat} {s : Int} (h : getS (l.drop at_) = some (s, k)) : rdInt l at_ false = (s, at_ + k, false) := by simp [rdInt, h]
theorem getS_at_ {l : List UInt8} {s : Int} {k : Nat} (h : getS l = some (s, k)) : 1 ≤ k ∧ k ≤ l.length := by
  unfold getS at h
  cases hg : getN l with
  | none => rw [hg] at h; cases h
  | some x => rw [hg] at h; simp at h; obtain ⟨_, rfl⟩ := h; exact getN_at hg

theorem kwrapU {m : Nat} (h : m < 9223372036854775808) : IntKind.i64.wrap (m : Int) = (m : Int) := by
  simp [IntKind.wrap, IntKind.bits, IntKind.signed]; omega
def unRV (r : Option (List Int × Nat)) (B : Nat) (en : Ending) (w' : World) : Prop :=
  match r with
  | some x => ∃ v, en = .returned (.tuple #[v, .int .i64 x.2, .bool true]) ∧ w'.ownsRow B 3 1 v x.1.length (intsC x.1)
  | none => en = .returned (.tuple #[.slice none 0 0, .int .i64 0, .bool false])

set_option maxRecDepth 20000 in
set_option maxHeartbeats 4000000 in
theorem unpackR_any (b : List UInt8) (D : Nat → Prop) (A : Option Addr) (c : Nat) (w : World) (hr : Reads D w 1 A b.length (bytesC b)) (hD : ∀ k, D k → k < w.heap.size) (hl : b.length ≤ 4000000) (hc : b.length ≤ c) :
    Calls Tryd.prog 30 #[.slice A b.length c] w fun e w' => unRV (unpackL b) w.heap.size e w' ∧ Below w.heap.size w w' := by
  have HR := Lib.hid (hr.more (D' := (· < w.heap.size)) hD)
  clear hr hD
  go_enter Tryd.func30, Tryd.ntmps30
  go_wp2_with fail
  refine (getR_any b (· < w.heap.size) A b.length c rfl (by omega) w HR.out (fun k hk => hk)).mono ?_
  rintro e w1 ⟨rfl, hb1⟩
  have HB1 := Lib.hid hb1
  clear hb1
  cases hg : getN b with
  | none =>
    have HF : Hid (unpackL b = none) := by
      show _ = _
      rw [unpackL, if_pos]
      rw [rdNum_none (by simpa using hg)]
    clear hg
    simp only [getRV]
    go_wp2_with fail
    go_ret3
    exact ⟨by rw [HF.out]; exact rfl, HB1.out⟩
  | some x =>
    obtain ⟨N, k0⟩ := x
    have hk0 := getN_at hg
    have hN64 := getN_lt hg
    have hkz : ((k0 : Int) == 0) = false := by rw [beq_eq_false_iff_ne]; omega
    have hg0 : getN (b.drop 0) = some (N, k0) := by simpa using hg
    clear hg
    simp only [getRV]
    by_cases hN : 400 < N
    · have HF : Hid (unpackL b = none) := by
        show _ = _
        rw [unpackL, if_pos]
        rw [rdNum_big hg0 (by omega)]
      have dN : decide ((400 : Int) < (N : Int)) = true := by simp; omega
      clear hg0 hN64 hN
      go_wp2_with fail
      go_ret3
      exact ⟨by rw [HF.out]; exact rfl, HB1.out⟩
    have dN : decide ((400 : Int) < (N : Int)) = false := by simp; omega
    have HU0 : Hid (UpAt b N k0 false []) := by
      have e := rdNum_some (most := 400) hg0 (by omega)
      rw [Nat.zero_add] at e
      show UpAt _ _ _ _ _
      simp only [UpAt, Bool.false_eq_true, if_false]
      refine ⟨⟨401, by omega, ?_⟩, by simp, by simp [manys]; omega, by simp [manys]⟩
      rw [unpackL, e]
      rfl
    have eN : IntKind.u64.wrap (N : Int) = (N : Int) := u64_keep (by omega)
    have hN4 : N ≤ 400 := by omega
    clear hg0 hN64 hN
    go_wp2_with fail
    go_loopw [6, 7, 8, 9, 10] (fun s6 s7 s8 s9 s10 wr => ∃ (at_ left : Nat) (p : List (Int × Int)) (ls : List Int) (la bf : Int) (fst : Bool), s6 = .int .i64 at_ ∧ s8 = .int .i64 la ∧ s9 = .int .i64 bf ∧ s10 = .bool fst ∧ at_ ≤ b.length ∧ ls.length + left = N ∧ Hid (UpAt b left at_ false p) ∧ Hid (ls = sumsF 0 (expandL p)) ∧ Hid (la = endS 0 (expandL p)) ∧ Hid (FstOk p fst bf) ∧ wr.ownsRow w.heap.size 3 1 s7 ls.length (intsC ls) ∧ Hid (Below w.heap.size w wr)) (fun s6 _ _ _ _ _ => b.length - (intOf s6).toNat)
    case atStart => exact ⟨k0, N, [], [], 0, 0, true, rfl, rfl, rfl, rfl, hk0.2, by simp, HU0, rfl, rfl, .inl ⟨rfl, rfl⟩, own_nil _ _ _ _, HB1⟩
    obtain ⟨at_, left, p, ls, la, bf, fst, rfl, rfl, rfl, rfl, hat, hleft, HU, HLS, HLA, HFS, hown, HB⟩ := hrel
    obtain ⟨ao, cap, hv, hnc, hcm, hro⟩ := Reads.of_own hown
    clear hro
    rcases Nat.eq_zero_or_pos left with hl0 | hl0
    · have hlN : ls.length = N := by omega
      subst hl0
      have HF : Hid (unpackL b = some (ls, at_)) := by
        have := HU.out.fin.1
        rw [← HLS.out] at this; exact this
      have dl : decide ((ls.length : Int) < (N : Int)) = false := by simp; omega
      have dlN : decide (ls.length < N) = false := by simp; omega
      subst hv
      clear hleft
      go_wp2_with fail
      go_ret3
      exact ⟨by rw [HF.out]; exact ⟨_, rfl, hown⟩, HB.out⟩
    have dl : decide ((ls.length : Int) < (N : Int)) = true := by simp; omega
    have hlN : ls.length < N := by omega
    have dlN : decide (ls.length < N) = true := by simp; omega
    subst hv
    have hcn : ¬ c = at_ ∨ c = at_ := by omega
    have HFN : Hid (∀ (m : Nat) at1 bad1 s at2 bad2, rdNum b left at_ false = (m, at1, bad1) → rdInt b at1 bad1 = (s, at2, bad2) → (bad2 = true ∨ m < 1 ∨ p.getLast?.map (·.2) = some s) → unpackL b = none) := fun m at1 bad1 s at2 bad2 e1 e2 hc => (HU.out.fall hl0 e1 e2 hc (0, 0) 0 0).bad_none
    have HFN1 : Hid (getN (b.drop at_) = none → unpackL b = none) := fun h => HFN.out _ _ _ _ _ _ (rdNum_none h) rdInt_bad (.inl rfl)
    rcases hcn with hcn | hcn
    rotate_left
    focus
      have hdr : b.drop at_ = [] := List.drop_eq_nil_of_le (by omega)
      have HF : Hid (unpackL b = none) := HFN1.out (by rw [hdr]; rfl)
      have hbl : b.length = at_ := by omega
      have HG := Lib.hid (getR_any [] (fun _ => False) A 0 0 rfl (by omega) wr (by exact Reads.none_) (fun _ h => h.elim))
      have hbz : b.length - at_ = 0 := by omega
      have hcz : c - at_ = 0 := by omega
      go_wp2_with fail
      refine HG.out.mono ?_
      rintro e w3 ⟨rfl, hb3⟩
      have HB3 : Hid (Below w.heap.size w w3) := HB.out.trans (hb3.mono HB.out.size)
      clear hb3
      have hgn : getN [] = none := rfl
      rw [hgn]
      simp only [getRV]
      go_wp2_with fail
      go_ret3
      exact ⟨by rw [HF.out]; exact rfl, HB3.out⟩
    have HG : Hid (∀ w', Below w.heap.size w w' → Calls Tryd.prog 12 #[.slice (A.map (fun x => x.add at_)) (b.length - at_) (c - at_)] w' fun e w'' => e = .returned (getRV (getN (b.drop at_))) ∧ Below w'.heap.size w' w'') := fun w' hb' => by
      have hcut := (HR.out.keep (Below.keeps hb')).cut hat hc
      simp only [Nat.mul_one] at hcut
      rw [← bytesC_drop, if_neg hcn] at hcut
      exact getR_any (b.drop at_) (· < w.heap.size) _ (b.length - at_) (c - at_) (by simp) (by omega) w' hcut (fun k hk => Nat.lt_of_lt_of_le hk hb'.size)
    go_wp2_with fail
    refine (HG.out wr HB.out).mono ?_
    rintro e w3 ⟨rfl, hb3⟩
    have HB3 : Hid (Below w.heap.size w w3) := HB.out.trans (hb3.mono HB.out.size)
    have hown3 := own_keep hown fun g hg => hb3.block g (own_lt hown hg).2
    have HO3 := Lib.hid hown3
    clear hb3 hown hown3 HG HB
    cases hg : getN (b.drop at_) with
    | none =>
      have HF : Hid (unpackL b = none) := HFN1.out hg
      clear hg
      simp only [getRV]
      go_wp2_with fail
      go_ret3
      exact ⟨by rw [HF.out]; exact rfl, HB3.out⟩
    | some x =>
      obtain ⟨m, k⟩ := x
      have hgk := getN_at hg
      have hm64 : m < 18446744073709551616 := getN_lt hg
      have hkz : ((k : Int) == 0) = false := by rw [beq_eq_false_iff_ne]; omega
      simp only [getRV]
      have hsub : IntKind.u64.wrap ((N : Int) - (ls.length : Int)) = (left : Int) := by
        have e : (N : Int) - (ls.length : Int) = (left : Int) := by omega
        rw [e]; exact u64_keep (by omega)
      have hlw : IntKind.u64.wrap (ls.length : Int) = (ls.length : Int) := u64_keep (by omega)
      have hsub2 : (N : Int) - (ls.length : Int) = (left : Int) := by omega
      by_cases hm0 : m < 1
      · have HF : Hid (unpackL b = none) := by
          cases hi : rdInt b (at_ + k) false with
          | mk s r =>
            obtain ⟨at2, bad2⟩ := r
            exact HFN.out _ _ _ _ _ _ (rdNum_some hg (by omega)) hi (.inr (.inl hm0))
        obtain rfl : m = 0 := by omega
        clear hg hm0 hm64 hsub2
        go_wp2_with fail
        go_ret3
        exact ⟨by rw [HF.out]; exact rfl, HB3.out⟩
      have dm : decide ((m : Int) < 1) = false := by simp; omega
      have dm2 : decide (m = 0) = false := by simp; omega
      have dm3 : ¬ m = 0 := by omega
      by_cases hml : left < m
      · have HF : Hid (unpackL b = none) := HFN.out _ _ _ _ _ _ (rdNum_big hg (by omega)) rdInt_bad (.inl rfl)
        have dl2 : decide ((left : Int) < (m : Int)) = true := by simp; omega
        have dl3 : decide (left < m) = true := by simp; omega
        clear hg hm0 hm64 hsub2 hml
        go_wp2_with fail
        go_ret3
        exact ⟨by rw [HF.out]; exact rfl, HB3.out⟩
      have dl2 : decide ((left : Int) < (m : Int)) = false := by simp; omega
      have dl3 : decide (left < m) = false := by simp; omega
      have HRN := Lib.hid (rdNum_some (most := left) hg (by omega))
      have hat1 : at_ + k ≤ b.length := by have := hgk.2; rw [List.length_drop] at this; omega
      have hm4 : m ≤ 400 := by omega
      have hmle : m ≤ left := by omega
      have hm1 : 1 ≤ m := by omega
      have hkk := hgk.1
      clear hg hm0 hm64 hsub2 hgk hml
      obtain ⟨a1, ha1⟩ : ∃ a1, a1 = at_ + k := ⟨_, rfl⟩
      have hai : (at_ : Int) + (k : Int) = (a1 : Int) := by omega
      have ha4 : a1 ≤ b.length := by omega
      have halt : at_ < a1 := by omega
      rw [← ha1] at HRN
      clear ha1 hat1 hkk
      have HFS1 : Hid (getS (b.drop a1) = none → unpackL b = none) := fun h => HFN.out _ _ _ _ _ _ HRN.out (rdInt_none h) (.inl rfl)
      have hcn2 : ¬ c = a1 ∨ c = a1 := by omega
      rcases hcn2 with hcn2 | hcn2
      rotate_left
      focus
        have hdr : b.drop a1 = [] := List.drop_eq_nil_of_le (by omega)
        have HF : Hid (unpackL b = none) := HFS1.out (by rw [hdr]; rfl)
        have hbl : b.length = a1 := by omega
        have HG := Lib.hid (getSR_any [] (fun _ => False) A 0 0 rfl (by omega) w3 (by exact Reads.none_) (fun _ h => h.elim))
        have hbz : b.length - a1 = 0 := by omega
        have hcz : c - a1 = 0 := by omega
        go_wp2_with fail
        refine HG.out.mono ?_
        rintro e w4 ⟨rfl, hb4⟩
        have HB4 : Hid (Below w.heap.size w w4) := HB3.out.trans (hb4.mono HB3.out.size)
        clear hb4
        have hgn : getS [] = none := rfl
        rw [hgn]
        simp only [getSRV]
        go_wp2_with fail
        go_ret3
        exact ⟨by rw [HF.out]; exact rfl, HB4.out⟩
      have HG : Hid (∀ w', Below w.heap.size w w' → Calls Tryd.prog 15 #[.slice (A.map (fun x => x.add a1)) (b.length - a1) (c - a1)] w' fun e w'' => e = .returned (getSRV (getS (b.drop a1))) ∧ Below w'.heap.size w' w'') := fun w' hb' => by
        have hcut := (HR.out.keep (Below.keeps hb')).cut ha4 hc
        simp only [Nat.mul_one] at hcut
        rw [← bytesC_drop, if_neg hcn2] at hcut
        exact getSR_any (b.drop a1) (· < w.heap.size) _ (b.length - a1) (c - a1) (by simp) (by omega) w' hcut (fun k hk => Nat.lt_of_lt_of_le hk hb'.size)
      go_wp2_with fail
      refine (HG.out w3 HB3.out).mono ?_
      rintro e w4 ⟨rfl, hb4⟩
      have HB4 : Hid (Below w.heap.size w w4) := HB3.out.trans (hb4.mono HB3.out.size)
      have hown4 := own_keep HO3.out fun g hg => hb4.block g (own_lt HO3.out hg).2
      have HO4 := Lib.hid hown4
      clear hb4 hown4 HG HB3 HO3
      cases hs : getS (b.drop a1) with
      | none =>
        have HF : Hid (unpackL b = none) := HFS1.out hs
        clear hs
        simp only [getSRV]
        go_wp2_with fail
        go_ret3
        exact ⟨by rw [HF.out]; exact rfl, HB4.out⟩
      | some x =>
        obtain ⟨s, k2⟩ := x
        have hgk2 := getS_at_ hs
        have hkz2 : ((k2 : Int) == 0) = false := by rw [beq_eq_false_iff_ne]; omega
        have HRI := Lib.hid (rdInt_some hs)
        have hat2 : a1 + k2 ≤ b.length := by have := hgk2.2; rw [List.length_drop] at this; omega
        clear hs
        simp only [getSRV]
        by_cases hlike : fst = false ∧ s = bf
        · have HF : Hid (unpackL b = none) := HFN.out _ _ _ _ _ _ HRN.out HRI.out (.inr (.inr (HFS.out.like.2 hlike)))
          obtain ⟨rfl, rfl⟩ := hlike
          go_wp2_with fail
          go_ret3
          exact ⟨by rw [HF.out]; exact rfl, HB4.out⟩
        have HNL : Hid (p.getLast?.map (·.2) ≠ some s) := fun h => hlike (HFS.out.like.1 h)
        obtain ⟨a2, ha2⟩ : ∃ a2, a2 = a1 + k2 := ⟨_, rfl⟩
        have ha2i : (a1 : Int) + (k2 : Int) = (a2 : Int) := by omega
        have ha24 : a2 ≤ b.length := by omega
        have ha2lt : at_ < a2 := by omega
        rw [← ha2] at HRI
        have HU2 := Lib.hid (HU.out.step hl0 HRN.out HRI.out hm1 HNL.out)
        have HFS2 := Lib.hid (FstOk.next p m s)
        have hmi : IntKind.i64.wrap (m : Int) = (m : Int) := kwrapU (by omega)
        clear ha2 hat2 hgk2
        have hfst : fst = true ∨ fst = false ∧ (s == bf) = false := by
          cases fst
          · exact .inr ⟨rfl, by simpa using fun e => hlike ⟨rfl, e⟩⟩
          · exact .inl rfl
        clear hlike
        rcases hfst with rfl | ⟨rfl, hsb⟩
        all_goals
          go_wp2_with fail
          go_loopw [7, 8, 14] (fun s7 s8 s14 wr => ∃ (j : Nat) (cur : List Int) (la' : Int), s8 = .int .i64 la' ∧ s14 = .int .i64 j ∧ j ≤ m ∧ cur.length = ls.length + j ∧ Hid (cur = sumsF 0 (expandL p ++ List.replicate j s)) ∧ Hid (la' = endS 0 (expandL p ++ List.replicate j s)) ∧ wr.ownsRow w.heap.size 3 1 s7 cur.length (intsC cur) ∧ Hid (Below w.heap.size w wr)) (fun _ _ s14 _ => m - (intOf s14).toNat)
          case atStart => exact ⟨0, ls, la, rfl, rfl, by omega, by omega, by show _ = _; simp only [List.replicate_zero, List.append_nil]; exact HLS.out, by show _ = _; simp only [List.replicate_zero, List.append_nil]; exact HLA.out, HO4.out, HB4⟩
          obtain ⟨j, cur, la', rfl, rfl, hj, hcl, HCU, HLA', hown', HB'⟩ := hrel
          have hb' := HB'.out
          by_cases hjm : j < m
          focus
            go_wp2_with (at_builtin; refine wpList_append_one 39 3 (.int .i64 0) 1 8 Tryd.underlying39 infoInt rfl (by omega) rfl (.tmp 87) (.tmp 89) rfl (w.heap.size) (u7) (cur.length) (intsC cur) rfl (hown'.alloc _) (wr.heap.size) 1 ([.int .i64 (wrap64 (la' + s))]) rfl ?c1 ?c2 ?c3 ?c4 ?c5 ?c6 ?_)
            try case c1 => rfl
            try case c2 => intro j u hj; exact new_cells _ _ _ hj
            try case c3 => first | exact intsC_one [wrap64 (la' + s)] | exact ⟨rfl, rfl⟩ | rfl
            try case c4 => omega
            try case c5 => omega
            try case c6 => have := hb'.size; simp; omega
            intro v1 w1 hown1 hg1 hat1
            have hb1 : Below (w.heap.size) w w1 := (hb'.alloc hb'.size _).grown hg1 (by have := hb'.size; simp; omega) (fun g hg => (own_lt (hown') hg).1)
            clear hat1 hg1
            have HB5 := Lib.hid hb1
            have HCU2 : Hid (cur ++ [wrap64 (la' + s)] = sumsF 0 (expandL p ++ List.replicate (j + 1) s)) := by
              show _ = _
              rw [List.replicate_succ', ← List.append_assoc, sumsF_one, ← HCU.out, ← HLA'.out]
            have HLA2 : Hid (wrap64 (la' + s) = endS 0 (expandL p ++ List.replicate (j + 1) s)) := by
              show _ = _
              rw [List.replicate_succ', ← List.append_assoc, endS_one, ← HLA'.out]
            clear hb1 hb'
            go_wp2_with fail
            exact ⟨⟨j + 1, cur ++ [wrap64 (la' + s)], wrap64 (la' + s), rfl, by go_num, by omega, by simp only [List.length_append, List.length_cons, List.length_nil]; omega, HCU2, HLA2, by rw [List.length_append, intsC_append, hcl]; exact hown1, HB5⟩, by simp [intOf]; omega⟩
          obtain rfl : j = m := by omega
          clear hb'
          go_wp2_with fail
          exact ⟨⟨a2, left - j, p ++ [((j : Int), s)], cur, la', s, false, by go_num, rfl, rfl, rfl, ha24, by omega, HU2, by show _ = _; rw [expandL_one]; exact HCU.out, by show _ = _; rw [expandL_one]; exact HLA'.out, HFS2, hown', HB'⟩, by simp [intOf]; omega⟩
end Go.Proofs.YtgkpeeilmknmfaaDoor
