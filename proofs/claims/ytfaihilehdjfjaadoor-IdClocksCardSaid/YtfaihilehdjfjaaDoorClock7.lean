/- Contracts: two clocks joined. -/
import Derived.Test.YtfaihilehdjfjaaDoorClock6
import Derived.Shelf.SlSortCmp.NoneTotal
namespace Go.Proofs.YtfaihilehdjfjaaDoor
open Go.ChangeShapes Go.WideShapes Go.ChangeAt Go.RowKit

theorem sort_none (A : Option Addr) (cap : Nat) (fv : Value) (w : World) : Calls Tryd.prog 48 #[.slice A 0 cap, fv] w fun e w' => e = .returned (.tuple #[]) ∧ w' = w :=
  AnyF.slices_SortFunc_none Tryd.sortRef A cap fv w
theorem compact_none (A : Option Addr) (cap : Nat) (fv : Value) (w : World) : Calls Tryd.prog 51 #[.slice A 0 cap, fv] w fun e w' => e = .returned (.slice A 0 cap) ∧ w' = w := by
  go_enter Tryd.func51, Tryd.ntmps51
  go_wp2_with fail
  go_ret
  exact ⟨rfl, rfl⟩
theorem RefRow.of_own {w : World} {base g n cap : Nat} {l : List Rf} (h : w.ownsRow base 79 2 (.slice (some ⟨g, 0, none⟩) n cap) n (refC l)) (hn : l.length = n) : RefRow w g l := fun j u hu => by
  have hj : j < n * 2 := by rw [← hn, ← refC_length]; exact (List.getElem?_eq_some_iff.1 hu).1
  exact ⟨(h.cellAt j hj).trans hu, h.frozenAt j⟩
/-- what a join hands back -/
def JoinOk (a b : List Rf) (w : World) (v : Value) (w' : World) : Prop :=
  ∃ L A c, L.Perm (a ++ b) ∧ DescR L ∧ v = .slice A (compactF L).reverse.length c ∧ (compactF L).reverse.length ≤ c ∧ c ≤ 9223372036854775807 ∧ Reads (fun k => w.heap.size ≤ k ∧ k < w'.heap.size) w' 2 A (compactF L).reverse.length (refC (compactF L).reverse)
set_option maxHeartbeats 2000000 in
set_option maxRecDepth 20000 in
theorem join_any (a b : List Rf) (D D' : Nat → Prop) (A B : Option Addr) (ca cb : Nat) (w : World) (ha : Reads D w 2 A a.length (refC a)) (hb : Reads D' w 2 B b.length (refC b)) (hD : ∀ k, D k → k < w.heap.size) (hD' : ∀ k, D' k → k < w.heap.size)
    (hla : a.length ≤ 9223372036854775807) (hlb : b.length ≤ 9223372036854775807) :
    Calls Tryd.prog 13 #[.slice A a.length ca, .slice B b.length cb] w fun e w' => Below w.heap.size w w' ∧
      if bothE a b = 0 then ∃ v, e = .returned (.tuple #[v, .nilIface]) ∧ JoinOk a b w v w' else e = .returned (.tuple #[.slice none 0 0, errN (bothE a b)]) := by
  have BO := both_any a b D D' A B ca cb w ha hb hD hD' (by omega) (by omega)
  have hlen : bothE a b = 0 → a.length ≤ 400000 ∧ b.length ≤ 400000 := fun h => by
    have := bothE_len h
    omega
  have HA := Lib.hid ha
  have HB := Lib.hid hb
  have HD := Lib.hid hD
  have HD' := Lib.hid hD'
  obtain ⟨na, hna⟩ : ∃ n, a.length = n := ⟨_, rfl⟩
  obtain ⟨nb, hnb⟩ : ∃ n, b.length = n := ⟨_, rfl⟩
  rw [hna] at hla hlen BO ⊢
  rw [hnb] at hlb hlen BO ⊢
  have HNA := Lib.hid hna
  have HNB := Lib.hid hnb
  clear ha hb hD hD' hna hnb
  generalize hx : bothE a b = x at hlen BO ⊢
  clear hx
  by_cases h0 : x = 0
  · subst h0
    clear hla hlb
    obtain ⟨hla, hlb⟩ := hlen rfl
    clear hlen
    rw [errN_zero] at BO
    simp only [↓reduceIte]
    go_enter Tryd.func13, Tryd.ntmps13
    go_wp2_with fail
    go_at_call 46
    refine BO.mono ?_
    rintro e w1 ⟨rfl, hb1⟩
    have HB1 := Lib.hid hb1
    clear hb1
    have hA1 : Reads D (w1.alloc (.cells #[.slice A na ca, .slice B nb cb] 22)) 2 A a.length (refC a) := HA.out.keep fun k hk => (Below.heap_alloc w1 _ k (Nat.lt_of_lt_of_le (HD.out k hk) HB1.out.size)).trans (HB1.out.block k (HD.out k hk))
    have hB1 : Reads D' (w1.alloc (.cells #[.slice A na ca, .slice B nb cb] 22)) 2 B b.length (refC b) := HB.out.keep fun k hk => (Below.heap_alloc w1 _ k (Nat.lt_of_lt_of_le (HD'.out k hk) HB1.out.size)).trans (HB1.out.block k (HD'.out k hk))
    have CC := concat_any a b D D' A B ca cb w1.heap.size (w1.alloc (.cells #[.slice A na ca, .slice B nb cb] 22)) hA1 hB1 (fun k hk => by have := HD.out k hk; have := HB1.out.size; simp; omega) (fun k hk => by have := HD'.out k hk; have := HB1.out.size; simp; omega)
      (by rw [HNA.out]; exact hla) (by rw [HNB.out]; exact hlb) (by rw [(Blk.new w1 _ _).cell 0, HNA.out]; rfl) (by rw [(Blk.new w1 _ _).cell 1, HNB.out]; rfl)
    rw [HNA.out, HNB.out] at CC
    clear hA1 hB1
    go_wp2_with fail
    go_at_call 47
    refine CC.mono ?_
    rintro e w2 ⟨v, rfl, ho, hb2⟩
    have HB2 : Hid (Below w.heap.size w w2 ∧ w.heap.size < w2.heap.size) := ⟨(HB1.out.alloc HB1.out.size _).trans (hb2.mono (by have := HB1.out.size; simp; omega)), by have := HB1.out.size; have := hb2.size; simp at this; omega⟩
    have HO := Lib.hid ho
    have HBB : Hid (w.heap.size ≤ (w1.alloc (.cells #[.slice A na ca, .slice B nb cb] 22)).heap.size) := by
      show _ ≤ _
      have := HB1.out.size; simp; omega
    generalize (w1.alloc (.cells #[.slice A na ca, .slice B nb cb] 22)).heap.size = base at HO HBB
    clear hb2 CC ho
    by_cases hz : na + nb = 0
    · obtain ⟨A', c', rfl, hc1, hc2, -⟩ := Reads.of_own HO.out
      rw [hz]
      have hab : a ++ b = [] := List.eq_nil_of_length_eq_zero (by rw [List.length_append, HNA.out, HNB.out]; exact hz)
      have HAB := Lib.hid hab
      clear hab
      go_wp2_with fail
      go_at_call 48
      refine (sort_none A' c' _ w2).mono ?_
      rintro e w3 ⟨rfl, e1⟩
      rw [e1]
      clear e1 w3
      go_wp2_with fail
      go_at_call 51
      refine (compact_none A' c' _ w2).mono ?_
      rintro e w3 ⟨rfl, e1⟩
      rw [e1]
      clear e1 w3
      go_wp2_with fail
      go_at_call 53
      refine (reverse_none A' c' w2).mono ?_
      rintro e w3 ⟨rfl, e1⟩
      rw [e1]
      clear e1 w3
      go_wp2_with fail
      go_ret2
      refine ⟨HB2.out.1, _, rfl, [], A', c', by rw [HAB.out], fun i j x y _ h => by simp at h, rfl, Nat.zero_le _, by simpa only [maxLen, Nat.reducePow, Nat.reduceSub] using hc2, Reads.none_⟩
    · obtain ⟨g, cap, rfl, hg1, hg2⟩ := World.ownsRow.form HO.out (by omega)
      have hcap : na + nb ≤ cap ∧ cap ≤ 9223372036854775807 := by
        rcases HO.out.2 with ⟨h', _⟩ | ⟨g', cap', cur, h', _, _, h1, h2, _⟩
        · simp at h'
        · simp only [Value.slice.injEq, Option.some.injEq, Addr.mk.injEq, and_true, true_and] at h'
          obtain ⟨rfl, rfl⟩ := h'
          exact ⟨h1, by simpa only [maxLen, Nat.reducePow, Nat.reduceSub] using h2⟩
      have hlen : (a ++ b).length = na + nb := by rw [List.length_append, HNA.out, HNB.out]
      have hrow := RefRow.of_own HO.out hlen
      have SO := sort_any g cap (a ++ b) w2 hrow hg2 (by rw [hlen]; omega)
      rw [hlen] at SO
      have HLN := Lib.hid hlen
      clear hlen hrow
      go_wp2_with fail
      go_at_call 48
      refine SO.mono ?_
      rintro e w3 ⟨rfl, L, hp, hdesc, hrow3, hc3⟩
      have hL : L.length = na + nb := hp.length_eq.trans HLN.out
      have HP : Hid (L.Perm (a ++ b) ∧ DescR L) := ⟨hp, hdesc⟩
      have hg3 : g < w3.heap.size := Nat.lt_of_lt_of_le hg2 hc3.size
      have CO := compact_any g cap (na + nb) L w3 hL hrow3 hg3 (by omega) hcap.1 hcap.2
      have HC3 := Lib.hid hc3
      clear hp hdesc hrow3 hc3 hL SO
      go_wp2_with fail
      go_at_call 51
      refine CO.mono ?_
      rintro e w4 ⟨rfl, hrow4, hc4⟩
      have hg4 : g < w4.heap.size := Nat.lt_of_lt_of_le hg3 hc4.size
      have hml : (compactF L).length ≤ na + nb := by
        have := compactF_length L
        rw [HP.out.1.length_eq, HLN.out] at this
        exact this
      have RO := reverse_any g cap (compactF L) w4 hrow4 hg4 (by omega)
      have HC4 : Hid (Chg (fun k => k = g) w2 w4) := HC3.out.trans hc4 (fun _ _ e => e)
      obtain ⟨m, hm⟩ : ∃ m, (compactF L).length = m := ⟨_, rfl⟩
      rw [hm] at hml RO ⊢
      have HM := Lib.hid hm
      clear hrow4 hc4 CO hm
      go_wp2_with fail
      go_at_call 53
      refine RO.mono ?_
      rintro e w5 ⟨rfl, hrow5, hc5⟩
      have HR5 : Hid (RefRow w5 g (compactF L).reverse ∧ Chg (fun k => k = g) w2 w5) := ⟨hrow5, HC4.out.trans hc5 (fun _ _ e => e)⟩
      clear hrow5 hc5 RO
      have hgw : w.heap.size ≤ g := by have := HBB.out; omega
      go_wp2_with fail
      go_ret2
      refine ⟨HB2.out.1.trans (HR5.out.2.below HB2.out.1.size (fun k e => e ▸ hgw)), _, rfl, L, some ⟨g, 0, none⟩, cap, HP.out.1, HP.out.2, ?_, ?_, hcap.2, HR5.out.1.reads.more fun k e => ⟨e ▸ hgw, e ▸ Nat.lt_of_lt_of_le hg2 HR5.out.2.size⟩⟩
      · rw [List.length_reverse, HM.out]; rfl
      · rw [List.length_reverse, HM.out]; omega
  · clear hlen
    have he := errN_pos h0
    have HE := Lib.hid he
    rw [he] at BO
    simp only [if_neg h0]
    clear he
    go_enter Tryd.func13, Tryd.ntmps13
    go_wp2_with fail
    go_at_call 46
    refine BO.mono ?_
    rintro e w1 ⟨rfl, hb1⟩
    have HB1 := Lib.hid hb1
    clear hb1
    go_wp2_with fail
    go_ret2
    exact ⟨HB1.out, by rw [HE.out]; rfl⟩
end Go.Proofs.YtfaihilehdjfjaaDoor
