/- Contracts: what is wrong with two clocks; whether two lists are the same. -/
import Derived.Test.YtfaihilehdjfjaaDoorClock1
namespace Go.Proofs.YtfaihilehdjfjaaDoor
open Go.ChangeShapes Go.WideShapes Go.ChangeAt Go.RowKit

theorem errN_zero : errN 0 = .nilIface := rfl
theorem errN_pos {k : Nat} (h : k ≠ 0) : errN k = .iface 80 (.int .i64 k) := if_neg h
/-- what is wrong with two clocks -/
def bothE (a b : List Rf) : Nat := if refsE 0 a = 0 then refsE 0 b else refsE 0 a
theorem refsE_len : ∀ (l : List Rf) (p : Int), p ≤ 99 → refsE p l = 0 → (l.length : Int) + p ≤ 99
  | [], p, hp, _ => by simpa using hp
  | x :: l, p, hp, h => by
    simp only [refsE] at h
    split at h
    · cases h
    · split at h
      · cases h
      · rename_i h1 h2
        have hx : x.1 ≤ 99 := by
          simp only [isRef, Bool.not_eq_false, Bool.and_eq_true, decide_eq_true_eq] at h1
          exact h1.1.2
        have := refsE_len l x.1 hx h
        simp only [List.length_cons]
        omega
theorem bothE_zero {a b : List Rf} (h : bothE a b = 0) : refsE 0 a = 0 ∧ refsE 0 b = 0 := by
  unfold bothE at h
  split at h
  · exact ⟨by assumption, h⟩
  · contradiction
theorem bothE_len {a b : List Rf} (h : bothE a b = 0) : a.length ≤ 99 ∧ b.length ≤ 99 := by
  obtain ⟨h1, h2⟩ := bothE_zero h
  have := refsE_len a 0 (by omega) h1
  have := refsE_len b 0 (by omega) h2
  omega
theorem both_any (a b : List Rf) (D D' : Nat → Prop) (A B : Option Addr) (ca cb : Nat) (w : World) (ha : Reads D w 2 A a.length (refC a)) (hb : Reads D' w 2 B b.length (refC b)) (hD : ∀ k, D k → k < w.heap.size) (hD' : ∀ k, D' k → k < w.heap.size)
    (hla : a.length ≤ 9223372036854775807) (hlb : b.length ≤ 9223372036854775807) :
    Calls Tryd.prog 46 #[.slice A a.length ca, .slice B b.length cb] w fun e w' => e = .returned (errN (bothE a b)) ∧ Below w.heap.size w w' := by
  have RA := refs_any a D A ca w ha hD hla
  have RB : ∀ w', Below w.heap.size w w' → _ := fun w' hw => refs_any b D' B cb w' (hb.keep fun k hk => hw.block k (hD' k hk)) (fun k hk => Nat.lt_of_lt_of_le (hD' k hk) hw.size) hlb
  have HB : Hid (bothE a b = if refsE 0 a = 0 then refsE 0 b else refsE 0 a) := rfl
  generalize bothE a b = x at *
  generalize refsE 0 a = ea at *
  generalize refsE 0 b = eb at *
  generalize a.length = na at *
  generalize b.length = nb at *
  clear ha hb hD hD' hla hlb
  by_cases h : ea = 0
  · subst h
    rw [errN_zero] at RA
    go_enter Tryd.func46, Tryd.ntmps46
    go_wp2_with fail
    go_at_call 9
    refine RA.mono ?_
    rintro e w1 ⟨rfl, hb1⟩
    go_wp2_with fail
    go_at_call 9
    refine (RB w1 hb1).mono ?_
    rintro e w2 ⟨rfl, hb2⟩
    go_wp2_with fail
    go_ret
    exact ⟨by rw [HB.out]; rfl, hb1.trans (hb2.mono hb1.size)⟩
  · have HX := Lib.hid (errN_pos h)
    rw [errN_pos h] at RA
    go_enter Tryd.func46, Tryd.ntmps46
    go_wp2_with fail
    go_at_call 9
    refine RA.mono ?_
    rintro e w1 ⟨rfl, hb1⟩
    go_wp2_with fail
    go_ret
    exact ⟨by rw [HB.out, if_neg h, HX.out]; rfl, hb1⟩
set_option maxHeartbeats 2000000 in
set_option maxRecDepth 20000 in
theorem sameRefs_any (a b : List Rf) (D D' : Nat → Prop) (A B : Option Addr) (ca cb : Nat) (w : World) (ha : Reads D w 2 A a.length (refC a)) (hb : Reads D' w 2 B b.length (refC b)) (hla : a.length ≤ 9223372036854775807) :
    Calls Tryd.prog 12 #[.slice A a.length ca, .slice B b.length cb] w fun e w' => e = .returned (.bool (decide (a = b))) ∧ ∃ n, w' = w.drewN n := by
  by_cases hl : a.length = b.length
  case neg =>
    have hne : decide (a = b) = false := decide_eq_false fun e => hl (by rw [e])
    rw [hne]
    have hl' : (a.length : Int) ≠ b.length := by omega
    clear ha hb hne hla
    generalize a.length = na at *
    generalize b.length = nb at *
    go_enter Tryd.func12, Tryd.ntmps12
    go_wp2_with fail
    go_ret
    exact ⟨rfl, 0, rfl⟩
  case pos =>
    have HA := Lib.hid ha
    have HB := Lib.hid hb
    obtain ⟨n, hn⟩ : ∃ n, a.length = n := ⟨_, rfl⟩
    have HN := Lib.hid hn
    have HN' : Hid (b.length = n) := hl.symm.trans hn
    rw [← hl, hn] 
    rw [hn] at hla
    clear ha hb hl hn
    go_enter Tryd.func12, Tryd.ntmps12
    go_wp2_with fail
    go_loopw [5] (fun s5 wr => ∃ k : Nat, s5 = .int .i64 k ∧ k ≤ n ∧ Hid (a.take k = b.take k ∧ ∃ m, wr = w.drewN m)) (fun s5 _ => n - (intOf s5).toNat)
    case atStart => exact ⟨0, rfl, by omega, ⟨by simp, 0, rfl⟩⟩
    case round =>
      obtain ⟨k, rfl, hk, HI⟩ := hrel
      obtain ⟨m, hm⟩ := HI.out.2
      have HM := Lib.hid hm
      by_cases hlt : k < n
      · obtain ⟨b1, o1, rfl, -, hc1⟩ := HA.out.at_ (by rw [HN.out]; omega) (by omega)
        obtain ⟨b2, o2, rfl, -, hc2⟩ := HB.out.at_ (by rw [HN'.out]; omega) (by omega)
        obtain ⟨r, hr⟩ : ∃ r, a[k]? = some r := ⟨_, List.getElem?_eq_getElem (by rw [HN.out]; exact hlt)⟩
        obtain ⟨q, hq⟩ : ∃ q, b[k]? = some q := ⟨_, List.getElem?_eq_getElem (by rw [HN'.out]; exact hlt)⟩
        have x1 : wr.cell? ⟨b1, o1 + k * 2, none⟩ = some (.int .i64 r.1) := by rw [hm]; exact hc1 _ _ (refC_at hr).1
        have x2 : wr.cell? ⟨b1, o1 + k * 2 + 1, none⟩ = some (.int .i64 r.2) := by rw [hm]; exact hc1 _ _ (refC_at hr).2
        have x3 : wr.cell? ⟨b2, o2 + k * 2, none⟩ = some (.int .i64 q.1) := by rw [hm]; exact hc2 _ _ (refC_at hq).1
        have x4 : wr.cell? ⟨b2, o2 + k * 2 + 1, none⟩ = some (.int .i64 q.2) := by rw [hm]; exact hc2 _ _ (refC_at hq).2
        have HX : Hid (a.take (k + 1) = a.take k ++ [r] ∧ b.take (k + 1) = b.take k ++ [q]) := by
          refine ⟨?_, ?_⟩
          · rw [List.take_add_one, hr]; rfl
          · rw [List.take_add_one, hq]; rfl
        have HRQ := Lib.hid (And.intro hr hq)
        clear hr hq hc1 hc2 hm
        obtain ⟨ra, rs⟩ := r
        obtain ⟨qa, qs⟩ := q
        dsimp only at x1 x2 x3 x4
        by_cases h1 : ra = qa
        · subst h1
          by_cases h2 : rs = qs
          · subst h2
            go_wp2_with fail
            go_quiet (fail)
            change Exit.then _ _ _ _ (wr.drewN nq)
            have HQ : Hid (wr.drewN nq = w.drewN (m + nq)) := by show _ = _; rw [HM.out, World.drewN_drewN]
            generalize wr.drewN nq = w3 at HQ ⊢
            clear x1 x2 x3 x4
            go_wp2_with fail
            go_roundw
            case rel => exact ⟨k + 1, by go_num, by omega, ⟨by rw [HX.out.1, HX.out.2, HI.out.1], _, HQ.out⟩⟩
            case measure => simp [intOf]; omega
          · have HD : Hid (decide (a = b) = false) := decide_eq_false fun e => by
              have := HRQ.out
              rw [e, this.2] at this
              simp only [Option.some.injEq, Prod.mk.injEq] at this
              exact h2 this.1.2.symm
            have d1 : decide (rs = qs) = false := decide_eq_false h2
            go_wp2_with fail
            go_quiet (fail)
            change Exit.then _ _ _ _ (wr.drewN nq)
            have HQ : Hid (wr.drewN nq = w.drewN (m + nq)) := by show _ = _; rw [HM.out, World.drewN_drewN]
            generalize wr.drewN nq = w3 at HQ ⊢
            clear x1 x2 x3 x4
            go_wp2_with fail
            go_ret
            exact ⟨by rw [HD.out]; rfl, _, HQ.out⟩
        · have HD : Hid (decide (a = b) = false) := decide_eq_false fun e => by
            have := HRQ.out
            rw [e, this.2] at this
            simp only [Option.some.injEq, Prod.mk.injEq] at this
            exact h1 this.1.1.symm
          have d1 : decide (ra = qa) = false := decide_eq_false h1
          go_wp2_with fail
          go_quiet (fail)
          change Exit.then _ _ _ _ (wr.drewN nq)
          have HQ : Hid (wr.drewN nq = w.drewN (m + nq)) := by show _ = _; rw [HM.out, World.drewN_drewN]
          generalize wr.drewN nq = w3 at HQ ⊢
          clear x1 x2 x3 x4
          go_wp2_with fail
          go_ret
          exact ⟨by rw [HD.out]; rfl, _, HQ.out⟩
      · have hkn : k = n := by omega
        have hd : decide (a = b) = true := by
          have h1 := HI.out.1
          rw [List.take_of_length_le (by rw [HN.out]; omega), List.take_of_length_le (by rw [HN'.out]; omega)] at h1
          exact decide_eq_true h1
        have HD := Lib.hid hd
        clear hd hm
        go_wp2_with fail
        go_ret
        exact ⟨by rw [HD.out]; rfl, m, HM.out⟩
end Go.Proofs.YtfaihilehdjfjaaDoor
