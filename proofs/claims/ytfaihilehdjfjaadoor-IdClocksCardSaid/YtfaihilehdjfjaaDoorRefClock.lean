/- Contracts: the document's own words on clocks (package bookref1): Ref, Clock, Seq, Join. -/
import Derived.Test.YtfaihilehdjfjaaDoorClock9
namespace Go.Proofs.YtfaihilehdjfjaaDoor
open Go.ChangeShapes Go.WideShapes Go.ChangeAt Go.RowKit

theorem refRef_any (r : Rf) (w : World) : Calls Tryd.prog 42 #[refV r] w fun e w' => e = .returned (.bool (isRef r)) ∧ Below w.heap.size w w' := by
  obtain ⟨a, s⟩ := r
  simp only [refV, isRef]
  by_cases h1 : 1 ≤ a
  case neg =>
    have d1 : decide (1 ≤ a) = false := decide_eq_false h1
    have e0 : decide (1 ≤ a ∧ a ≤ 99) = false := decide_eq_false fun h => h1 h.1
    rw [e0]
    go_enter Tryd.func42, Tryd.ntmps42
    go_wp2_with fail
    go_ret
    exact ⟨rfl, (Below.refl _ w).alloc (Nat.le_refl _) _⟩
  have d1 : decide (1 ≤ a) = true := decide_eq_true h1
  by_cases h2 : a ≤ 99
  case neg =>
    have d2 : decide (a ≤ 99) = false := decide_eq_false h2
    have e0 : decide (1 ≤ a ∧ a ≤ 99) = false := decide_eq_false fun h => h2 h.2
    rw [e0]
    go_enter Tryd.func42, Tryd.ntmps42
    go_wp2_with fail
    go_ret
    exact ⟨rfl, (Below.refl _ w).alloc (Nat.le_refl _) _⟩
  have d2 : decide (a ≤ 99) = true := decide_eq_true h2
  have e0 : decide (1 ≤ a ∧ a ≤ 99) = true := decide_eq_true ⟨h1, h2⟩
  rw [e0]
  by_cases h3 : 1 ≤ s
  case neg =>
    have d3 : decide (1 ≤ s) = false := decide_eq_false h3
    have e1 : decide (1 ≤ s ∧ s ≤ 1000000) = false := decide_eq_false fun h => h3 h.1
    rw [e1]
    go_enter Tryd.func42, Tryd.ntmps42
    go_wp2_with fail
    go_ret
    exact ⟨rfl, (Below.refl _ w).alloc (Nat.le_refl _) _⟩
  have d3 : decide (1 ≤ s) = true := decide_eq_true h3
  have e1 : decide (1 ≤ s ∧ s ≤ 1000000) = decide (s ≤ 1000000) := by simp [h3]
  rw [e1]
  go_enter Tryd.func42, Tryd.ntmps42
  go_wp2_with fail
  go_ret
  exact ⟨rfl, (Below.refl _ w).alloc (Nat.le_refl _) _⟩
set_option maxHeartbeats 2000000 in
set_option maxRecDepth 20000 in
theorem refClock_any (l : List Rf) (D : Nat → Prop) (A : Option Addr) (c : Nat) (w : World) (hr : Reads D w 2 A l.length (refC l)) (hD : ∀ k, D k → k < w.heap.size) (hl : l.length ≤ 9223372036854775807) :
    Calls Tryd.prog 8 #[.slice A l.length c] w fun e w' => e = .returned (.int .i64 (refsE 0 l)) ∧ Below w.heap.size w w' := by
  have HR := Lib.hid hr
  have HD := Lib.hid hD
  clear hr hD
  obtain ⟨n, hn⟩ : ∃ n, l.length = n := ⟨_, rfl⟩
  have HN := Lib.hid hn
  rw [hn] at hl ⊢
  clear hn
  go_enter Tryd.func8, Tryd.ntmps8
  go_wp2_with fail
  go_loopw [3] (fun s7 wr => ∃ k : Nat, k ≤ n ∧ s7 = .int .i64 k ∧ Hid (Below w.heap.size w wr ∧ ∃ p : Int, refsE 0 l = refsE p (l.drop k) ∧ (k = 0 → p = 0) ∧ (∀ j r, k = j + 1 → l[j]? = some r → p = r.1)) ) (fun s7 _ => n - (intOf s7).toNat)
  case atStart => exact ⟨0, by omega, rfl, ⟨Below.refl _ _, 0, by simp, fun _ => rfl, fun j r h => by omega⟩⟩
  case round =>
    obtain ⟨k, hk, rfl, HI⟩ := hrel
    by_cases hlt : k < n
    · obtain ⟨b, off, rfl, hb, hcell⟩ := HR.out.at_ (by rw [HN.out]; omega) (by omega)
      obtain ⟨r, hr⟩ : ∃ r, l[k]? = some r := ⟨_, List.getElem?_eq_getElem (by rw [HN.out]; exact hlt)⟩
      have hbl := HD.out b hb
      have hblk : ∀ o, wr.cell? ⟨b, o, none⟩ = w.cell? ⟨b, o, none⟩ := fun o => World.cell?_of_block (w := w) (HI.out.1.block b hbl)
      obtain ⟨h1, h2⟩ := refC_at hr
      have x1 : wr.cell? ⟨b, off + k * 2, none⟩ = some (.int .i64 r.1) := by rw [hblk]; exact hcell _ _ h1
      have x2 : wr.cell? ⟨b, off + k * 2 + 1, none⟩ = some (.int .i64 r.2) := by rw [hblk]; exact hcell _ _ h2
      clear hblk hcell h1 h2
      have HX := Lib.hid hr
      clear hr
      go_wp2_with fail
      go_at_call 42
      refine (refRef_any r _).mono ?_
      rintro e w2 ⟨rfl, hb2⟩
      have HB2 : Hid (Below w.heap.size w w2) := HI.out.1.trans (hb2.mono HI.out.1.size)
      have y1 : w2.cell? ⟨b, off + k * 2, none⟩ = some (.int .i64 r.1) := by
        rw [World.cell?_of_block (w := wr) (hb2.block b (Nat.lt_of_lt_of_le hbl HI.out.1.size))]
        exact x1
      clear hb2 x1 x2
      obtain ⟨p, hp1, hp2, hp3⟩ := HI.out.2
      have hdr : l.drop k = r :: l.drop (k + 1) := by
        have hl : k < l.length := by rw [HN.out]; exact hlt
        have := HX.out
        rw [List.getElem?_eq_getElem hl] at this
        rw [List.drop_eq_getElem_cons hl, Option.some.inj this]
      have hre : refsE p (r :: l.drop (k + 1)) = if isRef r = false then 1 else if r.1 ≤ p then 5 else refsE r.1 (l.drop (k + 1)) := rfl
      rw [hdr, hre] at hp1
      clear hdr hre
      cases hir : isRef r with
      | false =>
        rw [hir, if_pos rfl] at hp1
        have HP := Lib.hid hp1
        clear hp1 hp2 hp3 hir
        go_wp2_with fail
        go_ret
        exact ⟨by rw [HP.out]; rfl, HB2.out⟩
      | true =>
        rw [hir, if_neg (by simp)] at hp1
        have hr1 : 1 ≤ r.1 := by
          simp only [isRef, Bool.and_eq_true, decide_eq_true_eq] at hir
          exact hir.1.1
        have HP := Lib.hid (And.intro hp1 (And.intro hp2 hp3))
        clear hp1 hp2 hp3 hir
        by_cases hk0 : k = 0
        · have hpz := HP.out.2.1 hk0
          have HE : Hid (refsE 0 l = refsE r.1 (l.drop (k + 1))) := by
            have := HP.out.1
            rw [hpz, if_neg (by omega)] at this
            exact this
          have d1 : decide (0 < (k : Int)) = false := decide_eq_false (by omega)
          have d1' : decide (0 < k) = false := decide_eq_false (by omega)
          clear hk0 hpz
          go_wp2_with fail
          go_quiet (fail)
          change Exit.then _ _ _ _ (w2.drewN nq)
          have HB3 : Hid (Below w.heap.size w (w2.drewN nq)) := below_drewN HB2.out nq
          generalize w2.drewN nq = w3 at HB3 ⊢
          clear y1
          go_wp2_with fail
          go_roundw
          case rel =>
            refine ⟨k + 1, hlt, by go_num, ⟨HB3.out, r.1, HE.out, fun e => by omega, fun j r' e h => ?_⟩⟩
            obtain rfl : j = k := by omega
            rw [HX.out] at h
            cases h
            rfl
          case measure => simp [intOf]; omega
        · have d1 : decide (0 < (k : Int)) = true := decide_eq_true (by omega)
          have d1' : decide (0 < k) = true := decide_eq_true (by omega)
          obtain ⟨r0, hr0⟩ : ∃ r, l[k - 1]? = some r := ⟨_, List.getElem?_eq_getElem (by rw [HN.out]; omega)⟩
          have hp0 := HP.out.2.2 (k - 1) r0 (by omega) hr0
          have hblk : ∀ o, w2.cell? ⟨b, o, none⟩ = w.cell? ⟨b, o, none⟩ := fun o => World.cell?_of_block (w := w) (HB2.out.block b hbl)
          obtain ⟨b2, off2, e2, -, hcell2⟩ := HR.out.at_ (by rw [HN.out]; omega) (by omega)
          simp only [Option.some.injEq, Addr.mk.injEq, and_true] at e2
          obtain ⟨rfl, rfl⟩ := e2
          have x3 : w2.cell? ⟨b, off + (k - 1) * 2, none⟩ = some (.int .i64 r0.1) := by rw [hblk]; exact hcell2 _ _ (refC_at hr0).1
          have HP1 := Lib.hid HP.out.1
          rw [hp0] at HP1
          have hw : IntKind.i64.wrap ((k : Int) - 1) = (k : Int) - 1 := IntWalk.i64_in _ (by omega)
          have hi0 : 0 ≤ (k : Int) - 1 := by omega
          have hi1 : (k : Int) - 1 < (n : Int) := by omega
          have hi2 : ((k : Int) - 1).toNat = k - 1 := by omega
          clear hblk hcell2 hr0 hp0 HP
          go_wp2_with fail
          by_cases hle : r.1 ≤ r0.1
          · have d2 : decide (r.1 ≤ r0.1) = true := decide_eq_true hle
            go_quiet (fail)
            change Exit.then _ _ _ _ (w2.drewN nq)
            have HB3 : Hid (Below w.heap.size w (w2.drewN nq)) := below_drewN HB2.out nq
            generalize w2.drewN nq = w3 at HB3 ⊢
            clear y1 x3 hw hi2
            go_wp2_with fail
            go_ret
            exact ⟨by rw [HP1.out, if_pos hle]; rfl, HB3.out⟩
          · have d2 : decide (r.1 ≤ r0.1) = false := decide_eq_false hle
            go_quiet (fail)
            change Exit.then _ _ _ _ (w2.drewN nq)
            have HB3 : Hid (Below w.heap.size w (w2.drewN nq)) := below_drewN HB2.out nq
            generalize w2.drewN nq = w3 at HB3 ⊢
            clear y1 x3 hw hi2
            go_wp2_with fail
            go_roundw
            case rel =>
              refine ⟨k + 1, hlt, by go_num, ⟨HB3.out, r.1, by rw [HP1.out, if_neg hle], fun e => by omega, fun j r' e h => ?_⟩⟩
              obtain rfl : j = k := by omega
              rw [HX.out] at h
              cases h
              rfl
            case measure => simp [intOf]; omega
    · have hkn : k = n := by omega
      obtain ⟨p, hp1, -, -⟩ := HI.out.2
      rw [List.drop_of_length_le (by rw [HN.out]; omega)] at hp1
      have HP : Hid (refsE 0 l = 0) := hp1
      have HBw := Lib.hid HI.out.1
      clear hp1
      go_wp2_with fail
      go_ret
      exact ⟨by rw [HP.out]; rfl, HBw.out⟩

set_option maxHeartbeats 2000000 in
set_option maxRecDepth 20000 in
theorem seq_any (l : List Rf) (x : Int) (hv : Vc l) (D : Nat → Prop) (A : Option Addr) (c : Nat) (w : World) (hr : Reads D w 2 A l.length (refC l)) :
    Calls Tryd.prog 45 #[.slice A l.length c, .int .i64 x] w fun e w' => e = .returned (.int .i64 (mx l x)) ∧ w' = w := by
  have HR := Lib.hid hr
  have HV := Lib.hid hv
  have hl : l.length ≤ 99 := hv.len
  clear hr hv
  obtain ⟨n, hn⟩ : ∃ n, l.length = n := ⟨_, rfl⟩
  have HN := Lib.hid hn
  rw [hn] at hl ⊢
  clear hn
  go_enter Tryd.func45, Tryd.ntmps45
  go_wp2_with fail
  go_loopw [5] (fun s5 wr => ∃ k : Nat, k ≤ n ∧ s5 = .int .i64 k ∧ Hid (wr = w) ∧ Hid (Vc (l.drop k) ∧ mx l x = mx (l.drop k) x)) (fun s _ => n - (intOf s).toNat)
  case atStart => exact ⟨0, by omega, rfl, rfl, by rw [List.drop_zero]; exact ⟨HV.out, rfl⟩⟩
  case round =>
    obtain ⟨k, hk, rfl, HW, HI⟩ := hrel
    by_cases hlt : k < n
    · obtain ⟨b, off, rfl, hb, hcell⟩ := HR.out.at_ (by rw [HN.out]; omega) (by omega)
      obtain ⟨r, hr⟩ : ∃ r, l[k]? = some r := ⟨_, List.getElem?_eq_getElem (by rw [HN.out]; exact hlt)⟩
      obtain ⟨h1, h2⟩ := refC_at hr
      have x1 : wr.cell? ⟨b, off + k * 2, none⟩ = some (.int .i64 r.1) := by rw [HW.out]; exact hcell _ _ h1
      have x2 : wr.cell? ⟨b, off + k * 2 + 1, none⟩ = some (.int .i64 r.2) := by rw [HW.out]; exact hcell _ _ h2
      have hdr : l.drop k = r :: l.drop (k + 1) := by
        have hl : k < l.length := by rw [HN.out]; exact hlt
        rw [List.getElem?_eq_getElem hl] at hr
        rw [List.drop_eq_getElem_cons hl, Option.some.inj hr]
      have HI' := HI.out
      rw [hdr] at HI'
      clear hcell h1 h2 hr hdr HI
      by_cases hx : r.1 = x
      · have HE : Hid (mx l x = r.2) := by
          have h3 := HI'.2
          have h4 := HI'.1.rest x (by omega)
          have h5 := HI'.1.pos
          simp only [mx, if_pos hx, h4] at h3
          show mx l x = r.2
          omega
        have d1 : decide (r.1 = x) = true := decide_eq_true hx
        clear HI'
        go_wp2_with fail
        go_ret
        exact ⟨by rw [HE.out]; rfl, HW.out⟩
      · have HE : Hid (Vc (l.drop (k + 1)) ∧ mx l x = mx (l.drop (k + 1)) x) := by
          have h3 := HI'.2
          simp only [mx, if_neg hx] at h3
          exact ⟨HI'.1.tail, h3⟩
        have d1 : decide (r.1 = x) = false := decide_eq_false hx
        clear HI'
        go_wp2_with fail
        go_roundw
        case rel => exact ⟨k + 1, hlt, by go_num, HW, HE⟩
        case measure => simp [intOf]; omega
    · have hkn : k = n := by omega
      have HE : Hid (mx l x = 0) := by
        have := HI.out.2
        rw [List.drop_of_length_le (by rw [HN.out]; omega)] at this
        exact this
      clear HI
      go_wp2_with fail
      go_ret
      exact ⟨by rw [HE.out]; rfl, HW.out⟩
/-- the join of the document, up to an actor -/
def refJ (a b : List Rf) : Nat → List Rf
  | 0 => []
  | k + 1 => refJ a b k ++ (if 0 < max (mx a (k + 1 : Nat)) (mx b (k + 1 : Nat)) then [(((k + 1 : Nat) : Int), max (mx a (k + 1 : Nat)) (mx b (k + 1 : Nat)))] else [])
theorem refJ_act (a b : List Rf) : ∀ (k : Nat), ∀ r ∈ refJ a b k, 1 ≤ r.1 ∧ r.1 ≤ k
  | 0, r, h => by simp [refJ] at h
  | k + 1, r, h => by
    simp only [refJ] at h
    rcases List.mem_append.mp h with h | h
    · have := refJ_act a b k r h; omega
    · split at h
      · simp only [List.mem_singleton] at h; subst h; simp only; omega
      · cases h
theorem refJ_len (a b : List Rf) : ∀ (k : Nat), (refJ a b k).length ≤ k
  | 0 => by simp [refJ]
  | k + 1 => by
    have := refJ_len a b k
    simp only [refJ, List.length_append]
    split <;> simp <;> omega
theorem refJ_mx (a b : List Rf) : ∀ (k : Nat) (x : Int), mx (refJ a b k) x = if 1 ≤ x ∧ x ≤ k then max (mx a x) (mx b x) else 0
  | 0, x => by simp only [refJ, mx]; rw [if_neg (by omega)]
  | k + 1, x => by
    have h1 := mx_nonneg a (k + 1 : Nat)
    have h2 := mx_nonneg b (k + 1 : Nat)
    simp only [refJ]
    rw [mx_append, refJ_mx a b k x]
    by_cases hx : x = (k + 1 : Nat)
    · subst hx
      rw [if_neg (by omega), if_pos (show 1 ≤ ((k + 1 : Nat) : Int) ∧ ((k + 1 : Nat) : Int) ≤ ((k + 1 : Nat) : Int) from by omega)]
      split
      · have hm : ∀ m : Int, mx [(((k + 1 : Nat) : Int), m)] ((k + 1 : Nat) : Int) = max m 0 := fun m => by simp [mx]
        rw [hm]
        omega
      · simp only [mx]; omega
    · have : mx (if 0 < max (mx a (k + 1 : Nat)) (mx b (k + 1 : Nat)) then [(((k + 1 : Nat) : Int), max (mx a (k + 1 : Nat)) (mx b (k + 1 : Nat)))] else []) x = 0 := by
        split
        · simp only [mx]; rw [if_neg (by omega)]
        · rfl
      rw [this]
      by_cases h3 : 1 ≤ x ∧ x ≤ k
      · rw [if_pos h3, if_pos (by omega)]
        have := mx_nonneg a x
        omega
      · rw [if_neg h3, if_neg (by omega)]; rfl
theorem Vc.most {l : List Rf} (h : Vc l) (x : Int) : mx l x ≤ 1000000 := mx_le l x _ (by omega) fun r hr _ => by have := isRef_bd (h.1 r hr); omega
theorem refJ_vc {a b : List Rf} (ha : Vc a) (hb : Vc b) : ∀ (k : Nat), k ≤ 99 → Vc (refJ a b k)
  | 0, _ => ⟨by intro r h; simp [refJ] at h, by simp [refJ]⟩
  | k + 1, hk => by
    obtain ⟨h1, h2⟩ := refJ_vc ha hb k (by omega)
    have m1 := ha.most (k + 1 : Nat)
    have m2 := hb.most (k + 1 : Nat)
    simp only [refJ]
    refine ⟨fun r hr => ?_, ?_⟩
    · rcases List.mem_append.mp hr with hr | hr
      · exact h1 r hr
      · split at hr
        · simp only [List.mem_singleton] at hr
          subst hr
          simp only [isRef, Bool.and_eq_true, decide_eq_true_eq]
          omega
        · cases hr
    · rw [List.pairwise_append]
      refine ⟨h2, by split <;> simp, fun x hx y hy => ?_⟩
      have := refJ_act a b k x hx
      split at hy
      · simp only [List.mem_singleton] at hy
        subst hy
        simp only
        omega
      · cases hy
theorem refJ_join {a b R : List Rf} (ha : Vc a) (hb : Vc b) (h : JoinV a b R) : R = refJ a b 99 :=
  h.1.ext (refJ_vc ha hb 99 (by omega)) fun x => by
    rw [h.2, refJ_mx]
    by_cases hx : 1 ≤ x ∧ x ≤ (99 : Nat)
    · rw [if_pos hx]
    · rw [if_neg hx]
      have : ∀ l, Vc l → mx l x = 0 := fun l hl => mx_zero l x fun r hr e => by
        have := isRef_bd (hl.1 r hr)
        omega
      rw [this a ha, this b hb]
      rfl

set_option maxHeartbeats 2000000 in
set_option maxRecDepth 20000 in
theorem refJoin_any (a b : List Rf) (hva : Vc a) (hvb : Vc b) (D D' : Nat → Prop) (A B : Option Addr) (ca cb : Nat) (w : World) (ha : Reads D w 2 A a.length (refC a)) (hb : Reads D' w 2 B b.length (refC b)) (hD : ∀ k, D k → k < w.heap.size) (hD' : ∀ k, D' k → k < w.heap.size) :
    Calls Tryd.prog 11 #[.slice A a.length ca, .slice B b.length cb] w fun e w' => Below w.heap.size w w' ∧ ∃ v, e = .returned v ∧ w'.ownsRow w.heap.size 79 2 v (refJ a b 99).length (refC (refJ a b 99)) := by
  have SA : ∀ (W : World) (x : Int), Below w.heap.size w W → _ := fun W x hw => seq_any a x hva D A ca W (ha.keep fun k hk => hw.block k (hD k hk))
  have SB : ∀ (W : World) (x : Int), Below w.heap.size w W → _ := fun W x hw => seq_any b x hvb D' B cb W (hb.keep fun k hk => hw.block k (hD' k hk))
  clear ha hb hD hD' hva hvb
  generalize a.length = na at *
  generalize b.length = nb at *
  go_enter Tryd.func11, Tryd.ntmps11
  go_wp2_with fail
  go_loopw [5, 6] (fun s5 s6 wr => ∃ k : Nat, k ≤ 99 ∧ s6 = .int .i64 ((k : Int) + 1) ∧ Hid (wr.ownsRow w.heap.size 79 2 s5 (refJ a b k).length (refC (refJ a b k))) ∧ Hid (Below w.heap.size w wr)) (fun _ s _ => 100 - (intOf s).toNat)
  case atStart => exact ⟨0, by omega, rfl, own_nil _ _ _ _, Below.refl _ _⟩
  case round =>
    obtain ⟨k, hk, rfl, HO, HB⟩ := hrel
    by_cases hlt : k < 99
    · have hJ : refJ a b (k + 1) = refJ a b k ++ (if 0 < max (mx a ((k : Int) + 1)) (mx b ((k : Int) + 1)) then [(((k : Int) + 1), max (mx a ((k : Int) + 1)) (mx b ((k : Int) + 1)))] else []) := by
        have e1 : ((k + 1 : Nat) : Int) = (k : Int) + 1 := by omega
        rw [refJ, e1]
      have ca := SA wr ((k : Int) + 1) HB.out
      have cb := SB wr ((k : Int) + 1) HB.out
      generalize mx a ((k : Int) + 1) = x at hJ ca
      generalize mx b ((k : Int) + 1) = y at hJ cb
      have HJ := Lib.hid hJ
      have hw : IntKind.i64.wrap ((k : Int) + 1 + 1) = (k : Int) + 1 + 1 := IntWalk.i64_in _ (by omega)
      have hlen := refJ_len a b k
      clear hJ SA SB
      go_wp2_with fail
      go_at_call 45
      refine ca.mono ?_
      rintro e w1 ⟨rfl, e1⟩
      rw [e1]
      clear e1 w1 ca
      go_wp2_with fail
      go_at_call 45
      refine cb.mono ?_
      rintro e w1 ⟨rfl, e1⟩
      rw [e1]
      clear e1 w1 cb
      by_cases hxy : x < y
      · have d1 : decide (x < y) = true := decide_eq_true hxy
        by_cases h0 : 0 < y
        · have d2 : decide (0 < y) = true := decide_eq_true h0
          have HE : Hid (refJ a b (k + 1) = refJ a b k ++ [((k : Int) + 1, y)]) := by
            have := HJ.out
            rw [show max x y = y from by omega, if_pos h0] at this
            exact this
          clear HJ hxy h0
          go_wp2_with (at_builtin; refine wpList_append_one 22 79 (.agg #[.int .i64 0, .int .i64 0]) 2 16 Tryd.underlying22 infoRef rfl (by omega) rfl (.tmp 25) (.tmp 29) rfl (w.heap.size) (u5) ((refJ a b k).length) (refC (refJ a b k)) rfl (HO.out.alloc _) (wr.heap.size) 1 ([.int .i64 ((k : Int) + 1), .int .i64 y]) rfl ?c1 ?c2 ?c3 ?c4 ?c5 ?c6 ?_)
          try case c1 => rfl
          try case c2 => intro j u hj; exact new_cells _ _ _ hj
          try case c3 => first | exact refC_one [((k : Int) + 1, y)] | exact ⟨rfl, rfl⟩ | rfl
          try case c4 => omega
          try case c5 => omega
          try case c6 => have := HB.out.size; simp; omega
          intro v1 w1 hown1 hg1 hat1
          have hb1 : Below (w.heap.size) w w1 := (HB.out.alloc HB.out.size _).grown hg1 (by have := HB.out.size; simp; omega) (fun g hg => (own_lt (HO.out) hg).1)
          clear hat1 hg1
          go_wp2_with fail
          go_roundw
          case rel =>
            refine ⟨k + 1, hlt, by go_num, ?_, hb1⟩
            show w1.ownsRow _ _ _ _ _ _
            rw [HE.out, List.length_append, refC_append]
            exact hown1
          case measure => simp [intOf]; omega
        · have d2 : decide (0 < y) = false := decide_eq_false h0
          have HE : Hid (refJ a b (k + 1) = refJ a b k) := by
            have := HJ.out
            rw [show max x y = y from by omega, if_neg h0, List.append_nil] at this
            exact this
          clear HJ hxy h0
          go_wp2_with fail
          go_roundw
          case rel =>
            refine ⟨k + 1, hlt, by go_num, ?_, HB.out⟩
            show wr.ownsRow _ _ _ _ _ _
            rw [HE.out]
            exact HO.out
          case measure => simp [intOf]; omega
      · have d1 : decide (x < y) = false := decide_eq_false hxy
        by_cases h0 : 0 < x
        · have d2 : decide (0 < x) = true := decide_eq_true h0
          have HE : Hid (refJ a b (k + 1) = refJ a b k ++ [((k : Int) + 1, x)]) := by
            have := HJ.out
            rw [show max x y = x from by omega, if_pos h0] at this
            exact this
          clear HJ hxy h0
          go_wp2_with (at_builtin; refine wpList_append_one 22 79 (.agg #[.int .i64 0, .int .i64 0]) 2 16 Tryd.underlying22 infoRef rfl (by omega) rfl (.tmp 25) (.tmp 29) rfl (w.heap.size) (u5) ((refJ a b k).length) (refC (refJ a b k)) rfl (HO.out.alloc _) (wr.heap.size) 1 ([.int .i64 ((k : Int) + 1), .int .i64 x]) rfl ?d1 ?d2 ?d3 ?d4 ?d5 ?d6 ?_)
          try case d1 => rfl
          try case d2 => intro j u hj; exact new_cells _ _ _ hj
          try case d3 => first | exact refC_one [((k : Int) + 1, x)] | exact ⟨rfl, rfl⟩ | rfl
          try case d4 => omega
          try case d5 => omega
          try case d6 => have := HB.out.size; simp; omega
          intro v1 w1 hown1 hg1 hat1
          have hb1 : Below (w.heap.size) w w1 := (HB.out.alloc HB.out.size _).grown hg1 (by have := HB.out.size; simp; omega) (fun g hg => (own_lt (HO.out) hg).1)
          clear hat1 hg1
          go_wp2_with fail
          go_roundw
          case rel =>
            refine ⟨k + 1, hlt, by go_num, ?_, hb1⟩
            show w1.ownsRow _ _ _ _ _ _
            rw [HE.out, List.length_append, refC_append]
            exact hown1
          case measure => simp [intOf]; omega
        · have d2 : decide (0 < x) = false := decide_eq_false h0
          have HE : Hid (refJ a b (k + 1) = refJ a b k) := by
            have := HJ.out
            rw [show max x y = x from by omega, if_neg h0, List.append_nil] at this
            exact this
          clear HJ hxy h0
          go_wp2_with fail
          go_roundw
          case rel =>
            refine ⟨k + 1, hlt, by go_num, ?_, HB.out⟩
            show wr.ownsRow _ _ _ _ _ _
            rw [HE.out]
            exact HO.out
          case measure => simp [intOf]; omega
    · have hkn : k = 99 := by omega
      subst hkn
      go_wp2_with fail
      go_ret
      exact ⟨HB.out, _, rfl, HO.out⟩
end Go.Proofs.YtfaihilehdjfjaaDoor
