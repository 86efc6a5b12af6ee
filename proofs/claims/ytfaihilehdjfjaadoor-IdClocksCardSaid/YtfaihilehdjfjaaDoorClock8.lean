/- Contracts: whether one clock covers another one. -/
import Derived.Test.YtfaihilehdjfjaaDoorClock7
import Derived.Test.YtfaihilehdjfjaaDoorOpenB
import Derived.Maps.OwnOps
import Derived.Maps.Views
import Derived.WalkKit
namespace Go.Proofs.YtfaihilehdjfjaaDoor
open Go.ChangeShapes Go.WideShapes Go.ChangeAt Go.RowKit Go.Maps

theorem refsE_ok : ∀ (l : List Rf) (p : Int), refsE p l = 0 → ∀ r ∈ l, isRef r = true ∧ p < r.1
  | [], _, _, r, h => by simp at h
  | x :: l, p, h, r, hr => by
    simp only [refsE] at h
    split at h
    · cases h
    · split at h
      · cases h
      · rename_i h1 h2
        rcases List.mem_cons.mp hr with rfl | hr
        · exact ⟨by simpa using h1, by omega⟩
        · have := refsE_ok l x.1 h r hr
          exact ⟨this.1, by omega⟩
theorem isRef_bd {r : Rf} (h : isRef r = true) : 1 ≤ r.1 ∧ r.1 ≤ 99 ∧ 1 ≤ r.2 ∧ r.2 ≤ 1000000 := by
  simp only [isRef, Bool.and_eq_true, decide_eq_true_eq] at h
  exact ⟨h.1.1, h.1.2, h.2.1, h.2.2⟩
/-- what a map of a clock tells of an actor -/
def seqOf (l : List Rf) (x : Int) : Int := l.foldl (fun s r => if r.1 = x then r.2 else s) 0
theorem seqOf_snoc (l : List Rf) (r : Rf) (x : Int) : seqOf (l ++ [r]) x = if r.1 = x then r.2 else seqOf l x := by simp [seqOf]
/-- a map that reads as a clock -/
def MapS (D : DataW Unit) (l : List Rf) : Prop := IsMap D ∧ ∀ x, D.atKey (.int .i64 x) (.lit (.int .i64 0)) = .lit (.int .i64 (seqOf l x))
theorem MapS.nil : MapS (.map []) [] := ⟨⟨_, rfl⟩, fun _ => rfl⟩
theorem MapS.put {D : DataW Unit} {l : List Rf} (h : MapS D l) (r : Rf) : MapS (D.put (.int .i64 r.1) (.lit (.int .i64 r.2))) (l ++ [r]) := by
  refine ⟨?_, fun x => ?_⟩
  · obtain ⟨es, rfl⟩ := h.1
    exact ⟨_, rfl⟩
  · rw [seqOf_snoc]
    by_cases hx : r.1 = x
    · subst hx
      rw [if_pos rfl, atKey_put_same h.1 (show WideAt.IsKeyLit (.int .i64 r.1) from trivial)]
    · rw [if_neg hx, atKey_put_other (by simp; exact fun e => hx e.symm), h.2 x]
theorem keyInt : Keyed Tryd.prog 3 := int_keyed Tryd.underlying3
theorem zeroInt (w : World) : (zeroValue 3).run Tryd.prog w = .ok (.int .i64 0) w := by kernel_rfl
/-- a ref that is a pair of Go's numbers -/
abbrev WRf := { r : Rf // (Lit.int .i64 r.1).wf = true }
instance : Inhabited WRf := ⟨⟨(0, 0), by decide⟩⟩
def encW (r : WRf) : List Value := encR r.1
set_option maxHeartbeats 1000000 in
theorem covers1_any (a : List Rf) (pm mb n : Nat) (D : DataW Unit) (hD : MapS D a) (w : World) (hp : pm < w.heap.size) (hc : w.cell? ⟨pm, 0, none⟩ = some (.map (some mb))) (hown : w.ownsMap Tryd.prog 3 (plainElem Tryd.prog 3) mb n D) :
    PredBelow Tryd.prog 55 #[.pointer (some ⟨pm, 0, none⟩)] (fun x : WRf => .agg (encW x).toArray) (fun x => decide (seqOf a x.1.1 < x.1.2)) w := by
  intro W x hb
  obtain ⟨⟨xa, xs⟩, hx⟩ := x
  show Calls Tryd.prog 55 #[.agg #[.int .i64 xa, .int .i64 xs], .pointer (some ⟨pm, 0, none⟩)] W _
  have hcW : W.cell? ⟨pm, 0, none⟩ = some (.map (some mb)) := (World.cell?_of_block (w := w) (hb.block pm hp)).trans hc
  have hpW : pm < W.heap.size := Nat.lt_of_lt_of_le hp hb.size
  have howW : W.ownsMap Tryd.prog 3 (plainElem Tryd.prog 3) mb n D := by
    obtain ⟨es, clock, h1, h2⟩ := hown
    exact ⟨es, clock, (hb.block mb (by
      rcases Nat.lt_or_ge mb w.heap.size with h | h
      · exact h
      · rw [Array.getElem?_eq_none h] at h1; cases h1)).trans h1, h2⟩
  have hne : pm ≠ W.heap.size := by omega
  have hat := hD.2 xa
  have HD := Lib.hid hat
  have HB := Lib.hid hb
  have how2 := howW.alloc (.cells #[.int .i64 xa, .int .i64 xs] 79)
  have HO := Lib.hid how2
  clear hat hb hown howW how2 hD hc
  go_enter Tryd.func55, Tryd.ntmps55
  go_wp2_with (at_lookup; refine wpList_lookup_own_int _ rfl _ _ 90 rfl 3 3 .i64 keyInt Tryd.underlying90 Tryd.underlying3 (zeroInt _) mb n D rfl HO.out _ _ rfl (keyOf_int_mk Tryd.underlying3 hx) ?_; intro c hat hwc)
  have hcx : c = seqOf a xa := by
    have := HD.out
    rw [hat] at this
    simpa using this
  subst hcx
  clear hat hwc
  go_ret
  refine ⟨rfl, ?_⟩
  exact HB.out.alloc HB.out.size _

theorem index_none (A : Option Addr) (c : Nat) (fv : Value) (w : World) : Calls Tryd.prog 102 #[.slice A 0 c, fv] w fun e w' => e = .returned (.int .i64 (-1)) ∧ w' = w := by
  go_enter Tryd.func102, Tryd.ntmps102
  go_wp2_with fail
  refine wp_loop_rounds 1 ?_
  rw [rounds_succ]
  go_wp2_with fail
  go_ret
  exact ⟨rfl, rfl⟩
theorem wrefs : ∀ (l : List Rf), (∀ r ∈ l, (Lit.int .i64 r.1).wf = true) → ∃ zs : List WRf, zs.map (·.1) = l
  | [], _ => ⟨[], rfl⟩
  | r :: l, h => by
    obtain ⟨zs, hz⟩ := wrefs l fun x hx => h x (List.mem_cons_of_mem _ hx)
    exact ⟨⟨r, h r (List.mem_cons_self ..)⟩ :: zs, by simp [hz]⟩
theorem int_wf {x : Int} (h : -9223372036854775808 ≤ x ∧ x ≤ 9223372036854775807) : (Lit.int .i64 x).wf = true := by
  have := wrap64_wf x
  have e : wrap64 x = x := by unfold wrap64; omega
  rwa [e] at this
theorem ref_wf {r : Rf} (h : isRef r = true) : (Lit.int .i64 r.1).wf = true := by
  have := isRef_bd h
  exact int_wf (by omega)
/-- is one of the second clock ahead of the first one? -/
def aheadB (a b : List Rf) : Bool := b.any fun r => decide (seqOf a r.1 < r.2)
theorem index_any (a b : List Rf) (hbr : ∀ r ∈ b, isRef r = true) (D' : Nat → Prop) (B : Option Addr) (cb pm mb n : Nat) (D : DataW Unit) (hD : MapS D a) (w : World) (hb : Reads D' w 2 B b.length (refC b)) (hD' : ∀ k, D' k → k < w.heap.size)
    (hlb : b.length ≤ 9223372036854775807) (hp : pm < w.heap.size) (hc : w.cell? ⟨pm, 0, none⟩ = some (.map (some mb))) (hown : w.ownsMap Tryd.prog 3 (plainElem Tryd.prog 3) mb n D) :
    Calls Tryd.prog 102 #[.slice B b.length cb, .func (.func 55) #[] #[.pointer (some ⟨pm, 0, none⟩)]] w fun e w' =>
      ∃ i : Int, e = .returned (.int .i64 i) ∧ decide (0 ≤ i) = aheadB a b ∧ Below w.heap.size w w' := by
  by_cases h0 : b.length = 0
  · rw [h0]
    have hb0 := List.eq_nil_of_length_eq_zero h0
    refine (index_none B cb _ w).mono ?_
    rintro e w1 ⟨rfl, rfl⟩
    exact ⟨-1, rfl, by rw [hb0]; rfl, Below.refl _ _⟩
  · obtain ⟨g, off, rfl, hg, hcell⟩ := hb.at_ (by omega) (by omega)
    obtain ⟨zs, hzs⟩ := wrefs b fun r hr => ref_wf (hbr r hr)
    have eg : ∀ args w, (callFunc 55 args).run Tryd.prog w = .ok (.enter 55 args) w := enters_of Tryd.func55 (by kernel_rfl) rfl
    have hzl : zs.length = b.length := by rw [← hzs, List.length_map]
    refine (AnyQ.slices_IndexFunc Tryd.indexRef 2 Tryd.isAgg79 Tryd.sizeOf79 encW (fun _ => rfl) (fun x : WRf => decide (seqOf a x.1.1 < x.1.2)) 55 #[.pointer (some ⟨pm, 0, none⟩)] eg g off b.length cb zs w
      (covers1_any a pm mb n D hD w hp hc hown) (by omega) hlb (hD' g hg) (fun j hj i v hi => ?_)).mono ?_
    · have hbj : b[j]? = some (zs[j]!).1 := by
        rw [← hzs, List.getElem?_map, List.getElem?_eq_getElem hj, getElem!_pos zs j hj]
        rfl
      obtain ⟨h1, h2⟩ := refC_at hbj
      generalize zs[j]! = y at hi h1 h2
      match i, hi with
      | 0, hi => simp [encW, encR] at hi; rw [← hi]; exact hcell _ _ h1
      | 1, hi => simp [encW, encR] at hi; rw [← hi]; exact hcell _ _ h2
      | i + 2, hi => simp [encW, encR] at hi
    · rintro e w1 ⟨rfl, hb1⟩
      refine ⟨_, rfl, ?_, hb1⟩
      rw [Lib.idxBy_nonneg_iff, List.take_of_length_le (by omega)]
      show (zs.any fun y => decide (seqOf a y.1.1 < y.1.2)) = aheadB a b
      unfold aheadB
      rw [← hzs, List.any_map]
      rfl
theorem contains_any (a b : List Rf) (hbr : ∀ r ∈ b, isRef r = true) (D' : Nat → Prop) (B : Option Addr) (cb pm mb n : Nat) (D : DataW Unit) (hD : MapS D a) (w : World) (hb : Reads D' w 2 B b.length (refC b)) (hD' : ∀ k, D' k → k < w.heap.size)
    (hlb : b.length ≤ 9223372036854775807) (hp : pm < w.heap.size) (hc : w.cell? ⟨pm, 0, none⟩ = some (.map (some mb))) (hown : w.ownsMap Tryd.prog 3 (plainElem Tryd.prog 3) mb n D) :
    Calls Tryd.prog 54 #[.slice B b.length cb, .func (.func 55) #[] #[.pointer (some ⟨pm, 0, none⟩)]] w fun e w' =>
      e = .returned (.bool (aheadB a b)) ∧ Below w.heap.size w w' := by
  have IO := index_any a b hbr D' B cb pm mb n D hD w hb hD' hlb hp hc hown
  generalize b.length = nb at IO ⊢
  generalize aheadB a b = x at IO ⊢
  clear hbr hD hb hD' hlb hp hc hown
  go_enter Tryd.func54, Tryd.ntmps54
  go_wp2_with fail
  go_at_call 102
  refine IO.mono ?_
  rintro e w1 ⟨i, rfl, hi, hb1⟩
  have HB1 := Lib.hid hb1
  clear hb1
  go_wp2_with fail
  go_ret
  exact ⟨by rw [← hi]; rfl, HB1.out⟩

set_option maxHeartbeats 2000000 in
set_option maxRecDepth 20000 in
theorem covers_any (a b : List Rf) (D D' : Nat → Prop) (A B : Option Addr) (ca cb : Nat) (w : World) (ha : Reads D w 2 A a.length (refC a)) (hb : Reads D' w 2 B b.length (refC b)) (hD : ∀ k, D k → k < w.heap.size) (hD' : ∀ k, D' k → k < w.heap.size)
    (hla : a.length ≤ 9223372036854775807) (hlb : b.length ≤ 9223372036854775807) :
    Calls Tryd.prog 14 #[.slice A a.length ca, .slice B b.length cb] w fun e w' => Below w.heap.size w w' ∧
      e = .returned (if bothE a b = 0 then .tuple #[.bool (!(aheadB a b)), .nilIface] else .tuple #[.bool false, errN (bothE a b)]) := by
  have BO := both_any a b D D' A B ca cb w ha hb hD hD' (by omega) (by omega)
  have hq : bothE a b = 0 → a.length ≤ 99 ∧ (∀ r ∈ a, isRef r = true) ∧ (∀ r ∈ b, isRef r = true) := fun h =>
    ⟨(bothE_len h).1, fun r hr => (refsE_ok a 0 (bothE_zero h).1 r hr).1, fun r hr => (refsE_ok b 0 (bothE_zero h).2 r hr).1⟩
  have HA := Lib.hid ha
  have HD := Lib.hid hD
  obtain ⟨na, hna⟩ : ∃ n, a.length = n := ⟨_, rfl⟩
  rw [hna] at hla hq BO ⊢
  have HNA := Lib.hid hna
  clear ha hD hna
  generalize hx : bothE a b = x at hq BO ⊢
  clear hx
  by_cases h0 : x = 0
  · subst h0
    obtain ⟨hla', hra, hrb⟩ := hq rfl
    have CO := fun pm mb n DD hDD W => contains_any a b hrb D' B cb pm mb n DD hDD W
    have HRA := Lib.hid hra
    have HB := Lib.hid hb
    have HD' := Lib.hid hD'
    have HLB := Lib.hid hlb
    obtain ⟨nb, hnb⟩ : ∃ n, b.length = n := ⟨_, rfl⟩
    rw [hnb] at BO CO ⊢
    have HNB := Lib.hid hnb
    rw [errN_zero] at BO
    simp only [↓reduceIte]
    clear hla hb hD' hlb hrb hra hq hnb
    have hmm := @run_makeMap Tryd.prog
    go_enter Tryd.func14, Tryd.ntmps14
    go_wp2_with fail
    go_at_call 46
    refine BO.mono ?_
    rintro e w1 ⟨rfl, hb1⟩
    have HB1 := Lib.hid hb1
    clear hb1
    go_wp2_with fail
    obtain ⟨mb, hmb⟩ : ∃ n, w1.heap.size = n := ⟨_, rfl⟩
    have e1 : ((w1.alloc (.map #[] 0)).alloc (.cells #[.map (some mb)] 90)).cell? ⟨mb + 1, 0, none⟩ = some (.map (some mb)) := by
      have := (Blk.new (w1.alloc (.map #[] 0)) 90 #[.map (some mb)]).cell 0
      simp only [World.size_alloc, hmb] at this
      exact this
    have e2 : ((w1.alloc (.map #[] 0)).alloc (.cells #[.map (some mb)] 90)).ownsMap Tryd.prog 3 (plainElem (H := Unit) Tryd.prog 3) mb 0 (.map []) := by
      have := (World.ownsMap_made w1 Tryd.prog 3 (plainElem (H := Unit) Tryd.prog 3)).alloc (.cells #[.map (some mb)] 90)
      rwa [hmb] at this
    have e3 : ((w1.alloc (.map #[] 0)).alloc (.cells #[.map (some mb)] 90)).heap.size = mb + 2 := by simp [hmb]
    have e4 : Below w.heap.size w ((w1.alloc (.map #[] 0)).alloc (.cells #[.map (some mb)] 90)) := (HB1.out.alloc HB1.out.size _).alloc (by have := HB1.out.size; simp; omega) _
    have e5 : w.heap.size ≤ mb := by have := HB1.out.size; omega
    have e6 : mb ≠ mb + 1 := by omega
    rw [hmb]
    generalize ((w1.alloc (.map #[] 0)).alloc (.cells #[.map (some mb)] 90)) = w2 at e1 e2 e3 e4 ⊢
    have e7 : mb + 1 < w2.heap.size := by omega
    clear hmb e3 HB1
    generalize mb + 1 = pm at e1 e6 e7 ⊢
    go_loopw [19] (fun s19 wr => ∃ k : Nat, k ≤ na ∧ s19 = .int .i64 k ∧ pm < wr.heap.size ∧ wr.cell? ⟨pm, 0, none⟩ = some (.map (some mb)) ∧ Hid (Below w.heap.size w wr) ∧ Hid (∃ DD, MapS DD (a.take k) ∧ wr.ownsMap Tryd.prog 3 (plainElem (H := Unit) Tryd.prog 3) mb k DD)) (fun s _ => na - (intOf s).toNat)
    case atStart => exact ⟨0, by omega, rfl, e7, e1, e4, .map [], MapS.nil, e2⟩
    case round =>
      obtain ⟨k, hk, rfl, hpr, hcell, HBr, HM⟩ := hrel
      clear e1 e2 e4 e7
      by_cases hlt : k < na
      · obtain ⟨b0, off, rfl, hb0, hcl⟩ := HA.out.at_ (by rw [HNA.out]; omega) (by omega)
        obtain ⟨r, hr⟩ : ∃ r, a[k]? = some r := ⟨_, List.getElem?_eq_getElem (by rw [HNA.out]; exact hlt)⟩
        have hbl := HD.out b0 hb0
        have hblk : ∀ o, wr.cell? ⟨b0, o, none⟩ = w.cell? ⟨b0, o, none⟩ := fun o => World.cell?_of_block (w := w) (HBr.out.block b0 hbl)
        obtain ⟨h1, h2⟩ := refC_at hr
        have x1 : wr.cell? ⟨b0, off + k * 2, none⟩ = some (.int .i64 r.1) := by rw [hblk]; exact hcl _ _ h1
        have x2 : wr.cell? ⟨b0, off + k * 2 + 1, none⟩ = some (.int .i64 r.2) := by rw [hblk]; exact hcl _ _ h2
        have hw1 : (Lit.int .i64 r.1).wf = true := ref_wf (HRA.out r (List.mem_of_getElem? hr))
        have hw2 : (Lit.int .i64 r.2).wf = true := int_wf (by have := isRef_bd (HRA.out r (List.mem_of_getElem? hr)); omega)
        have hkey : keyOf Tryd.prog 3 (.int .i64 r.1) = some (.int .i64 r.1) := keyOf_int_mk Tryd.underlying3 hw1
        obtain ⟨DD, hDD, how⟩ := HM.out
        have HDD := Lib.hid hDD
        have HO := Lib.hid (how.alloc (.cells #[.int .i64 r.1, .int .i64 r.2] 79))
        have hne : pm ≠ wr.heap.size := by omega
        have HX := Lib.hid hr
        clear hblk hcl h1 h2 how hDD HM hr
        go_wp2_with (at_mapUpdate; refine wpList_mapUpdate_own _ rfl _ _ _ 90 rfl 3 3 keyInt Tryd.underlying90 _ mb k DD rfl HO.out (by unfold maxLen; omega) _ _ _ rfl rfl hkey _ [] (plainElem_int Tryd.underlying3 hw2) ?_; intro w4 hown4 hgrow4)
        have hsw : wr.heap.size ≤ w4.heap.size := Nat.le_trans (by simp) hgrow4.size
        have HB4 : Hid (Below w.heap.size w w4) := (HBr.out.alloc HBr.out.size _).grown hgrow4 (by have := HBr.out.size; simp; omega) (fun j hj => by cases hj; exact e5)
        have hc4 : w4.cell? ⟨pm, 0, none⟩ = some (.map (some mb)) := by
          rw [World.cell?_of_block (w := wr) (a := ⟨pm, 0, none⟩) ((hgrow4.block pm (by simp; omega) (by intro e; exact e6 (Option.some.inj e).symm)).trans (Below.heap_alloc wr _ pm hpr))]
          exact hcell
        go_roundw
        case rel =>
          refine ⟨k + 1, hlt, by go_num, by omega, hc4, HB4.out, _, ?_, hown4⟩
          have htk : a.take (k + 1) = a.take k ++ [r] := by rw [List.take_add_one, HX.out]; rfl
          rw [htk]
          exact HDD.out.put r
        case measure => simp [intOf]; omega
      · have hkn : k = na := by omega
        subst hkn
        obtain ⟨DD, hDD, how⟩ := HM.out
        rw [← HNA.out, List.take_length] at hDD
        have hBw := HB.out.keep (w' := wr) fun k hk => HBr.out.block k (HD'.out k hk)
        rw [HNB.out] at hBw
        have CC := CO pm mb a.length DD hDD wr hBw (fun k hk => Nat.lt_of_lt_of_le (HD'.out k hk) HBr.out.size) (HNB.out ▸ HLB.out) hpr hcell (HNA.out ▸ how)
        clear how hDD HM CO hBw
        go_wp2_with fail
        go_at_call 54
        refine CC.mono ?_
        rintro e w3 ⟨rfl, hb3⟩
        have HB3 := Lib.hid hb3
        clear hb3 CC
        go_wp2_with fail
        go_ret2
        exact ⟨HBr.out.trans (HB3.out.mono HBr.out.size), rfl⟩
  · have he := errN_pos h0
    have HE := Lib.hid he
    rw [he] at BO
    simp only [if_neg h0]
    clear he hq
    go_enter Tryd.func14, Tryd.ntmps14
    go_wp2_with fail
    go_at_call 46
    refine BO.mono ?_
    rintro e w1 ⟨rfl, hb1⟩
    have HB1 := Lib.hid hb1
    clear hb1
    go_wp2_with fail
    go_ret2
    exact ⟨HB1.out, by rw [HE.out]; rfl⟩
end Go.Proofs.YtfaihilehdjfjaaDoor
