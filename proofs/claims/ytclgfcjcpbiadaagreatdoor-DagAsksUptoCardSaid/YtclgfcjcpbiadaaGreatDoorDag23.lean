/- Contracts of the program's books: Missing. -/
import Derived.Test.YtclgfcjcpbiadaaGreatDoorDag22
set_option linter.unusedVariables false
set_option linter.unusedSimpArgs false
namespace Go.Proofs.YtclgfcjcpbiadaaGreatDoor
open Go.ChangeShapes Go.WideShapes Go.ChangeAt Go.RowKit

/-- a box of one cell -/
def At (w : World) (q : Nat) (v : Value) : Prop := w.cell? ⟨q, 0, none⟩ = some v ∧ q < w.heap.size
theorem At.keep {w w' : World} {q : Nat} {v : Value} (h : At w q v) (hk : w'.heap[q]? = w.heap[q]?) (hs : w.heap.size ≤ w'.heap.size) : At w' q v := ⟨(World.cell?_of_block hk).trans h.1, Nat.lt_of_lt_of_le h.2 hs⟩
theorem At.below {w w' : World} {q : Nat} {v : Value} (h : At w q v) (hb : Below w.heap.size w w') : At w' q v := h.keep (hb.block _ h.2) hb.size
theorem At.chg {w w' : World} {q : Nat} {v : Value} {M : Nat → Prop} (h : At w q v) (hc : Chg M w w') (hn : ¬ M q) : At w' q v := h.keep (hc.block _ h.2 hn) hc.size
theorem At.new (w : World) (t : TypeId) (v : Value) : At (w.alloc (.cells #[v] t)) w.heap.size v := ⟨(Blk.new w t #[v]).cell 0, (Blk.new w t #[v]).lt⟩
/-- a ref that is missing -/
def MissP (L W : List ChD) (hs : List Rf) (x : Rf) : Prop := (x ∈ hs ∨ ∃ c ∈ W, x ∈ c.deps) ∧ x ∉ refsOf L ∧ x ∉ refsOf W
/-- what Missing answers -/
def MissingR (L W : List ChD) (hs : List Rf) (e : Ending) (w' : World) : Prop :=
  ((∀ r ∈ hs, isRef r = true) ∧ ∃ A c S, e = .returned (.tuple #[.slice A S.length c, .nilIface]) ∧ AscW S ∧ S.Nodup ∧ (∀ r, r ∈ S ↔ MissP L W hs r) ∧ S.length ≤ 1000000 ∧ Reads (fun k => k < w'.heap.size) w' 2 A S.length (refC S)) ∨
  ((¬ ∀ r ∈ hs, isRef r = true) ∧ e = .returned (.tuple #[.slice none 0 0, errN 1]))
theorem isRef_i64 {r : Rf} (h : isRef r = true) : I64R r := by
  have := isRef_bd h
  exact ⟨by omega, by omega⟩
theorem miss_step {L W : List ChD} {S S' l : List Rf} {d : Rf} (h : ∀ r, r ∈ S ↔ r ∈ l ∧ r ∉ refsOf L ∧ r ∉ refsOf W) (h' : ∀ r, r ∈ S' ↔ r ∈ S ∨ r = d ∧ r ∉ refsOf L ∧ r ∉ refsOf W) (r : Rf) : r ∈ S' ↔ r ∈ l ++ [d] ∧ r ∉ refsOf L ∧ r ∉ refsOf W := by
  rw [h' r, h r, List.mem_append, List.mem_singleton]
  constructor
  · rintro (⟨a, b⟩ | ⟨a, b⟩)
    · exact ⟨.inl a, b⟩
    · exact ⟨.inr a, b⟩
  · rintro ⟨a | a, b⟩
    · exact .inl ⟨a, b⟩
    · exact .inr ⟨a, b⟩
theorem flat_snoc (done : List ChD) (c : ChD) : (done ++ [c]).flatMap ChD.deps = done.flatMap ChD.deps ++ c.deps := by simp
/-- when all of W has been gone through -/
theorem miss_done {L W done : List ChD} {hs S : List Rf} (hd : ∀ c ∈ done, c ∈ W) (hp : (done.map kvC).Perm (W.map kvC)) (hn : (refsOf W).Nodup) (hS : ∀ r, r ∈ S ↔ r ∈ hs ++ done.flatMap ChD.deps ∧ r ∉ refsOf L ∧ r ∉ refsOf W) (r : Rf) : r ∈ S ↔ MissP L W hs r := by
  unfold MissP
  rw [hS r, List.mem_append, List.mem_flatMap]
  refine and_congr_left fun _ => or_congr_right ⟨fun ⟨c, hc, h⟩ => ⟨c, hd c hc, h⟩, fun ⟨c, hc, h⟩ => ?_⟩
  obtain ⟨c', hc', e⟩ := List.mem_map.1 (hp.mem_iff.2 (List.mem_map_of_mem (f := kvC) hc))
  have e1 : c'.rf = c.rf := congrArg Prod.fst e
  have h1 := findC_is hn (hd c' hc')
  rw [e1, findC_is hn hc] at h1
  cases h1
  exact ⟨c, hc', h⟩
set_option maxHeartbeats 16000000 in
set_option maxRecDepth 20000 in
theorem missing_any (X : List (ChD × Nat × List Rf)) (W : List ChD) (hs : List Rf) (H : Option Addr) (hc : Nat) (g bh bw bb : Nat) (w : World) (hB : PB w g bh bw bb X W) (hr : Reads (fun k => k < w.heap.size) w 2 H hs.length (refC hs))
    (hhl : hs.length ≤ 900000) (hn : (refsOf W).Nodup) (hl : W.length ≤ 1000) (hin : ∀ c ∈ W, ChIn (fun k => k < w.heap.size) w c) (he : ∀ c ∈ W, c.err = 0) :
    Calls Tryz.prog 19 #[.pointer (some ⟨g, 0, none⟩), .slice H hs.length hc] w fun e w' => MissingR (X.map Prod.fst) W hs e w' ∧ Below w.heap.size w w' := by
  obtain ⟨L, hL⟩ : ∃ L, X.map Prod.fst = L := ⟨_, rfl⟩
  have HLX := Lib.hid hL
  obtain ⟨nh, hnh⟩ : ∃ n, hs.length = n := ⟨_, rfl⟩
  have HNH := Lib.hid hnh
  have HB := Lib.hid hB
  have HNW := Lib.hid hn
  have HLW := Lib.hid hl
  have HIN := Lib.hid hin
  have HE := Lib.hid he
  rw [hL]
  rw [hnh] at hr hhl ⊢
  have HRD := Lib.hid hr
  have HHL := Lib.hid hhl
  clear hB hr hL hnh hn hl hin he
  have hmm : ∀ (t : TypeId) (w : World), (Instr.makeMap t none).run Tryz.prog w = .ok (.map (some w.heap.size)) (w.alloc (.map #[] 0)) := fun _ _ => rfl
  go_enter Tryz.func19, Tryz.ntmps19
  go_upto_region 1 with fail
  have hb1 : Below w.heap.size w (w.alloc (.cells #[.pointer (some ⟨g, 0, none⟩)] 26)) := (Below.refl _ w).alloc (Nat.le_refl _) _
  have hq1 : At (w.alloc (.cells #[.pointer (some ⟨g, 0, none⟩)] 26)) w.heap.size (.pointer (some ⟨g, 0, none⟩)) := At.new _ _ _
  have hz1 : w.heap.size ≤ w.heap.size := Nat.le_refl _
  generalize w.alloc (.cells #[.pointer (some ⟨g, 0, none⟩)] 26) = w1 at hb1 hq1 ⊢
  generalize hq : w.heap.size = q at hq1 hz1 ⊢
  have HZ1 : Hid (w.heap.size ≤ q ∧ q < w1.heap.size) := ⟨by rw [hq]; exact Nat.le_refl _, hq1.2⟩
  clear hz1 hq
  have hb2 : Below w1.heap.size w1 (w1.alloc (.map #[] 0)) := (Below.refl _ w1).alloc (Nat.le_refl _) _
  have hs2 : ZM (w1.alloc (.map #[] 0)) w1.heap.size [] := ZM.made w1
  have hb3 : Below (w1.alloc (.map #[] 0)).heap.size (w1.alloc (.map #[] 0)) ((w1.alloc (.map #[] 0)).alloc (.cells #[.map (some w1.heap.size)] 57)) := (Below.refl _ _).alloc (Nat.le_refl _) _
  have hm3 : At ((w1.alloc (.map #[] 0)).alloc (.cells #[.map (some w1.heap.size)] 57)) (w1.alloc (.map #[] 0)).heap.size (.map (some w1.heap.size)) := At.new _ _ _
  have hw2 : w1.heap.size < (w1.alloc (.map #[] 0)).heap.size := MapL.lt hs2
  have HQ0 := Lib.hid ((hq1.below hb2).below hb3)
  have HS0 := Lib.hid (hs2.keep (hb3.block _ (MapL.lt hs2)))
  have HM0 := Lib.hid hm3
  have HW0 : Hid (Below w.heap.size w ((w1.alloc (.map #[] 0)).alloc (.cells #[.map (some w1.heap.size)] 57))) := (hb1.trans (hb2.mono hb1.size)).trans (hb3.mono (Nat.le_trans hb1.size hb2.size))
  have HZ : Hid (w.heap.size ≤ q ∧ q < w1.heap.size ∧ w1.heap.size < (w1.alloc (.map #[] 0)).heap.size ∧ w.heap.size ≤ w1.heap.size) := ⟨HZ1.out.1, HZ1.out.2, hw2, hb1.size⟩
  go_upto_region 3 with fail
  clear hb1 hb2 hb3 hs2 hm3 hw2 hq1 HZ1 hmm
  generalize (w1.alloc (.map #[] 0)).alloc (.cells #[.map (some w1.heap.size)] 57) = V0 at HQ0 HS0 HM0 HW0 ⊢
  rw [World.size_alloc] at HM0 HZ
  generalize w1.heap.size = mk at HS0 HM0 HZ ⊢
  go_upto_region 4 with fail
  go_loopw [9, 18] (fun _ s wr => ∃ (k : Nat) (S : List Rf), s = .int .i64 k ∧ k ≤ nh ∧ Hid (ZM wr mk S) ∧ Hid (∀ r, r ∈ S ↔ r ∈ hs.take k ∧ r ∉ refsOf L ∧ r ∉ refsOf W) ∧ Hid (S.length ≤ k) ∧ Hid (∀ r ∈ hs.take k, isRef r = true) ∧ Hid (Chg (fun j => j = mk) V0 wr)) (fun _ s _ => nh - (intOf s).toNat)
  case atStart => exact ⟨0, [], rfl, by omega, HS0, Lib.hid (fun r => by simp), Lib.hid (by simp), Lib.hid (by simp), Lib.hid (Chg.refl _)⟩
  case round =>
    clear HS0
    obtain ⟨k, S, rfl, hk, HS, HM, HSL, HA, HC⟩ := hrel
    have HWr : Hid (Below w.heap.size w wr) := HW0.out.trans (HC.out.below HW0.out.size (fun k hk => by have := HZ.out; omega))
    have HQr := Lib.hid (HQ0.out.chg HC.out (by have := HZ.out; omega))
    have HMr := Lib.hid (HM0.out.chg HC.out (by have := HZ.out; omega))
    by_cases hlt : k < nh
    · obtain ⟨d, hd⟩ : ∃ d, hs[k]? = some d := ⟨_, List.getElem?_eq_getElem (by rw [HNH.out]; exact hlt)⟩
      have HDA : Hid (hs.take (k + 1) = hs.take k ++ [d]) := by show _ = _; rw [List.take_add_one, hd, Option.toList_some]
      have HDI : Hid (d ∈ hs) := List.mem_of_getElem? hd
      have HLT := Lib.hid hlt
      obtain ⟨bd, od, hA, hbl, hcd⟩ := (reads_below HRD.out HWr.out).at_ (by omega) (by omega)
      have p1 : wr.cell? ⟨bd, od + k * 2, none⟩ = some (.int .i64 d.1) := hcd _ _ (refC_at hd).1
      have p2 : wr.cell? ⟨bd, od + k * 2 + 1, none⟩ = some (.int .i64 d.2) := hcd _ _ (refC_at hd).2
      rw [hA]
      clear hcd hd hbl
      have hba : Below wr.heap.size wr (wr.alloc (.cells #[.int .i64 d.1, .int .i64 d.2] 25)) := (Below.refl _ wr).alloc (Nat.le_refl _) _
      have HSa := Lib.hid (HS.out.keep (hba.block _ (MapL.lt HS.out)))
      have HBa := Lib.hid (Blk.new wr 25 #[.int .i64 d.1, .int .i64 d.2])
      have HCa := Lib.hid (HC.out.alloc (.cells #[.int .i64 d.1, .int .i64 d.2] 25))
      have HWa : Hid (Below w.heap.size w (wr.alloc (.cells #[.int .i64 d.1, .int .i64 d.2] 25))) := HWr.out.alloc HWr.out.size _
      have HQa := Lib.hid (HQr.out.below hba)
      have HMa := Lib.hid (HMr.out.below hba)
      clear HS HC HWr HQr HMr hba
      go_upto_region 6 with fail
      generalize wr.alloc (.cells #[.int .i64 d.1, .int .i64 d.2] 25) = wa at HSa HBa HCa HWa HQa HMa ⊢
      generalize wr.heap.size = qa at HBa ⊢
      clear p1 p2
      have d1 : wa.cell? ⟨qa, 0, none⟩ = some (.int .i64 d.1) := HBa.out.cell 0
      have d2 : wa.cell? ⟨qa, 1, none⟩ = some (.int .i64 d.2) := HBa.out.cell 1
      have C1 := cref_any d wa
      unfold refV at C1
      obtain ⟨ok, hok⟩ : ∃ b, isRef d = b := ⟨_, rfl⟩
      have HOK := Lib.hid hok
      rw [hok] at C1
      clear hok
      go_wp2_with fail
      go_at_call 45
      refine C1.mono ?_
      rintro e w2 ⟨rfl, hb⟩
      have HS2 := Lib.hid (HSa.out.keep (hb.block _ (MapL.lt HSa.out)))
      have HB2 := Lib.hid (HBa.out.keep (hb.block _ HBa.out.lt))
      have HC2 : Hid (Chg (fun j => j = mk) V0 w2) := HCa.out.trans (Chg.of_below hb) fun _ _ h => h
      have HW2 : Hid (Below w.heap.size w w2) := HWa.out.trans (hb.mono HWa.out.size)
      have HQ2 := Lib.hid (HQa.out.below hb)
      have HM2 := Lib.hid (HMa.out.below hb)
      clear C1 d1 d2 hb HSa HBa HCa HWa HQa HMa
      cases ok with
      | false =>
        have HNA : Hid (¬ ∀ r ∈ hs, isRef r = true) := fun h => by have := h d HDI.out; rw [HOK.out] at this; cases this
        go_wp2_with fail
        go_ret2
        exact ⟨.inr ⟨HNA.out, rfl⟩, HW2.out⟩
      | true =>
        have d1 : w2.cell? ⟨qa, 0, none⟩ = some (.int .i64 d.1) := HB2.out.cell 0
        have d2 : w2.cell? ⟨qa, 1, none⟩ = some (.int .i64 d.2) := HB2.out.cell 1
        have C2 := look1_any X W S d.1 d.2 (isRef_i64 HOK.out) g bh bw bb q (mk + 1) mk w2 (HB.out.below HW2.out) HQ2.out.1 HQ2.out.2 HM2.out.1 HM2.out.2 HS2.out (by have := HSL.out; simp only [maxLen]; omega)
        rw [HLX.out] at C2
        go_wp2_with fail
        go_at_call 44
        refine C2.mono ?_
        rintro e w3 ⟨rfl, ⟨S', hs3, hm3, hl3⟩, hc3⟩
        have HS3 := Lib.hid hs3
        have HM3 : Hid (∀ r, r ∈ S' ↔ r ∈ hs.take (k + 1) ∧ r ∉ refsOf L ∧ r ∉ refsOf W) := by rw [HDA.out]; exact miss_step HM.out hm3
        have HC3 : Hid (Chg (fun j => j = mk) V0 w3) := HC2.out.trans hc3 fun _ _ h => h
        have HL3 : Hid (S'.length ≤ k + 1) := Nat.le_trans hl3 (Nat.succ_le_succ HSL.out)
        have HA3 : Hid (∀ r ∈ hs.take (k + 1), isRef r = true) := by
          rw [HDA.out]
          intro r hr
          rcases List.mem_append.1 hr with h | h
          · exact HA.out r h
          · rw [List.mem_singleton.1 h]; exact HOK.out
        clear C2 hs3 hm3 hl3 hc3 d1 d2 HM HA HSL HS2 HC2 HW2 HQ2 HM2 HB2
        go_wp2_with fail
        go_roundw
        case rel => exact ⟨k + 1, S', by go_num, by have := HLT.out; omega, HS3, HM3, HL3, HA3, HC3⟩
        case measure => have := HLT.out; simp [intOf]; omega
    · have HAll : Hid (∀ r ∈ hs, isRef r = true) := fun r hr => HA.out r (by rw [List.take_of_length_le (by rw [HNH.out]; omega)]; exact hr)
      have HM2 : Hid (∀ r, r ∈ S ↔ r ∈ hs ++ ([] : List ChD).flatMap ChD.deps ∧ r ∉ refsOf L ∧ r ∉ refsOf W) := fun r => by rw [HM.out r, List.take_of_length_le (by rw [HNH.out]; omega)]; simp
      have HSL2 : Hid (S.length ≤ 900000) := by have := HSL.out; have := HHL.out; show _ ≤ _; omega
      clear HM HA HSL
      obtain ⟨KL, hkl⟩ : ∃ K, W.map kvC = K := ⟨_, rfl⟩
      have HKL := Lib.hid hkl
      have HBr := Lib.hid (HB.out.below HWr.out)
      have q1 := HQr.out.1
      have g1 : wr.cell? ⟨g, 1, none⟩ = some (.map (some bw)) := HBr.out.blk.cell 1
      go_wp2_with (refine wpL_range _ rfl (.tmp 33) 57 rfl 25 34 Tryz.underlying57 bw (KL.map kv) rfl (by rw [← HKL.out]; exact HBr.out.mw.kv) ?_; intro w1 hI hb hs1)
      have HI : Hid (IterL w1 25 bw wr.heap.size (KL.map kv) (KL.map kv)) := hI
      have HS1 := Lib.hid (HS.out.keep (hb.block _ (MapL.lt HS.out)))
      have HC1 : Hid (Chg (fun j => j = mk) V0 w1) := HC.out.trans (Chg.of_below hb) fun _ _ h => h
      have HIT : Hid (V0.heap.size ≤ wr.heap.size ∧ mk < wr.heap.size ∧ q < wr.heap.size ∧ (mk + 1) < wr.heap.size ∧ bw < w.heap.size ∧ w.heap.size ≤ wr.heap.size) := ⟨HC.out.size, MapL.lt HS.out, HQr.out.2, HMr.out.2, MapL.lt HB.out.mw, HWr.out.size⟩
      clear q1 g1 hI hb hs1 HS HC HWr HQr HMr HBr hkl
      generalize wr.heap.size = it at HI HIT ⊢
      try simp only [Act.put, List.setIfInBounds_toArray, List.set_cons_zero, List.set_cons_succ]
      go_loopw [11, 13] (fun _ _ wr => ∃ (done : List ChD) (todo : List (Rf × Value)) (S : List Rf), Hid ((done.map kvC ++ todo).Perm KL) ∧ Hid (∀ c ∈ done, c ∈ W) ∧ Hid (IterL wr 25 bw it (KL.map kv) (todo.map kv)) ∧ Hid (ZM wr mk S) ∧ Hid (∀ r, r ∈ S ↔ r ∈ hs ++ done.flatMap ChD.deps ∧ r ∉ refsOf L ∧ r ∉ refsOf W) ∧ Hid (S.length ≤ 900000 + 12 * done.length) ∧ Hid (Chg (fun j => j = mk) V0 wr)) (fun _ _ wr => itLeft wr bw it)
      case atStart => exact ⟨[], KL, S, Lib.hid (List.Perm.refl _), (by intro c hc; cases hc), HI, HS1, HM2, HSL2, HC1⟩
      case round =>
        clear HI HS1 HM2 HSL2 HC1
        obtain ⟨done, todo, S, HP, HD, HI, HS, HM, HSL, HC⟩ := hrel
        have HWr : Hid (Below w.heap.size w wr) := HW0.out.trans (HC.out.below HW0.out.size (fun k hk => by have := HZ.out; omega))
        have HQr := Lib.hid (HQ0.out.chg HC.out (by have := HZ.out; omega))
        have HMr := Lib.hid (HM0.out.chg HC.out (by have := HZ.out; omega))
        have HDL : Hid (done.length + todo.length = W.length) := by
          have := HP.out.length_eq
          rw [List.length_append, List.length_map, ← HKL.out, List.length_map] at this
          exact this
        go_wp2_with (refine wpK_next _ rfl (.tmp 34) rfl bw it KL todo rfl HI.out ?_ ?_)
        · intro ht
          subst ht
          have HPD : Hid ((done.map kvC).Perm (W.map kvC)) := by show List.Perm _ _; rw [HKL.out]; have := HP.out; rw [List.append_nil] at this; exact this
          have HMD : Hid (∀ r, r ∈ S ↔ MissP L W hs r) := miss_done HD.out HPD.out HNW.out HM.out
          have HSM : Hid (S.length ≤ 1000000) := by have := HSL.out; have h2 := HDL.out; have := HLW.out; simp only [List.length_nil] at h2; show _ ≤ _; omega
          have HSN : Hid (S.Nodup) := HS.out.nodup
          have m1 := HMr.out.1
          have C2 := rising_any (S.map fun r => (r, zeroCh)) mk wr HS.out.kv (by rw [List.length_map]; exact HSM.out)
          rw [List.map_map, show (Prod.fst ∘ fun r : Rf => (r, zeroCh)) = id from rfl, List.map_id] at C2
          clear HP HD HPD HM HI HS HC HSL HDL HQr HMr
          go_wp2_with fail
          go_at_call 39
          refine C2.mono ?_
          rintro e w5 ⟨A, c, S0, rfl, hp, ha, hrow, hb⟩
          have HW5 : Hid (Below w.heap.size w w5) := HWr.out.trans (hb.mono HWr.out.size)
          have HR5 : Hid (Reads (fun k => k < w5.heap.size) w5 2 A S0.length (refC S0)) := row_reads hrow
          have HPP := Lib.hid hp
          have HAS := Lib.hid ha
          clear C2 hp ha hrow hb m1
          obtain ⟨n0, hn0⟩ : ∃ n, S0.length = n := ⟨_, rfl⟩
          have HN0 := Lib.hid hn0
          rw [hn0] at HR5 ⊢
          clear hn0
          go_wp2_with fail
          go_ret2
          exact ⟨.inl ⟨HAll.out, A, c, S0, by rw [HN0.out]; rfl, HAS.out, HPP.out.nodup_iff.2 HSN.out, fun r => by rw [HPP.out.mem_iff]; exact HMD.out r, by rw [HPP.out.length_eq]; exact HSM.out, by rw [HN0.out]; exact HR5.out⟩, HW5.out⟩
        · intro a1 a2 v todo' w2 hp hI2 hg2 hs2 hen
          obtain ⟨c, hc, hcx, hpm⟩ := iter_one (L := W) (done := done) (by rw [HKL.out]; exact HP.out) hp
          rw [HKL.out] at hpm
          obtain rfl : c.v = v := congrArg Prod.snd hcx
          obtain ⟨ea1, ea2⟩ : c.a = a1 ∧ c.s = a2 := ⟨congrArg (fun x => x.1.1) hcx, congrArg (fun x => x.1.2) hcx⟩
          subst ea1 ea2
          have HPM := Lib.hid hpm
          have HCL := Lib.hid hc
          have HTL : Hid (todo.length = todo'.length + 1) := by show _ = _; rw [hp.length_eq]; rfl
          have HLE : Hid (itLeft wr bw it = todo'.length + 1) := by show _ = _; rw [IterL.left HI.out, List.length_map, hp.length_eq]; rfl
          have HI2 : Hid (IterL w2 25 bw it (KL.map kv) (todo'.map kv)) := hI2
          have HS2 := Lib.hid (HS.out.keep (hg2.block _ (MapL.lt HS.out) (fun e => by have := HIT.out; have := Option.some.inj e; omega)))
          have HC2 := Lib.hid (HC.out.grown hg2 (fun q hq => by cases hq; exact .inr HIT.out.1))
          clear hp hI2 hg2 hs2 hc hcx hpm HI HS HC HP HWr HQr HMr
          unfold ChD.v at hen
          go_upto_region 13 with fail
          have hba : Below w2.heap.size w2 (w2.alloc (.cells #[.int .i64 c.a, .int .i64 c.s, .int .i64 c.st, .slice c.DA c.deps.length c.DC, .slice c.OA c.ops.length c.OC] 34)) := (Below.refl _ w2).alloc (Nat.le_refl _) _
          have HV := Lib.hid (Blk.new w2 34 #[.int .i64 c.a, .int .i64 c.s, .int .i64 c.st, .slice c.DA c.deps.length c.DC, .slice c.OA c.ops.length c.OC])
          have HS3 := Lib.hid (HS2.out.keep (hba.block _ (MapL.lt HS2.out)))
          have HI3 : Hid (IterL (w2.alloc (.cells #[.int .i64 c.a, .int .i64 c.s, .int .i64 c.st, .slice c.DA c.deps.length c.DC, .slice c.OA c.ops.length c.OC] 34)) 25 bw it (KL.map kv) (todo'.map kv)) := IterL.keep HI2.out (hba.block _ (MapL.lt (IterL.map HI2.out))) (hba.block _ (IterL.lt HI2.out))
          have HC3 := Lib.hid (HC2.out.alloc (.cells #[.int .i64 c.a, .int .i64 c.s, .int .i64 c.st, .slice c.DA c.deps.length c.DC, .slice c.OA c.ops.length c.OC] 34))
          clear HS2 HI2 HC2 hen hba
          generalize w2.alloc (.cells #[.int .i64 c.a, .int .i64 c.s, .int .i64 c.st, .slice c.DA c.deps.length c.DC, .slice c.OA c.ops.length c.OC] 34) = w3 at HV HS3 HI3 HC3 ⊢
          generalize w2.heap.size = q5 at HV ⊢
          obtain ⟨nd, hnd⟩ : ∃ n, c.deps.length = n := ⟨_, rfl⟩
          have HND := Lib.hid hnd
          have hdl : nd ≤ 12 := by rw [← hnd]; exact (err_ok (HE.out c HCL.out)).2.2.2
          have c3 : w3.cell? ⟨q5, 3, none⟩ = some (.slice c.DA nd c.DC) := by rw [← hnd]; exact HV.out.cell 3
          clear hnd
          rw [HND.out]
          go_upto_region 14 with fail
          clear c3 HV
          go_loopw [13, 42] (fun _ s wr => ∃ (k : Nat) (S' : List Rf), s = .int .i64 k ∧ k ≤ nd ∧ Hid (ZM wr mk S') ∧ Hid (∀ r, r ∈ S' ↔ r ∈ (hs ++ done.flatMap ChD.deps) ++ c.deps.take k ∧ r ∉ refsOf L ∧ r ∉ refsOf W) ∧ Hid (S'.length ≤ 900000 + 12 * done.length + k) ∧ Hid (IterL wr 25 bw it (KL.map kv) (todo'.map kv)) ∧ Hid (Chg (fun j => j = mk) V0 wr)) (fun _ s _ => nd - (intOf s).toNat)
          case atStart => exact ⟨0, S, rfl, by omega, HS3, Lib.hid (fun r => by rw [List.take_zero, List.append_nil]; exact HM.out r), HSL, HI3, HC3⟩
          case round =>
            clear HS3 HI3 HC3
            obtain ⟨k, S', rfl, hk, HS, HM2, HSL2, HI, HC⟩ := hrel
            have HWr : Hid (Below w.heap.size w wr) := HW0.out.trans (HC.out.below HW0.out.size (fun k hk => by have := HZ.out; omega))
            have HQr := Lib.hid (HQ0.out.chg HC.out (by have := HZ.out; omega))
            have HMr := Lib.hid (HM0.out.chg HC.out (by have := HZ.out; omega))
            by_cases hlt : k < nd
            · obtain ⟨d, hd⟩ : ∃ d, c.deps[k]? = some d := ⟨_, List.getElem?_eq_getElem (by rw [HND.out]; exact hlt)⟩
              obtain ⟨bd, od, hA, hbl, hcd⟩ := (reads_below (HIN.out c HCL.out).hd HWr.out).at_ (by rw [HND.out]; omega) (by omega)
              have p1 : wr.cell? ⟨bd, od + k * 2, none⟩ = some (.int .i64 d.1) := hcd _ _ (refC_at hd).1
              have p2 : wr.cell? ⟨bd, od + k * 2 + 1, none⟩ = some (.int .i64 d.2) := hcd _ _ (refC_at hd).2
              have HDI : Hid (I64R d) := err_deps (HE.out c HCL.out) d (List.mem_of_getElem? hd)
              have HTK : Hid (c.deps.take (k + 1) = c.deps.take k ++ [d]) := by show _ = _; rw [List.take_add_one, hd, Option.toList_some]
              have HLT := Lib.hid hlt
              have HOX := Lib.hid hA
              rw [hA]
              clear hA hbl hcd hd
              have hba : Below wr.heap.size wr (wr.alloc (.cells #[.int .i64 d.1, .int .i64 d.2] 25)) := (Below.refl _ wr).alloc (Nat.le_refl _) _
              have HS4 := Lib.hid (HS.out.keep (hba.block _ (MapL.lt HS.out)))
              have HB4 := Lib.hid (Blk.new wr 25 #[.int .i64 d.1, .int .i64 d.2])
              have HI4 : Hid (IterL (wr.alloc (.cells #[.int .i64 d.1, .int .i64 d.2] 25)) 25 bw it (KL.map kv) (todo'.map kv)) := IterL.keep HI.out (hba.block _ (MapL.lt (IterL.map HI.out))) (hba.block _ (IterL.lt HI.out))
              have HC4 := Lib.hid (HC.out.alloc (.cells #[.int .i64 d.1, .int .i64 d.2] 25))
              have HQ4 := Lib.hid (HQr.out.below hba)
              have HM4 := Lib.hid (HMr.out.below hba)
              have HW4 : Hid (Below w.heap.size w (wr.alloc (.cells #[.int .i64 d.1, .int .i64 d.2] 25))) := HWr.out.alloc HWr.out.size _
              clear HS HI HC HQr HMr HWr hba
              go_upto_region 16 with fail
              clear p1 p2
              generalize wr.alloc (.cells #[.int .i64 d.1, .int .i64 d.2] 25) = w4 at HB4 HS4 HI4 HC4 HQ4 HM4 HW4 ⊢
              generalize wr.heap.size = q7 at HB4 ⊢
              have d1 : w4.cell? ⟨q7, 0, none⟩ = some (.int .i64 d.1) := HB4.out.cell 0
              have d2 : w4.cell? ⟨q7, 1, none⟩ = some (.int .i64 d.2) := HB4.out.cell 1
              have C2 := look1_any X W S' d.1 d.2 HDI.out g bh bw bb q (mk + 1) mk w4 (HB.out.below HW4.out) HQ4.out.1 HQ4.out.2 HM4.out.1 HM4.out.2 HS4.out (by have := HSL2.out; have := HDL.out; have := HLW.out; simp only [maxLen]; omega)
              rw [HLX.out] at C2
              go_wp2_with fail
              go_at_call 44
              refine C2.mono ?_
              rintro e w5 ⟨rfl, ⟨S2, hs5, hm5, hl5⟩, hc5⟩
              have HS5 := Lib.hid hs5
              have HM5 : Hid (∀ r, r ∈ S2 ↔ r ∈ (hs ++ done.flatMap ChD.deps) ++ c.deps.take (k + 1) ∧ r ∉ refsOf L ∧ r ∉ refsOf W) := by rw [HTK.out, ← List.append_assoc]; exact miss_step HM2.out hm5
              have HC5 : Hid (Chg (fun j => j = mk) V0 w5) := HC4.out.trans hc5 fun _ _ h => h
              have HL5 : Hid (S2.length ≤ 900000 + 12 * done.length + (k + 1)) := Nat.le_trans hl5 (Nat.succ_le_succ HSL2.out)
              have HI5 : Hid (IterL w5 25 bw it (KL.map kv) (todo'.map kv)) := IterL.keep HI4.out (hc5.block _ (MapL.lt (IterL.map HI4.out)) (fun e => by have := HIT.out; have := HZ.out; omega)) (hc5.block _ (IterL.lt HI4.out) (fun e => by have := HIT.out; omega))
              clear C2 hs5 hm5 hl5 hc5 d1 d2 HM2 HSL2 HS4 HI4 HC4 HQ4 HM4 HW4 HB4
              go_wp2_with fail
              go_roundw
              case rel => exact ⟨k + 1, S2, by go_num, by have := HLT.out; omega, HS5, HM5, HL5, HI5, HC5⟩
              case measure => have := HLT.out; simp [intOf]; omega
            · have HD2 : Hid (∀ c' ∈ done ++ [c], c' ∈ W) := fun c' hc' => by
                rcases List.mem_append.1 hc' with h | h
                · exact HD.out c' h
                · rw [List.mem_singleton.1 h]; exact HCL.out
              have HM3 : Hid (∀ r, r ∈ S' ↔ r ∈ hs ++ (done ++ [c]).flatMap ChD.deps ∧ r ∉ refsOf L ∧ r ∉ refsOf W) := fun r => by
                rw [HM2.out r, List.take_of_length_le (by rw [HND.out]; omega), flat_snoc, List.append_assoc]
              have HL3 : Hid (S'.length ≤ 900000 + 12 * (done ++ [c]).length) := by have := HSL2.out; rw [List.length_append, List.length_singleton]; show _ ≤ _; omega
              have HLM : Hid (itLeft wr bw it = todo'.length) := by show _ = _; rw [IterL.left HI.out, List.length_map]
              clear HM2 HM HD HSL2 HQr HMr
              go_wp2_with fail
              go_roundw
              case rel => exact ⟨done ++ [c], todo', S', HPM, HD2, HI, HS, HM3, HL3, HC⟩
              case measure => show itLeft wr bw it < itLeft _ bw it; rw [HLM.out, HLE.out]; omega
end Go.Proofs.YtclgfcjcpbiadaaGreatDoor
