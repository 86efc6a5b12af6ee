/- Contracts of the document's books: Behind. -/
import Derived.Test.YtclgfcjcpbiadaaGreatDoorSRef2
import Derived.Test.YtclgfcjcpbiadaaGreatDoorM1
import Derived.Test.YtclgfcjcpbiadaaGreatDoorOpenC
set_option linter.unusedVariables false
set_option linter.unusedSimpArgs false
namespace Go.Proofs.YtclgfcjcpbiadaaGreatDoor
open Go.ChangeShapes Go.WideShapes Go.ChangeAt Go.RowKit

theorem putR_mem {l : List Rf} {r x : Rf} : x ∈ putR l r ↔ x ∈ l ∨ x = r := by
  unfold putR
  split
  · rename_i h
    constructor
    · exact .inl
    · rintro (h' | rfl)
      · exact h'
      · exact h
  · rw [List.mem_append, List.mem_cons]
    have := List.takeWhile_append_dropWhile (p := fun x => aheadR x r) (l := l)
    constructor
    · rintro (h | h | h)
      · exact .inl (by rw [← this]; exact List.mem_append_left _ h)
      · exact .inr h
      · exact .inl (by rw [← this]; exact List.mem_append_right _ h)
    · rintro (h | h)
      · rw [← this] at h
        rcases List.mem_append.1 h with h | h
        · exact .inl h
        · exact .inr (.inr h)
      · exact .inr (.inl h)
theorem putR_len {l : List Rf} {r : Rf} (h : r ∉ l) : (putR l r).length = l.length + 1 := by
  unfold putR
  rw [if_neg h, List.length_append, List.length_cons]
  have := congrArg List.length (List.takeWhile_append_dropWhile (p := fun x => aheadR x r) (l := l))
  rw [List.length_append] at this
  omega
theorem takeWhile_all {α : Type} {p : α → Bool} {l : List α} {x : α} (h : x ∈ l.takeWhile p) : p x = true := by
  induction l with
  | nil => cases h
  | cons a l ih =>
    rw [List.takeWhile_cons] at h
    split at h
    · rename_i ha
      rcases List.mem_cons.1 h with rfl | h
      · exact ha
      · exact ih h
    · cases h
theorem putR_asc {l : List Rf} {r : Rf} (h : AscR l) : AscR (putR l r) := by
  unfold putR
  split
  · exact h
  · rename_i hm
    have hs := List.takeWhile_append_dropWhile (p := fun x => aheadR x r) (l := l)
    have h1 : AscR (l.takeWhile (fun x => aheadR x r)) := h.sublist (List.takeWhile_sublist _)
    have h2 : AscR (l.dropWhile (fun x => aheadR x r)) := h.sublist (List.dropWhile_sublist _)
    have h3 : ∀ x ∈ l.dropWhile (fun x => aheadR x r), aheadR r x = true := by
      intro x hx
      cases hd : l.dropWhile (fun x => aheadR x r) with
      | nil => rw [hd] at hx; cases hx
      | cons a t =>
        have ha : aheadR a r = false := by
          have := List.head_dropWhile_not (fun x => aheadR x r) (l := l) (by rw [hd]; simp)
          simp only [hd, List.head_cons] at this
          simpa using this
        have hal : a ∈ l := by rw [← hs, hd]; simp
        have hra : aheadR r a = true := by
          rcases aheadR_total (a := a) (b := r) (fun e => hm (e ▸ hal)) with h | h
          · rw [ha] at h; cases h
          · exact h
        rw [hd] at hx h2
        rcases List.mem_cons.1 hx with rfl | hx
        · exact hra
        · exact aheadR_trans hra ((List.pairwise_cons.1 h2).1 x hx)
    rw [AscR, List.pairwise_append]
    refine ⟨h1, List.pairwise_cons.2 ⟨h3, h2⟩, fun a ha b hb => ?_⟩
    have har : aheadR a r = true := takeWhile_all (p := fun x => aheadR x r) ha
    rcases List.mem_cons.1 hb with rfl | hb
    · exact har
    · exact aheadR_trans har (h3 b hb)
theorem AscR.nodup {l : List Rf} (h : AscR l) : l.Nodup := h.imp fun h e => by rw [e, aheadR_irrefl] at h; cases h
theorem nodup_le {l m : List Rf} (hn : l.Nodup) (hs : ∀ x ∈ l, x ∈ m) : l.length ≤ m.length := by
  induction l generalizing m with
  | nil => simp
  | cons a l ih =>
    obtain ⟨h1, h2⟩ := List.nodup_cons.1 hn
    obtain ⟨p, q, rfl⟩ := List.append_of_mem (hs a (by simp))
    have := ih (m := p ++ q) h2 (fun x hx => by
      have h := hs x (by simp [hx])
      rcases List.mem_append.1 h with h | h
      · exact List.mem_append_left _ h
      · rcases List.mem_cons.1 h with rfl | h
        · exact absurd hx h1
        · exact List.mem_append_right _ h)
    simp only [List.length_append, List.length_cons] at this ⊢
    omega
/-- the search under way -/
structure BI (L : List ChD) (hs todo out : List Rf) (k : Nat) : Prop where
  asc : AscR out
  sub : ∀ r ∈ out, r ∈ behindP L hs
  tod : ∀ r ∈ todo, r ∈ refsOf L → r ∈ behindP L hs
  hds : ∀ r ∈ hs, r ∈ todo
  don : ∀ j, j < k → ∀ r, todo[j]? = some r → r ∈ out ∨ r ∉ refsOf L
  cls : ∀ c ∈ L, c.rf ∈ out → ∀ d ∈ c.deps, d ∈ todo
  len : todo.length ≤ hs.length + 12 * out.length
  kl : k ≤ todo.length
theorem BI.start (L : List ChD) (hs : List Rf) : BI L hs hs [] 0 :=
  ⟨by simp [AscR], by simp, fun r hr hm => behind_head hr hm, fun r hr => hr, fun j hj => by omega, by simp, by simp, by omega⟩
theorem BI.outlen {L : List ChD} {hs todo out : List Rf} {k : Nat} (h : BI L hs todo out k) : out.length ≤ L.length := by
  have := nodup_le h.asc.nodup (m := refsOf L) (fun x hx => behind_sub (h.sub x hx))
  simpa [refsOf] using this
theorem BI.skip {L : List ChD} {hs todo out : List Rf} {k : Nat} (h : BI L hs todo out k) {x : Rf} (hx : todo[k]? = some x) (hm : x ∈ out ∨ x ∉ refsOf L) : BI L hs todo out (k + 1) :=
  { h with
    don := fun j hj r hr => by
      by_cases e : j = k
      · subst e; rw [hx] at hr; cases hr; exact hm
      · exact h.don j (by omega) r hr
    kl := (List.getElem?_eq_some_iff.1 hx).1 }
theorem BI.put {L : List ChD} (ht : TopR L.reverse) {hs todo out : List Rf} {k : Nat} (h : BI L hs todo out k) {c : ChD} (hx : todo[k]? = some c.rf) (hc : c ∈ L) (hn : (refsOf L).Nodup) (hm : c.rf ∉ out) (hd : c.deps.length ≤ 12) :
    BI L hs (todo ++ c.deps) (putR out c.rf) (k + 1) := by
  have hkl := (List.getElem?_eq_some_iff.1 hx).1
  have hb : c.rf ∈ behindP L hs := h.tod _ (List.mem_of_getElem? hx) (mem_refs hc)
  refine ⟨putR_asc h.asc, fun r hr => ?_, fun r hr hm => ?_, fun r hr => List.mem_append_left _ (h.hds r hr), fun j hj r hr => ?_, fun b hbL hbo d hd => ?_, ?_, ?_⟩
  · rcases putR_mem.1 hr with hr | rfl
    · exact h.sub r hr
    · exact hb
  · rcases List.mem_append.1 hr with hr | hr
    · exact h.tod r hr hm
    · exact back_closed ht (List.mem_reverse.2 hc) hb hr
  · rw [List.getElem?_append_left (by omega)] at hr
    by_cases e : j = k
    · subst e; rw [hx] at hr; cases hr; exact .inl (putR_mem.2 (.inr rfl))
    · rcases h.don j (by omega) r hr with h | h
      · exact .inl (putR_mem.2 (.inl h))
      · exact .inr h
  · rcases putR_mem.1 hbo with hbo | hbo
    · exact List.mem_append_left _ (h.cls b hbL hbo d hd)
    · have : b = c := by
        rw [refsOf, List.Nodup, List.pairwise_map] at hn
        by_cases e : b = c
        · exact e
        · exact absurd hbo (by
            have h2 : ∀ {l : List ChD}, l.Pairwise (fun x y => x.rf ≠ y.rf) → b ∈ l → c ∈ l → b.rf ≠ c.rf := by
              intro l
              induction l with
              | nil => intro _ h; cases h
              | cons a l ih =>
                intro hp hb hc
                obtain ⟨h1, h2⟩ := List.pairwise_cons.1 hp
                rcases List.mem_cons.1 hb with e1 | hb
                · rcases List.mem_cons.1 hc with e2 | hc
                  · exact absurd (e1.trans e2.symm) e
                  · rw [e1]; exact h1 c hc
                · rcases List.mem_cons.1 hc with e2 | hc
                  · rw [e2]; exact (h1 b hb).symm
                  · exact ih h2 hb hc
            exact h2 hn hbL hc)
      rw [this] at hd
      exact List.mem_append_right _ hd
  · rw [putR_len hm, List.length_append]; have := h.len; omega
  · rw [List.length_append]; omega
theorem BI.done {L : List ChD} {hs todo out : List Rf} (h : BI L hs todo out todo.length) : ∀ r, r ∈ out ↔ r ∈ behindP L hs := by
  have hall : ∀ r ∈ todo, r ∈ refsOf L → r ∈ out := fun r hr hm => by
    obtain ⟨j, hj⟩ := List.getElem?_of_mem hr
    rcases h.don j (List.getElem?_eq_some_iff.1 hj).1 r hj with h | h
    · exact h
    · exact absurd hm h
  intro r
  refine ⟨h.sub r, fun hr => ?_⟩
  refine back_least (fun r => r ∈ out) (fun r hr hm => hall r (h.hds r hr) ?_) (fun c hc hs d hd hm => hall d (h.cls c (List.mem_reverse.1 hc) hs d hd) ?_) r hr
  · rw [refsOf_reverse] at hm; exact List.mem_reverse.1 hm
  · rw [refsOf_reverse] at hm; exact List.mem_reverse.1 hm
/-- a change's rows lie in D -/
structure ChIn (D : Nat → Prop) (w : World) (c : ChD) : Prop where
  hd : Reads D w 2 c.DA c.deps.length (refC c.deps)
  hdl : c.deps.length ≤ 9223372036854775807
  ho : Reads D w 13 c.OA c.ops.length (opsC c.ops)
  hol : c.ops.length ≤ 9223372036854775807
  hp : ∀ o ∈ c.ops, Reads D w 2 o.A o.l.length (refC o.l) ∧ o.l.length ≤ 9223372036854775807
theorem ChIn.keep {D : Nat → Prop} {w w' : World} {c : ChD} (h : ChIn D w c) (hk : Keeps D w w') : ChIn D w' c :=
  ⟨h.hd.keep hk, h.hdl, h.ho.keep hk, h.hol, fun o ho => ⟨(h.hp o ho).1.keep hk, (h.hp o ho).2⟩⟩
theorem ChIn.chm {D : Nat → Prop} {w : World} {c : ChD} (h : ChIn D w c) (hD : ∀ k, D k → k < w.heap.size) : ChM w c.deps c.DA c.ops c.OA :=
  ⟨h.hd.more hD, h.hdl, h.ho.more hD, h.hol, fun o ho => ⟨(h.hp o ho).1.more hD, (h.hp o ho).2⟩⟩
theorem ChIn.more {D D' : Nat → Prop} {w : World} {c : ChD} (h : ChIn D w c) (hD : ∀ k, D k → D' k) : ChIn D' w c :=
  ⟨h.hd.more hD, h.hdl, h.ho.more hD, h.hol, fun o ho => ⟨(h.hp o ho).1.more hD, (h.hp o ho).2⟩⟩
/-- a row of changes, and theirs -/
structure ChsIn (D : Nat → Prop) (w : World) (A : Option Addr) (L : List ChD) : Prop where
  row : Reads D w 5 A L.length (chsC L)
  each : ∀ c ∈ L, ChIn D w c
theorem ChsIn.keep {D : Nat → Prop} {w w' : World} {A : Option Addr} {L : List ChD} (h : ChsIn D w A L) (hk : Keeps D w w') : ChsIn D w' A L :=
  ⟨h.row.keep hk, fun c hc => (h.each c hc).keep hk⟩
theorem ChsIn.below {w w' : World} {A : Option Addr} {L : List ChD} (h : ChsIn (fun k => k < w.heap.size) w A L) (hb : Below w.heap.size w w') : ChsIn (fun k => k < w'.heap.size) w' A L :=
  ⟨reads_below h.row hb, fun c hc => ((h.each c hc).keep fun k hk => hb.block k hk).more fun _ hk => Nat.lt_of_lt_of_le hk hb.size⟩
set_option maxHeartbeats 8000000 in
set_option maxRecDepth 20000 in
theorem sBehind_any (L : List ChD) (hs : List Rf) (A : Option Addr) (c : Nat) (H : Option Addr) (hc : Nat) (w : World) (hL : ChsIn (fun k => k < w.heap.size) w A L) (hr : Reads (fun k => k < w.heap.size) w 2 H hs.length (refC hs))
    (ht : TopR L.reverse) (hn : (refsOf L).Nodup) (hd : ∀ c ∈ L, c.deps.length ≤ 12) (hl : L.length ≤ 120) (hhl : hs.length ≤ 100000000) :
    Calls Tryz.prog 15 #[.slice A L.length c, .slice H hs.length hc] w fun e w' => ∃ v out, e = .returned v ∧ w'.ownsRow w.heap.size 25 2 v out.length (refC out) ∧ AscR out ∧ (∀ r, r ∈ out ↔ r ∈ behindP L hs) ∧ out.length ≤ 120 ∧ Below w.heap.size w w' := by
  obtain ⟨nh, hnh⟩ : ∃ n, hs.length = n := ⟨_, rfl⟩
  obtain ⟨n, hnn⟩ : ∃ n, L.length = n := ⟨_, rfl⟩
  have HNH := Lib.hid hnh
  have HN := Lib.hid hnn
  have HL := Lib.hid hL
  have HT := Lib.hid ht
  have HD := Lib.hid hd
  have HND := Lib.hid hn
  have HLL := Lib.hid hl
  rw [hnh] at hhl hr ⊢
  rw [hnn] at hl ⊢
  have HR := Lib.hid hr
  clear hr hL ht hd hn hnh hnn
  obtain ⟨i0, hi, hz0, hz1, hz2⟩ := info_parts infoRef
  go_enter Tryz.func15, Tryz.ntmps15
  go_wp2_with (at_builtin; refine wpList_append_any _ rfl (.tmp 10) (.tmp 11) _ rfl (w.heap.size) 25 i0 _ 2 16 Tryz.underlying23 hi hz0 hz1 hz2 rfl (by omega) (.slice none 0 0) (0) (refC []) rfl (own_nil _ _ _ _) _ (H) (nh) (hc) (refC hs) rfl (HR.out) (refC_one _) ?c1 ?c2 ?c3 ?_)
  try case c1 => simp only [maxLen]; omega
  try case c2 => omega
  try case c3 => exact Nat.le_refl _
  intro v1 w1 ho1 hg1 _
  have HB1 : Hid (Below w.heap.size w w1) := (Below.refl _ w).grown hg1 (Nat.le_refl _) (fun g e => by cases e)
  have HO1 : Hid (w1.ownsRow w.heap.size 25 2 v1 hs.length (refC hs)) := by show w1.ownsRow _ _ _ _ _ _; rw [HNH.out]; simpa [refC] using ho1
  clear ho1 hg1 HR
  go_wp2_with fail
  go_loopw [5, 6, 7, 8, 9] (fun s5 s6 s7 _ _ wr => ∃ (k : Nat) (todo out : List Rf), s7 = .int .i64 k ∧ Hid (BI L hs todo out k) ∧ Hid (wr.ownsRow w.heap.size 25 2 s5 out.length (refC out)) ∧ Hid (wr.ownsRow w.heap.size 25 2 s6 todo.length (refC todo)) ∧
      Hid (∀ g, s5.ownBlock = some g → s6.ownBlock ≠ some g) ∧ Hid (Below w.heap.size w wr)) (fun _ _ s7 _ _ _ => nh + 1440 - (intOf s7).toNat)
  case atStart => exact ⟨0, hs, [], rfl, BI.start L hs, own_nil _ _ _ _, HO1.out, (by show ∀ g, _ → _; intro g e; cases e), HB1.out⟩
  case round =>
    obtain ⟨k, todo, out, rfl, HI, HO, HTD, HNE, HB⟩ := hrel
    obtain ⟨Ao, co, rfl, hco1, hco2, hro⟩ := Reads.of_own HO.out
    obtain ⟨At, ct, rfl, hct1, hct2, hrt⟩ := Reads.of_own HTD.out
    have hol : out.length ≤ 120 := Nat.le_trans HI.out.outlen HLL.out
    have htl : todo.length ≤ nh + 1440 := by have := HI.out.len; have := HNH.out; omega
    have hkt := HI.out.kl
    have HRO := Lib.hid (hro.more (fun k hk => (own_lt HO.out hk).2))
    have HRT := Lib.hid (hrt.more (fun k hk => (own_lt HTD.out hk).2))
    have H1 := fun W (r : Rf) h1 h2 => sHas_any out r (fun k => k < W.heap.size) Ao co W h1 (fun _ h => h) h2
    have H2 := fun W (r : Rf) h1 h2 => sfind_any L r (fun k => k < W.heap.size) A c W h1 (fun _ h => h) h2
    have H3 := fun W (r : Rf) h1 h2 h3 => sPut_any out r w.heap.size (.slice Ao out.length co) W h1 h2 h3
    obtain ⟨no, hno⟩ : ∃ no, out.length = no := ⟨_, rfl⟩
    obtain ⟨m, hm⟩ : ∃ m, todo.length = m := ⟨_, rfl⟩
    have HNO := Lib.hid hno
    have HM := Lib.hid hm
    rw [hno] at H1 H3 hol hco1 HRO HNE ⊢
    rw [hm] at htl hkt hct1 HRT HNE ⊢
    rw [HN.out] at H2
    clear hro hrt hno hm
    by_cases hlt : k < m
    · obtain ⟨b1, o1, rfl, -, hc1⟩ := HRT.out.at_ (by omega) (by omega)
      obtain ⟨x, hx⟩ : ∃ x, todo[k]? = some x := ⟨_, List.getElem?_eq_getElem (by rw [HM.out]; exact hlt)⟩
      have x1 : wr.cell? ⟨b1, o1 + k * 2, none⟩ = some (.int .i64 x.1) := hc1 _ _ (refC_at hx).1
      have x2 : wr.cell? ⟨b1, o1 + k * 2 + 1, none⟩ = some (.int .i64 x.2) := hc1 _ _ (refC_at hx).2
      have HX := Lib.hid hx
      replace H1 := H1 wr x HRO.out (by omega)
      clear hc1 hx
      go_wp2_with fail
      go_at_call 10
      refine H1.mono ?_
      rintro e w2 ⟨rfl, hb⟩
      have HW2 := Lib.hid hb
      have hrt2 := (reads_below HRT.out hb)
      obtain ⟨b2, o2, e2, -, hc1⟩ := hrt2.at_ (by omega) (by omega)
      simp only [Option.some.injEq, Addr.mk.injEq, and_true] at e2
      obtain ⟨rfl, rfl⟩ := e2
      have y1 : w2.cell? ⟨b1, o1 + k * 2, none⟩ = some (.int .i64 x.1) := hc1 _ _ (refC_at HX.out).1
      have y2 : w2.cell? ⟨b1, o1 + k * 2 + 1, none⟩ = some (.int .i64 x.2) := hc1 _ _ (refC_at HX.out).2
      have HL2 := Lib.hid (HL.out.below (HB.out.trans (hb.mono HB.out.size)))
      replace H2 := H2 w2 x (by rw [← HN.out]; exact HL2.out.row) (by omega)
      clear hb H1 x1 x2 hrt2 hc1
      go_wp2_with fail
      go_at_call 27
      refine H2.mono ?_
      rintro e w3 ⟨i, rfl, hfi, hb⟩
      have HW3 : Hid (Below wr.heap.size wr w3) := HW2.out.trans (hb.mono HW2.out.size)
      have HFI := Lib.hid hfi
      clear hb H2 y1 y2 HL2 hfi HW2
      have HB3 : Hid (Below w.heap.size w w3) := HB.out.trans (HW3.out.mono HB.out.size)
      have HO3 := Lib.hid (own_below HO.out HW3.out)
      have HTD3 := Lib.hid (own_below HTD.out HW3.out)
      rw [HNO.out] at HO3
      rw [HM.out] at HTD3
      by_cases hxo : x ∈ out
      · have e1 : decide (x ∈ out) = true := decide_eq_true hxo
        have HI2 := Lib.hid (HI.out.skip HX.out (.inl hxo))
        rw [e1]
        clear e1 hxo H3
        go_wp2_with fail
        go_roundw
        case rel => exact ⟨k + 1, todo, out, by go_num, HI2, by rw [HNO.out]; exact HO3, by rw [HM.out]; exact HTD3, HNE, HB3⟩
        case measure => simp [intOf]; omega
      · have e1 : decide (x ∈ out) = false := decide_eq_false hxo
        rw [e1]
        rcases HFI.out with ⟨rfl, hno⟩ | ⟨j, y, rfl, hyj, hfc⟩
        · have HI2 := Lib.hid (HI.out.skip HX.out (.inr hno))
          clear e1 hxo H3 hno
          go_wp2_with fail
          go_roundw
          case rel => exact ⟨k + 1, todo, out, by go_num, HI2, by rw [HNO.out]; exact HO3, by rw [HM.out]; exact HTD3, HNE, HB3⟩
          case measure => simp [intOf]; omega
        · obtain ⟨hyL, hyr⟩ := findC_some hfc
          subst hyr
          have HY := Lib.hid hyL
          have HYJ := Lib.hid hyj
          have hjn : j < n := by rw [← HN.out]; exact (List.getElem?_eq_some_iff.1 hyj).1
          have HI2 := Lib.hid (HI.out.put HT.out HX.out hyL HND.out hxo (HD.out y hyL))
          have hrt3 := reads_below HRT.out HW3.out
          obtain ⟨b2, o2, e2, -, hc1⟩ := hrt3.at_ (by omega) (by omega)
          simp only [Option.some.injEq, Addr.mk.injEq, and_true] at e2
          obtain ⟨rfl, rfl⟩ := e2
          have y1 : w3.cell? ⟨b1, o1 + k * 2, none⟩ = some (.int .i64 y.rf.1) := hc1 _ _ (refC_at HX.out).1
          have y2 : w3.cell? ⟨b1, o1 + k * 2 + 1, none⟩ = some (.int .i64 y.rf.2) := hc1 _ _ (refC_at HX.out).2
          replace H3 := H3 w3 y.rf (by first | exact HO3.out | (rw [HNO.out]; exact HO3.out)) (by omega) HB3.out.size
          have HXO := Lib.hid hxo
          clear e1 hxo hc1 hrt3 hfc hyL hyj
          go_wp2_with fail
          go_at_call 40
          refine H3.mono ?_
          rintro e w4 ⟨v4, rfl, ho4, hb4, hor⟩
          have HB4 : Hid (Below w.heap.size w w4) := HB3.out.trans (hb4.mono HB3.out.size)
          have ho4' := hor.resolve_left HXO.out
          have HO4 := Lib.hid ho4
          have HTD4 := Lib.hid (own_below HTD3.out hb4)
          have HNE4 : Hid (∀ g, v4.ownBlock = some g → (Value.slice (some ⟨b1, o1, none⟩) m ct).ownBlock ≠ some g) := by
            intro g hg e
            have h1 := (own_lt ho4' hg).1
            have h2 := (own_lt HTD3.out e).2
            omega
          have HL4 := Lib.hid (HL.out.below HB4.out)
          have hLy := HL4.out.each y HY.out
          obtain ⟨b3, o3, hA3, -, hc3⟩ := HL4.out.row.at_ (by rw [HN.out]; omega) (by omega)
          subst hA3
          have y3 : w4.cell? ⟨b3, o3 + j * 5 + 3, none⟩ = some (.slice y.DA y.deps.length y.DC) := by
            have := hc3 _ _ (chsC_at HYJ.out 3 (by omega))
            rw [← Nat.add_assoc] at this
            exact this
          have HRD := Lib.hid hLy.hd
          have hdl := HD.out y HY.out
          have hb4s : w.heap.size ≤ w4.heap.size := HB4.out.size
          clear hb4 hor ho4 ho4' H3 y1 y2 hc3 hLy HB3 HL4
          go_wp2_with (at_builtin; refine wpList_append_any _ rfl (.tmp 42) (.tmp 47) _ rfl (w.heap.size) 25 i0 _ 2 16 Tryz.underlying23 hi hz0 hz1 hz2 rfl (by omega) (.slice (some ⟨b1, o1, none⟩) m ct) (m) (refC todo) rfl (HTD4.out) _ (y.DA) (y.deps.length) (y.DC) (refC y.deps) rfl (HRD.out) (refC_one _) ?c1 ?c2 ?c3 ?_)
          try case c1 => simp only [maxLen]; omega
          try case c2 => omega
          try case c3 => exact hb4s
          intro v5 w5 ho5 hg5 hat5
          have HB5 : Hid (Below w.heap.size w w5) := HB4.out.grown hg5 HB4.out.size (fun g hg => (own_lt HTD4.out hg).1)
          have HO5 : Hid (w5.ownsRow w.heap.size 25 2 v4 (putR out y.rf).length (refC (putR out y.rf))) := own_keep HO4.out fun g hg => hg5.block g (own_lt HO4.out hg).2 (fun e => HNE4.out g hg e.symm)
          have HT5 : Hid (w5.ownsRow w.heap.size 25 2 v5 (todo ++ y.deps).length (refC (todo ++ y.deps))) := by
            show w5.ownsRow _ _ _ _ _ _
            rw [List.length_append, HM.out, refC_append]; exact ho5
          have HNE5 : Hid (∀ g, v4.ownBlock = some g → v5.ownBlock ≠ some g) := by
            intro g hg e
            rcases hat5 with h | h
            · exact HNE4.out g hg (h ▸ e)
            · rw [h] at e
              have := (own_lt HO4.out hg).2
              simp only [Option.some.injEq] at e
              omega
          clear ho5 hg5 hat5 HO4 HTD4 HNE4 HRD y3 HTD3 HO3 HB4
          go_wp2_with fail
          go_roundw
          case rel => exact ⟨k + 1, todo ++ y.deps, putR out y.rf, by go_num, HI2, HO5, HT5, HNE5, HB5⟩
          case measure => simp [intOf]; omega
    · have hkm : k = m := by omega
      have HF : Hid (AscR out ∧ (∀ r, r ∈ out ↔ r ∈ behindP L hs)) := ⟨HI.out.asc, BI.done (by have := HI.out; rwa [hkm, ← HM.out] at this)⟩
      clear H1 H2 H3
      go_wp2_with fail
      go_ret
      exact ⟨_, out, rfl, by have := HO.out; rwa [HNO.out] at this ⊢, HF.out.1, HF.out.2, by rw [HNO.out]; exact hol, HB.out⟩
end Go.Proofs.YtclgfcjcpbiadaaGreatDoor

namespace Go.Proofs.YtclgfcjcpbiadaaGreatDoor
open Go.ChangeShapes Go.WideShapes Go.ChangeAt Go.RowKit Go.Deep
set_option maxRecDepth 100000
section
variable {H : Type} {enc : TypeId × Value → H} {w : World} {base : Nat} {spare : Nat → Bool} {held : Bool}
instance : Inhabited ChD := ⟨⟨0, 0, 0, [], none, 0, [], none, 0⟩⟩
theorem trod_ch {fuel : Nat} {cs : List Value} {x : DataW H × List MemPlace} (h : DataW.trod enc Tryz.prog w base spare held fuel 34 cs = some x) :
    ∃ c : ChD, cs = c.cells ∧ ChIn (fun k => k < w.heap.size) w c ∧ ∀ o ∈ c.ops, (Lit.int .i64 o.vn).wf = true := by
  obtain ⟨a, s, st, DA, DC, OA, OC, deps, ops, h1, h2, h3⟩ := trod_change h
  exact ⟨⟨a, s, st, deps, DA, DC, ops, OA, OC⟩, h1, ⟨h2.hd, h2.hdl, h2.ho, h2.hol, h2.hp⟩, h3⟩
theorem open_chs {b0 : Nat} {v : Value} {d : DataW H} {ps : List MemPlace} (hval : Value.okWide Tryz.prog w .any b0 22 v) (hd : DataW.Trod enc Tryz.prog w base spare held 22 v d ps) :
    ∃ A c, ∃ L : List ChD, v = .slice A L.length c ∧ L.length ≤ 9223372036854775807 ∧ ChsIn (fun k => k < w.heap.size) w A L ∧ ∀ c ∈ L, ∀ o ∈ c.ops, (Lit.int .i64 o.vn).wf = true := by
  obtain ⟨A, c, l, h1, h2, h3, h4, h5, h6⟩ := open_rows (α := ChD) ChD.cells 5 (fun _ => rfl) (by omega) (fun c _ => ChIn (fun k => k < w.heap.size) w c ∧ ∀ o ∈ c.ops, (Lit.int .i64 o.vn).wf = true) Tryz.underlying22 cells_change (fun fuel cs x h => trod_ch h) hval hd
  have hmx : maxLen = 9223372036854775807 := by simp only [maxLen, Nat.reducePow, Nat.reduceSub]
  have hok : ∀ c ∈ l, ChIn (fun k => k < w.heap.size) w c ∧ ∀ o ∈ c.ops, (Lit.int .i64 o.vn).wf = true := fun c hc => by
    rcases h6 with ⟨rfl, _⟩ | ⟨es, sp, _, hl, h⟩
    · cases hc
    · obtain ⟨i, hi, e⟩ := List.getElem_of_mem hc
      exact h i c _ (List.getElem?_eq_some_iff.2 ⟨hi, e⟩) (List.getElem?_eq_getElem (by omega))
  exact ⟨A, c, l, h1, by omega, ⟨h4, fun c hc => (hok c hc).1⟩, fun c hc => (hok c hc).2⟩
end
end Go.Proofs.YtclgfcjcpbiadaaGreatDoor
