/- Contracts of the document's books: Ops. -/
import Derived.Test.YtclgfcjcpbiadaaGreatDoorSRef4
import Derived.Test.YtclgfcjcpbiadaaGreatDoorM1
set_option linter.unusedVariables false
set_option linter.unusedSimpArgs false
namespace Go.Proofs.YtclgfcjcpbiadaaGreatDoor
open Go.ChangeShapes Go.WideShapes Go.ChangeAt Go.RowKit

def zeroO : Value := .agg #[.int .i64 0, .int .i64 0, .int .i64 0, .string ⟨#[]⟩, .int .i64 0, .int .i64 0, .bool false, .int .i64 0, .int .i64 0, .string ⟨#[]⟩, .int .i64 0, .int .i64 0, .slice none 0 0, .int .i64 0, .int .i64 0]
theorem infoO : (Tryz.prog.info? 91).map (fun i => (i.zero, i.size, i.bytes)) = some (some zeroO, 15, 152) := by kernel_rfl
theorem idsFrom_len (a : Int) : ∀ (l : List OpD) (st : Int), (idsFrom a st l).length = l.length
  | [], _ => rfl
  | _ :: l, st => by rw [idsFrom, List.length_cons, List.length_cons, idsFrom_len]
theorem idsFrom_at (a : Int) : ∀ (l : List OpD) (st : Int) (k : Nat) (o : OpD), l[k]? = some o → (idsFrom a st l)[k]? = some (o, (st + k, a))
  | [], _, _, _, h => by simp at h
  | x :: l, st, 0, o, h => by simp at h; subst h; simp [idsFrom]
  | x :: l, st, k + 1, o, h => by
    have := idsFrom_at a l (st + 1) k o (by simpa using h)
    rw [idsFrom, List.getElem?_cons_succ, this, show st + 1 + (k : Int) = st + ((k + 1 : Nat) : Int) from by omega]
theorem opsI_len (c : ChD) : c.opsI.length = c.ops.length := idsFrom_len ..
theorem knownP_take {L : List ChD} {R : List Rf} {k : Nat} {c : ChD} (h : L[k]? = some c) : knownP (L.take (k + 1)) R = knownP (L.take k) R ++ (if c.rf ∈ R then c.opsI else []) := by
  unfold knownP
  rw [List.take_add_one, h, Option.toList_some, List.filter_append, List.flatMap_append]
  congr 1
  by_cases hm : c.rf ∈ R
  · rw [if_pos hm, List.filter_cons_of_pos (by simpa using hm)]; simp
  · rw [if_neg hm, List.filter_cons_of_neg (by simpa using hm)]; simp
theorem knownP_len {L : List ChD} (R : List Rf) (h : ∀ c ∈ L, c.ops.length ≤ 40) : (knownP L R).length ≤ 40 * L.length := by
  unfold knownP
  induction L with
  | nil => simp
  | cons c L ih =>
    have ih := ih (fun c hc => h c (by simp [hc]))
    have hc := h c (by simp)
    by_cases hm : c.rf ∈ R
    · rw [List.filter_cons_of_pos (by simpa using hm), List.flatMap_cons, List.length_append, List.length_cons, opsI_len]; omega
    · rw [List.filter_cons_of_neg (by simpa using hm), List.length_cons]; omega
/-- numbers that do not run over -/
def ChOk (c : ChD) : Prop := 1 ≤ c.st ∧ c.st ≤ 1000000 ∧ c.ops.length ≤ 40 ∧ c.deps.length ≤ 12
theorem err_ok {c : ChD} (h : c.err = 0) : ChOk c := by
  unfold ChD.err chgE at h
  obtain ⟨h1, h⟩ := ite_zero h (by omega)
  obtain ⟨h2, h⟩ := ite_zero h (by omega)
  by_cases h3 : refsE 0 c.deps ≠ 0
  · rw [if_pos h3] at h; exact absurd h h3
  rw [if_neg h3] at h
  obtain ⟨h4, h⟩ := ite_zero h (by omega)
  refine ⟨?_, ?_, by omega, by omega⟩
  · have : ¬ c.st < 1 := fun e => h1 (.inr (.inl e)); omega
  · have : ¬ 1000000 < c.st := fun e => h1 (.inr (.inr e)); omega
set_option maxHeartbeats 8000000 in
set_option maxRecDepth 20000 in
theorem sOps_any (L : List ChD) (R : List Rf) (A : Option Addr) (c : Nat) (H : Option Addr) (hc : Nat) (w : World) (hL : ChsIn (fun k => k < w.heap.size) w A L) (hr : Reads (fun k => k < w.heap.size) w 2 H R.length (refC R))
    (hok : ∀ c ∈ L, ChOk c) (hl : L.length ≤ 120) (hrl : R.length ≤ 1000000000) :
    Calls Tryz.prog 55 #[.slice A L.length c, .slice H R.length hc] w fun e w' => ∃ v, e = .returned v ∧ w'.ownsRow w.heap.size 91 15 v (knownP L R).length (opsIC (knownP L R)) ∧ Below w.heap.size w w' := by
  obtain ⟨n, hn⟩ : ∃ n, L.length = n := ⟨_, rfl⟩
  obtain ⟨m, hm⟩ : ∃ m, R.length = m := ⟨_, rfl⟩
  have HN := Lib.hid hn
  have HM := Lib.hid hm
  have HL := Lib.hid hL
  have HR := Lib.hid hr
  have HOK := Lib.hid hok
  rw [hn] at hl ⊢
  rw [hm] at hrl ⊢
  clear hL hr hok hn hm
  go_enter Tryz.func55, Tryz.ntmps55
  go_wp2_with fail
  go_loopw [5, 6, 7, 8] (fun s5 s6 _ _ wr => ∃ k : Nat, s6 = .int .i64 k ∧ k ≤ n ∧ Hid (wr.ownsRow w.heap.size 91 15 s5 (knownP (L.take k) R).length (opsIC (knownP (L.take k) R))) ∧ Hid (Below w.heap.size w wr)) (fun _ s6 _ _ _ => n - (intOf s6).toNat)
  case atStart => exact ⟨0, rfl, by omega, by show w.ownsRow _ _ _ _ _ _; simpa [knownP, opsIC] using own_nil _ _ _ _, Below.refl _ _⟩
  case round =>
    obtain ⟨k, rfl, hk, HO, HB⟩ := hrel
    by_cases hlt : k < n
    · have HL2 := Lib.hid (HL.out.below HB.out)
      obtain ⟨b1, o1, rfl, -, hc1⟩ := HL2.out.row.at_ (by rw [HN.out]; omega) (by omega)
      obtain ⟨x, hx⟩ : ∃ x, L[k]? = some x := ⟨_, List.getElem?_eq_getElem (by rw [HN.out]; exact hlt)⟩
      have hxL := List.mem_of_getElem? hx
      have x0 : wr.cell? ⟨b1, o1 + k * 5, none⟩ = some (.int .i64 x.a) := hc1 _ _ (chsC_at hx 0 (by omega))
      have x1 : wr.cell? ⟨b1, o1 + k * 5 + 1, none⟩ = some (.int .i64 x.s) := hc1 _ _ (chsC_at hx 1 (by omega))
      have x2 : wr.cell? ⟨b1, o1 + k * 5 + 2, none⟩ = some (.int .i64 x.st) := hc1 _ _ (chsC_at hx 2 (by omega))
      have x3 : wr.cell? ⟨b1, o1 + k * 5 + 3, none⟩ = some (.slice x.DA x.deps.length x.DC) := hc1 _ _ (chsC_at hx 3 (by omega))
      have x4 : wr.cell? ⟨b1, o1 + k * 5 + 4, none⟩ = some (.slice x.OA x.ops.length x.OC) := hc1 _ _ (chsC_at hx 4 (by omega))
      have HX := Lib.hid hx
      have HXL := Lib.hid hxL
      clear hc1 hx hxL
      go_wp2_with fail
      go_at_call 12
      refine (sref_any _ _ _ _ _ _ rfl rfl rfl).mono ?_
      rintro e w2 ⟨rfl, hb2⟩
      have HB2 : Hid (Below w.heap.size w w2) := HB.out.trans (hb2.mono HB.out.size)
      have HO2 := Lib.hid (own_below HO.out hb2)
      have HR2 := Lib.hid (reads_below HR.out HB2.out)
      have H1 := sHas_any R x.rf (fun k => k < w2.heap.size) H hc w2 HR2.out (fun _ h => h) (by rw [HM.out]; omega)
      rw [HM.out] at H1
      clear hb2 x0 x1 x2 x3 x4 HL2 HO
      go_wp2_with fail
      go_at_call 10
      refine H1.mono ?_
      rintro e w3 ⟨rfl, hb3⟩
      have HB3 : Hid (Below w.heap.size w w3) := HB2.out.trans (hb3.mono HB2.out.size)
      have HO3 := Lib.hid (own_below HO2.out hb3)
      clear hb3 H1 HR2 HO2
      by_cases hxr : x.rf ∈ R
      · have HK : Hid (knownP (L.take (k + 1)) R = knownP (L.take k) R ++ x.opsI) := by have := knownP_take (R := R) HX.out; rwa [if_pos hxr] at this
        have hlen : (knownP (L.take k) R).length ≤ 40 * n := by
          have := knownP_len (L := L.take k) R (fun c hc => (HOK.out c (List.mem_of_mem_take hc)).2.2.1)
          rw [List.length_take] at this; omega
        obtain ⟨hs1, hs2, hs3, hs4⟩ := HOK.out x HXL.out
        rw [decide_eq_true hxr]
        clear hxr
        generalize knownP (L.take k) R = K0 at HO3 HK hlen
        obtain ⟨nk, hnk⟩ : ∃ nk, K0.length = nk := ⟨_, rfl⟩
        have HNK := Lib.hid hnk
        rw [hnk] at HO3 hlen
        obtain ⟨no, hno⟩ : ∃ no, x.ops.length = no := ⟨_, rfl⟩
        have HNO := Lib.hid hno
        rw [hno] at hs3
        clear hnk hno
        go_wp2_with fail
        go_loopw [5, 8] (fun s5 s8 wi => ∃ j : Nat, s8 = .int .i64 j ∧ j ≤ no ∧ Hid (wi.ownsRow w.heap.size 91 15 s5 (nk + j) (opsIC (K0 ++ x.opsI.take j))) ∧ Hid (Below w.heap.size w wi)) (fun _ s8 _ => no - (intOf s8).toNat)
        case atStart => exact ⟨0, rfl, by omega, by show w3.ownsRow _ _ _ _ _ _; simpa using HO3.out, HB3⟩
        case round =>
          clear HO3 HB3 HB
          obtain ⟨j, rfl, hj, HO, HB⟩ := hrel
          have HL2 := Lib.hid (HL.out.below HB.out)
          obtain ⟨b2, o2, e2, -, hc1⟩ := HL2.out.row.at_ (by rw [HN.out]; omega) (by omega)
          simp only [Option.some.injEq, Addr.mk.injEq, and_true] at e2
          obtain ⟨rfl, rfl⟩ := e2
          have x0 : wr.cell? ⟨b1, o1 + k * 5, none⟩ = some (.int .i64 x.a) := hc1 _ _ (chsC_at HX.out 0 (by omega))
          have x2 : wr.cell? ⟨b1, o1 + k * 5 + 2, none⟩ = some (.int .i64 x.st) := hc1 _ _ (chsC_at HX.out 2 (by omega))
          have x4 : wr.cell? ⟨b1, o1 + k * 5 + 4, none⟩ = some (.slice x.OA x.ops.length x.OC) := hc1 _ _ (chsC_at HX.out 4 (by omega))
          rw [HNO.out] at x4
          clear hc1
          by_cases hjl : j < no
          · obtain ⟨ox, hox⟩ : ∃ ox, x.ops[j]? = some ox := ⟨_, List.getElem?_eq_getElem (by rw [HNO.out]; exact hjl)⟩
            obtain ⟨b3, o3, hA3, -, hc3⟩ := (HL2.out.each x HXL.out).ho.at_ (by rw [HNO.out]; omega) (by omega)
            have key : ∀ i v, i < 13 → (opC ox)[i]? = some v → wr.cell? ⟨b3, o3 + j * 13 + i, none⟩ = some v := fun i v h1 h2 => by
              have h3 := opsC_at hox i h1
              rw [h2] at h3
              have := hc3 _ _ h3
              rw [← Nat.add_assoc] at this
              exact this
            rw [hA3] at x4
            have q0 : wr.cell? ⟨b3, o3 + j * 13, none⟩ = some (.int .i64 ox.k) := key 0 _ (by omega) rfl
            have q1 : wr.cell? ⟨b3, o3 + j * 13 + 1, none⟩ = some (.int .i64 ox.on) := key 1 _ (by omega) rfl
            have q2 : wr.cell? ⟨b3, o3 + j * 13 + 2, none⟩ = some (.int .i64 ox.oa) := key 2 _ (by omega) rfl
            have q3 : wr.cell? ⟨b3, o3 + j * 13 + 3, none⟩ = some (.string ox.key) := key 3 _ (by omega) rfl
            have q4 : wr.cell? ⟨b3, o3 + j * 13 + 4, none⟩ = some (.int .i64 ox.en) := key 4 _ (by omega) rfl
            have q5 : wr.cell? ⟨b3, o3 + j * 13 + 5, none⟩ = some (.int .i64 ox.ea) := key 5 _ (by omega) rfl
            have q6 : wr.cell? ⟨b3, o3 + j * 13 + 6, none⟩ = some (.bool ox.ins) := key 6 _ (by omega) rfl
            have q7 : wr.cell? ⟨b3, o3 + j * 13 + 7, none⟩ = some (.int .i64 ox.vk) := key 7 _ (by omega) rfl
            have q8 : wr.cell? ⟨b3, o3 + j * 13 + 8, none⟩ = some (.int .i64 ox.vn) := key 8 _ (by omega) rfl
            have q9 : wr.cell? ⟨b3, o3 + j * 13 + 9, none⟩ = some (.string ox.vt) := key 9 _ (by omega) rfl
            have q10 : wr.cell? ⟨b3, o3 + j * 13 + 10, none⟩ = some (.int .i64 ox.va) := key 10 _ (by omega) rfl
            have q11 : wr.cell? ⟨b3, o3 + j * 13 + 11, none⟩ = some (.int .i64 ox.vb) := key 11 _ (by omega) rfl
            have q12 : wr.cell? ⟨b3, o3 + j * 13 + 12, none⟩ = some (.slice ox.A ox.l.length ox.c) := key 12 _ (by omega) rfl
            have hwst : IntKind.i64.wrap (x.st + (j : Int)) = x.st + (j : Int) := IntWalk.i64_in _ (by omega)
            have HJ : Hid (x.opsI.take (j + 1) = x.opsI.take j ++ [(ox, (x.st + (j : Int), x.a))]) := by
              show _ = _
              rw [List.take_add_one, ChD.opsI, idsFrom_at _ _ _ _ _ hox]; rfl
            clear key hc3 hox HL2 hA3
            go_wp2_with fail
            refine wp_region_move_tail 23 (u5) (by kernel_rfl) (by kernel_rfl) (fun _ _ _ h => h) (Or.inl ⟨by rfl, ?_⟩) ?_
            · (intro w; go_simp; try with_reducible rfl)
            simp only [List.take_succ_cons, List.take_zero, List.drop_succ_cons, List.drop_zero]
            go_frame
            repeat (first | (refine wpStill_want rfl (fun K hK => ?_); go_simp; refine hK _ ?_; clear hK K) | (refine wpStill_skip rfl ?_; go_frame))
            refine wpStill_nil ?_
            generalize hwd : wr.drew = wd
            have HBD : Hid (Below w.heap.size w wd) := by rw [← hwd]; exact HB.out.drew
            have HOD : Hid (wd.ownsRow w.heap.size 91 15 u5 (nk + j) (opsIC (K0 ++ x.opsI.take j))) := by rw [← hwd]; exact HO.out
            clear hwd HB HO x0 x2 x4
            clear q0 q1 q2 q3 q4 q5 q6 q7 q8 q9 q10 q11 q12
            go_wp2_with (at_builtin; refine wpList_append_one 88 91 (zeroO) 15 152 Tryz.underlying88 infoO rfl (by omega) rfl (.tmp 34) (.tmp 57) rfl (w.heap.size) (u5) (nk + j) (opsIC (K0 ++ x.opsI.take j)) rfl (HOD.out.alloc _) (wd.heap.size) 1 (opIC (ox, (x.st + (j : Int), x.a))) rfl ?c1 ?c2 ?c3 ?c4 ?c5 ?c6 ?_)
            try case c1 => rfl
            try case c2 => intro j u hj; exact new_cells _ _ _ hj
            try case c3 => first | exact opsIC_one [(ox, (x.st + (j : Int), x.a))] | exact ⟨rfl, rfl⟩ | rfl
            try case c4 => omega
            try case c5 => omega
            try case c6 => have := HBD.out.size; simp; omega
            intro v1 w1 hown1 hg1 hat1
            have hb1 : Below (w.heap.size) w w1 := (HBD.out.alloc HBD.out.size _).grown hg1 (by have := HBD.out.size; simp; omega) (fun g hg => (own_lt (HOD.out) hg).1)
            have HJ2 : Hid (w1.ownsRow w.heap.size 91 15 v1 (nk + (j + 1)) (opsIC (K0 ++ x.opsI.take (j + 1)))) := by
              show w1.ownsRow _ _ _ _ _ _
              rw [HJ.out, ← List.append_assoc, opsIC_append, ← Nat.add_assoc]
              simpa [opsIC] using hown1
            have HB1' := Lib.hid hb1
            clear hown1 hat1 hg1 hb1 HBD HOD
            go_wp2_with fail
            go_roundw
            case rel => exact ⟨j + 1, by go_num, by omega, HJ2, HB1'⟩
            case measure => simp [intOf]; omega
          · have HJ : Hid (K0 ++ x.opsI.take j = knownP (L.take (k + 1)) R) := by show _ = _; rw [HK.out, List.take_of_length_le (by rw [opsI_len, HNO.out]; omega)]
            have hjn : nk + j = (knownP (L.take (k + 1)) R).length := by rw [← HJ.out, List.length_append, HNK.out, List.length_take, opsI_len, HNO.out]; omega
            go_wp2_with fail
            go_roundw
            case rel => exact ⟨k + 1, by go_num, by omega, by show wr.ownsRow _ _ _ _ _ _; rw [← hjn, ← HJ.out]; exact HO.out, HB⟩
            case measure => simp [intOf]; omega
      · have HK : Hid (knownP (L.take (k + 1)) R = knownP (L.take k) R) := by have := knownP_take (R := R) HX.out; rwa [if_neg hxr, List.append_nil] at this
        rw [decide_eq_false hxr]
        clear hxr
        go_wp2_with fail
        go_roundw
        case rel => exact ⟨k + 1, by go_num, by omega, by show w3.ownsRow _ _ _ _ _ _; rw [HK.out]; exact HO3.out, HB3⟩
        case measure => simp [intOf]; omega
    · have HK : Hid (knownP (L.take k) R = knownP L R) := by show _ = _; rw [List.take_of_length_le (by rw [HN.out]; omega)]
      go_wp2_with fail
      go_ret
      exact ⟨_, rfl, by rw [← HK.out]; exact HO.out, HB.out⟩
end Go.Proofs.YtclgfcjcpbiadaaGreatDoor
