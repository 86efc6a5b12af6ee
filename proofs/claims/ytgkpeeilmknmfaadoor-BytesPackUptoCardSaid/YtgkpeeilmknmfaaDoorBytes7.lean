/- Contracts: package bytes, counts taken apart. -/
import Derived.Test.YtgkpeeilmknmfaaDoorBytes6
namespace Go.Proofs.YtgkpeeilmknmfaaDoor
open Go.ChangeShapes Go.WideShapes Go.ChangeAt Go.RowKit

def unflagG : Nat → List Bool → List Int → Except Int (List Bool)
  | _, acc, [] => .ok acc
  | i, acc, n :: l => if n < 0 ∨ n < 1 ∧ 0 < i then .error 1 else if 400 - (acc.length : Int) < n then .error 4 else unflagG (i + 1) (acc ++ List.replicate n.toNat (decide (i % 2 = 1))) l
def unflagF (l : List Int) : Except Int (List Bool) :=
  match unflagG 0 [] l with
  | .error e => .error e
  | .ok x => if l = [0] then .error 3 else .ok x

def UnflagAt (l : List Int) (k : Nat) (acc : List Bool) : Prop := unflagG 0 [] l = unflagG k acc (l.drop k) ∧ acc.length ≤ 400
section
variable {l : List Int} {k : Nat} {acc : List Bool} {n : Int}
theorem UnflagAt.open_ (h : UnflagAt l k acc) (hx : Hid (l[k]? = some n)) : unflagG 0 [] l = if n < 0 ∨ n < 1 ∧ 0 < k then .error 1 else if 400 - (acc.length : Int) < n then .error 4 else unflagG (k + 1) (acc ++ List.replicate n.toNat (decide (k % 2 = 1))) (l.drop (k + 1)) := by
  obtain ⟨hlt, hx'⟩ := List.getElem?_eq_some_iff.1 hx.out
  rw [h.1, List.drop_eq_getElem_cons hlt, hx', unflagG]
theorem UnflagAt.e1 (h : UnflagAt l k acc) (hx : Hid (l[k]? = some n)) (hm : n < 0 ∨ n < 1 ∧ 0 < k) : unflagF l = .error 1 := by rw [unflagF, h.open_ hx, if_pos hm]
theorem UnflagAt.e4 (h : UnflagAt l k acc) (hx : Hid (l[k]? = some n)) (hm : ¬ (n < 0 ∨ n < 1 ∧ 0 < k)) (h4 : 400 - (acc.length : Int) < n) : unflagF l = .error 4 := by rw [unflagF, h.open_ hx, if_neg hm, if_pos h4]
theorem UnflagAt.step (h : UnflagAt l k acc) (hx : Hid (l[k]? = some n)) (hm : ¬ (n < 0 ∨ n < 1 ∧ 0 < k)) (h4 : ¬ 400 - (acc.length : Int) < n) : UnflagAt l (k + 1) (acc ++ List.replicate n.toNat (decide (k % 2 = 1))) :=
  ⟨by rw [h.open_ hx, if_neg hm, if_neg h4], by simp; omega⟩
theorem UnflagAt.fin (h : UnflagAt l k acc) (hlt : ¬ k < l.length) : unflagG 0 [] l = .ok acc := by
  rw [h.1, List.drop_eq_nil_of_le (by omega)]; rfl
end
theorem replicate_snocB (acc : List Bool) (j : Nat) (n : Bool) : acc ++ List.replicate (j + 1) n = (acc ++ List.replicate j n) ++ [n] := by
  rw [List.replicate_succ', List.append_assoc]

set_option maxHeartbeats 4000000 in
theorem unflag_any (l : List Int) (D : Nat → Prop) (A : Option Addr) (c : Nat) (w : World) (hr : Reads D w 1 A l.length (intsC l)) (hD : ∀ k, D k → k < w.heap.size) (hl : l.length ≤ 2000000) :
    Calls Tryd.prog 19 #[.slice A l.length c] w fun e w' => OkOr 4 1 boolsC List.length (unflagF l) w.heap.size e w' ∧ Below w.heap.size w w' := by
  have HR := Lib.hid hr
  have HD := Lib.hid hD
  clear hr hD
  go_enter Tryd.func19, Tryd.ntmps19
  go_wp2
  go_loopw [2, 4, 5, 8, 33] (fun v _ _ i _ wr => ∃ (k : Nat) (acc : List Bool), k ≤ l.length ∧ i = .int .i64 k ∧ UnflagAt l k acc ∧ wr.ownsRow w.heap.size 4 1 v acc.length (boolsC acc) ∧ Below w.heap.size w wr) (fun _ _ _ i _ _ => l.length - (intOf i).toNat)
  case atStart => exact ⟨0, [], by omega, rfl, ⟨rfl, by simp⟩, own_nil _ _ _ _, Below.refl _ _⟩
  case round =>
    obtain ⟨k, acc, hk, rfl, hat, hown, hb⟩ := hrel
    have HR1 := Lib.hid (HR.out.keep ((Below.keeps hb).mono HD.out))
    have ha400 := hat.2
    by_cases hlt : k < l.length
    · obtain ⟨b, off, hA, _, hcell⟩ := HR1.out.at_ (by omega) (by omega)
      obtain ⟨n, hx⟩ := get_lt hlt
      have hc0 := hcell _ _ (ints_at hx)
      have HX := Lib.hid hx
      clear hcell hx
      subst hA
      by_cases hm : n < 0
      · have HF := Lib.hid (hat.e1 HX (.inl hm))
        go_wp2_with fail
        go_ret2
        exact ⟨by rw [HF.out]; exact rfl, hb⟩
      · by_cases hm1 : n < 1
        · by_cases hk0 : 0 < k
          · have HF := Lib.hid (hat.e1 HX (.inr ⟨hm1, hk0⟩))
            go_wp2_with fail
            go_ret2
            exact ⟨by rw [HF.out]; exact rfl, hb⟩
          · have HF := Lib.hid (hat.step HX (by omega) (by omega))
            have HN : Hid (n.toNat = 0) := by show n.toNat = 0; omega
            obtain ⟨ao, cap, hv, hnc, hcm, hro⟩ := Reads.of_own hown
            clear hro
            have HO := Lib.hid hown
            clear hown
            subst hv
            go_wp2_with fail
            go_loopw [2, 33] (fun v i wr' => v = .slice ao acc.length cap ∧ i = .int .i64 0 ∧ wr' = wr) (fun _ _ _ => 0)
            case atStart => exact ⟨rfl, rfl, rfl⟩
            case round =>
              obtain ⟨rfl, rfl, rfl⟩ := hrel
              go_wp2_with fail
              exact ⟨⟨k + 1, acc, by omega, by go_num, by have := HF.out; rw [HN.out] at this; simpa using this, HO.out, hb⟩, by simp [intOf]; omega⟩
        · obtain ⟨ao, cap, hv, hnc, hcm, hro⟩ := Reads.of_own hown
          clear hro
          by_cases h4 : 400 - (acc.length : Int) < n
          · have HF := Lib.hid (hat.e4 HX (by omega) h4)
            subst hv
            go_wp2_with fail
            go_ret2
            exact ⟨by rw [HF.out]; exact rfl, hb⟩
          · have HF := Lib.hid (hat.step HX (by omega) h4)
            obtain ⟨pb, hpb⟩ : ∃ pb, decide (k % 2 = 1) = pb := ⟨_, rfl⟩
            have hpq : ((k : Int) % 2 == 1) = pb := by rw [← hpb, Bool.eq_iff_iff]; simp; omega
            rw [hpb] at HF
            clear hpb
            subst hv
            obtain ⟨wo, rfl⟩ : ∃ wo : World, wo = wr := ⟨_, rfl⟩
            go_wp2_with fail
            go_loopw [2, 33] (fun v i wr => ∃ (j : Nat) (cur : List Bool), (j : Int) ≤ n ∧ i = .int .i64 j ∧ Hid (cur = acc ++ List.replicate j pb) ∧ wr.ownsRow w.heap.size 4 1 v cur.length (boolsC cur) ∧ Below w.heap.size w wr)
              (fun _ i _ => (n - intOf i).toNat)
            case atStart => exact ⟨0, acc, by omega, rfl, Lib.hid (by simp), hown, hb⟩
            case round =>
              obtain ⟨j, cur, hj, rfl, hcur, hown', hb'⟩ := hrel
              have hjl : cur.length ≤ 400 := by rw [hcur.out]; simp; omega
              by_cases hjm : (j : Int) < n
              · go_wp2_with (at_builtin; refine wpList_append_one 38 4 (.bool false) 1 1 Tryd.underlying38 infoBool rfl (by omega) rfl (.tmp 35) (.tmp 39) rfl (w.heap.size) (u2) (cur.length) (boolsC cur) rfl (hown'.alloc _) (wr.heap.size) 1 ([.bool pb]) rfl ?c1 ?c2 ?c3 ?c4 ?c5 ?c6 ?_)
                try case c1 => rfl
                try case c2 => intro j u hj; exact new_cells _ _ _ hj
                try case c3 => first | exact boolsC_one [pb] | exact ⟨rfl, rfl⟩ | rfl
                try case c4 => omega
                try case c5 => omega
                try case c6 => have := hb'.size; simp; omega
                intro v1 w1 hown1 hg1 hat1
                have hb1 : Below (w.heap.size) w w1 := (hb'.alloc hb'.size _).grown hg1 (by have := hb'.size; simp; omega) (fun g hg => (own_lt (hown') hg).1)
                clear hat1 hg1
                go_wp2_with fail
                exact ⟨⟨j + 1, cur ++ [pb], by omega, by go_num, Lib.hid (by rw [hcur.out, replicate_snocB]), by rw [List.length_append, boolsC_append]; exact hown1, hb1⟩, by simp [intOf]; omega⟩
              · have hje : n.toNat = j := by omega
                have HJ := Lib.hid hje
                clear hje
                go_wp2_with fail
                exact ⟨⟨k + 1, acc ++ List.replicate n.toNat pb, by omega, by go_num, HF.out, by rw [HJ.out, ← hcur.out]; exact hown', hb'⟩, by simp [intOf]; omega⟩
    · have HF := Lib.hid (hat.fin hlt)
      by_cases h1 : l.length = 1
      · obtain ⟨b, off, hA, _, hcell⟩ := HR1.out.at_ (by omega) (by omega)
        obtain ⟨n, hx⟩ := get_lt (l := l) (k := 0) (by omega)
        have hc0 : wr.cell? ⟨b, off, none⟩ = some (.int .i64 n) := hcell 0 _ (ints_at hx)
        have hl1 : l = [n] := by
          match l, h1, hx with
          | [a], _, hx => simp at hx; rw [hx]
        have H1 := Lib.hid hl1
        clear hcell hx hl1
        subst hA
        have hle : ((l.length : Int) == 1) = true := by simp; omega
        have hl0 : (0 : Int) < (l.length : Int) := by omega
        clear h1
        by_cases hn0 : n = 0
        · subst hn0
          have HE : Hid (unflagF l = .error 3) := by show unflagF l = _; rw [unflagF, HF.out]; simp only [H1.out, if_true]
          go_wp2_with fail
          go_ret2
          exact ⟨by rw [HE.out]; exact rfl, hb⟩
        · have HE : Hid (unflagF l = .ok acc) := by show unflagF l = _; rw [unflagF, HF.out]; simp only [H1.out, List.cons.injEq, and_true, hn0, if_false]
          have hn00 : (n == 0) = false := by simpa using hn0
          clear hn0
          go_wp2_with fail
          go_ret2
          exact ⟨by rw [HE.out]; exact ⟨_, rfl, hown⟩, hb⟩
      · have hle : ((l.length : Int) == 1) = false := by simp; omega
        have HE : Hid (unflagF l = .ok acc) := by
          show unflagF l = _
          rw [unflagF, HF.out]
          simp only
          rw [if_neg (fun e => h1 (by rw [e]; rfl))]
        clear h1
        go_wp2_with fail
        go_ret2
        exact ⟨by rw [HE.out]; exact ⟨_, rfl, hown⟩, hb⟩
end Go.Proofs.YtgkpeeilmknmfaaDoor
