/- Contracts: package bytes, pieces taken apart. -/
import Derived.Test.YtgkpeeilmknmfaaDoorBytes4
namespace Go.Proofs.YtgkpeeilmknmfaaDoor
open Go.ChangeShapes Go.WideShapes Go.ChangeAt Go.RowKit

def spreadF : List Int → List (Int × Int) → Except Int (List Int)
  | acc, [] => .ok acc
  | acc, (m, n) :: p => if m < 1 then .error 1 else if 400 - (acc.length : Int) < m then .error 4 else spreadF (acc ++ List.replicate m.toNat n) p

/-- what a function of a list and an error hands back -/
def OkOr {α : Type} (e : TypeId) (size : Nat) (cells : α → List Value) (len : α → Nat) (r : Except Int α) (B : Nat) (en : Ending) (w' : World) : Prop :=
  match r with
  | .ok x => ∃ v, en = .returned (.tuple #[v, .nilIface]) ∧ w'.ownsRow B e size v (len x) (cells x)
  | .error n => en = .returned (.tuple #[.slice none 0 0, .iface 76 (.int .i64 n)])

def SpreadAt (p : List (Int × Int)) (k : Nat) (acc : List Int) : Prop := spreadF [] p = spreadF acc (p.drop k) ∧ acc.length ≤ 400
section
variable {p : List (Int × Int)} {k : Nat} {acc : List Int} {m n : Int}
theorem SpreadAt.open_ (h : SpreadAt p k acc) (hx : Hid (p[k]? = some (m, n))) : spreadF [] p = if m < 1 then .error 1 else if 400 - (acc.length : Int) < m then .error 4 else spreadF (acc ++ List.replicate m.toNat n) (p.drop (k + 1)) := by
  obtain ⟨hlt, hx'⟩ := List.getElem?_eq_some_iff.1 hx.out
  rw [h.1, List.drop_eq_getElem_cons hlt, hx', spreadF]
theorem SpreadAt.e1 (h : SpreadAt p k acc) (hx : Hid (p[k]? = some (m, n))) (hm : m < 1) : spreadF [] p = .error 1 := by rw [h.open_ hx, if_pos hm]
theorem SpreadAt.e4 (h : SpreadAt p k acc) (hx : Hid (p[k]? = some (m, n))) (hm : ¬ m < 1) (h4 : 400 - (acc.length : Int) < m) : spreadF [] p = .error 4 := by rw [h.open_ hx, if_neg hm, if_pos h4]
theorem SpreadAt.step (h : SpreadAt p k acc) (hx : Hid (p[k]? = some (m, n))) (hm : ¬ m < 1) (h4 : ¬ 400 - (acc.length : Int) < m) : SpreadAt p (k + 1) (acc ++ List.replicate m.toNat n) :=
  ⟨by rw [h.open_ hx, if_neg hm, if_neg h4], by simp; omega⟩
theorem SpreadAt.fin (h : SpreadAt p k acc) (hlt : ¬ k < p.length) : spreadF [] p = .ok acc := by
  rw [h.1, List.drop_eq_nil_of_le (by omega)]; rfl
end
theorem replicate_snoc (acc : List Int) (j : Nat) (n : Int) : acc ++ List.replicate (j + 1) n = (acc ++ List.replicate j n) ++ [n] := by
  rw [List.replicate_succ', List.append_assoc]

set_option maxHeartbeats 4000000 in
theorem spread_any (p : List (Int × Int)) (D : Nat → Prop) (A : Option Addr) (c : Nat) (w : World) (hr : Reads D w 2 A p.length (pairsC p)) (hD : ∀ k, D k → k < w.heap.size) (hl : p.length ≤ 2000000) :
    Calls Tryd.prog 21 #[.slice A p.length c] w fun e w' => OkOr 3 1 intsC List.length (spreadF [] p) w.heap.size e w' ∧ Below w.heap.size w w' := by
  have HR := Lib.hid hr
  have HD := Lib.hid hD
  clear hr hD
  go_enter Tryd.func21, Tryd.ntmps21
  go_wp2
  go_loopw [2, 5, 8, 27] (fun v _ i _ wr => ∃ (k : Nat) (acc : List Int), k ≤ p.length ∧ i = .int .i64 k ∧ SpreadAt p k acc ∧ wr.ownsRow w.heap.size 3 1 v acc.length (intsC acc) ∧ Below w.heap.size w wr) (fun _ _ i _ _ => p.length - (intOf i).toNat)
  case atStart => exact ⟨0, [], by omega, rfl, ⟨rfl, by simp⟩, own_nil _ _ _ _, Below.refl _ _⟩
  case round =>
    obtain ⟨k, acc, hk, rfl, hat, hown, hb⟩ := hrel
    have HR1 := Lib.hid (HR.out.keep ((Below.keeps hb).mono HD.out))
    have ha400 := hat.2
    by_cases hlt : k < p.length
    · obtain ⟨b, off, hA, _, hcell⟩ := HR1.out.at_ (by omega) (by omega)
      obtain ⟨⟨m, nn⟩, hx⟩ := get_lt hlt
      have hc0 := hcell _ _ (pairsC_fst _ _ _ hx)
      have hc1 := hcell _ _ (pairsC_snd _ _ _ hx)
      rw [← Nat.add_assoc] at hc1
      have HX := Lib.hid hx
      clear hcell hx
      subst hA
      by_cases hm : m < 1
      · have HF := Lib.hid (hat.e1 HX hm)
        go_wp2_with fail
        go_ret2
        exact ⟨by rw [HF.out]; exact rfl, hb.alloc hb.size _⟩
      · have hlen : intsC acc = intsC acc := rfl
        obtain ⟨ao, cap, hv, hnc, hcm, hro⟩ := Reads.of_own hown
        by_cases h4 : 400 - (acc.length : Int) < m
        · have HF := Lib.hid (hat.e4 HX hm h4)
          clear hlen hro
          subst hv
          go_wp2_with fail
          go_ret2
          exact ⟨by rw [HF.out]; exact rfl, hb.alloc hb.size _⟩
        · have HF := Lib.hid (hat.step HX hm h4)
          clear hlen hro
          subst hv
          obtain ⟨wo, rfl⟩ : ∃ wo : World, wo = wr := ⟨_, rfl⟩
          go_wp2_with fail
          go_loopw [2, 27] (fun v i wr => ∃ (j : Nat) (cur : List Int), (j : Int) ≤ m ∧ i = .int .i64 j ∧ Hid (cur = acc ++ List.replicate j nn) ∧ wr.ownsRow w.heap.size 3 1 v cur.length (intsC cur) ∧ Below w.heap.size w wr ∧ Blk wr wo.heap.size 48 #[.int .i64 m, .int .i64 nn])
            (fun _ i _ => (m - intOf i).toNat)
          case atStart => exact ⟨0, acc, by omega, rfl, Lib.hid (by simp), by exact hown.alloc _, hb.alloc hb.size _, Blk.new _ _ _⟩
          case round =>
            obtain ⟨j, cur, hj, rfl, hcur, hown', hb', hblk⟩ := hrel
            have hjl : cur.length ≤ 400 := by rw [hcur.out]; simp; omega
            by_cases hjm : (j : Int) < m
            · have hcx : wr.cell? ⟨wo.heap.size, 1, none⟩ = some (.int .i64 nn) := hblk.cell 1
              have hne := own_blk_ne hown' hblk (by decide)
              go_wp2_with (at_builtin; refine wpList_append_one 39 3 (.int .i64 0) 1 8 Tryd.underlying39 infoInt rfl (by omega) rfl (.tmp 29) (.tmp 32) rfl (w.heap.size) (u2) (cur.length) (intsC cur) rfl (hown'.alloc _) (wr.heap.size) 1 ([.int .i64 nn]) rfl ?c1 ?c2 ?c3 ?c4 ?c5 ?c6 ?_)
              try case c1 => rfl
              try case c2 => intro j u hj; exact new_cells _ _ _ hj
              try case c3 => first | exact intsC_one [nn] | exact ⟨rfl, rfl⟩ | rfl
              try case c4 => omega
              try case c5 => omega
              try case c6 => have := hb'.size; simp; omega
              intro v1 w1 hown1 hg1 hat1
              have hb1 : Below (w.heap.size) w w1 := (hb'.alloc hb'.size _).grown hg1 (by have := hb'.size; simp; omega) (fun g hg => (own_lt (hown') hg).1)
              have hblk1 := (hblk.alloc _).grown hg1 hne
              clear hat1 hg1
              go_wp2
              exact ⟨⟨j + 1, cur ++ [nn], by omega, by go_num, Lib.hid (by rw [hcur.out, replicate_snoc]), by rw [List.length_append, intsC_append]; exact hown1, hb1, hblk1⟩, by simp [intOf]; omega⟩
            · have hje : m.toNat = j := by omega
              have HJ := Lib.hid hje
              clear hje
              go_wp2_with fail
              exact ⟨⟨k + 1, acc ++ List.replicate m.toNat nn, by omega, by go_num, HF.out, by rw [HJ.out, ← hcur.out]; exact hown', hb'⟩, by simp [intOf]; omega⟩
    · have HF := Lib.hid (hat.fin hlt)
      go_wp2_with fail
      go_ret2
      exact ⟨by rw [HF.out]; exact ⟨_, rfl, hown⟩, hb⟩
end Go.Proofs.YtgkpeeilmknmfaaDoor
