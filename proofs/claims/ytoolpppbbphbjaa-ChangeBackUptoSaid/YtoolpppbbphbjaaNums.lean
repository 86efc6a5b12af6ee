/- Contracts: numbers written behind bytes: the document's nums, the program's writer. -/
import Derived.Test.YtoolpppbbphbjaaPutC
import Derived.OwnWalk
namespace Go.Proofs.Ytoolpppbbphbjaa
open Go.ChangeShapes Go.WideShapes Go.ChangeAt Go.RowKit

theorem intsC_at_ {l : List Int} {k : Nat} {x : Int} (h : l[k]? = some x) : (intsC l)[k]? = some (.int .i64 x) := by simp [intsC, h]
/-- numbers as bytes -/
def numsL (l : List Int) : List UInt8 := l.flatMap fun x => putN x.toNat
theorem numsL_len : ∀ (l : List Int), (numsL l).length ≤ 10 * l.length
  | [] => by simp [numsL]
  | x :: l => by
    have := numsL_len l
    have h := (putN_length x.toNat).2
    simp only [numsL, List.flatMap_cons, List.length_append, List.length_cons] at this ⊢
    omega
theorem numsL_append (a b : List Int) : numsL (a ++ b) = numsL a ++ numsL b := by simp [numsL]
theorem numsL_take {l : List Int} {k : Nat} {x : Int} (h : l[k]? = some x) : numsL (l.take (k + 1)) = numsL (l.take k) ++ putN x.toNat := by
  rw [List.take_add_one, h, numsL_append]; simp [numsL]
theorem u64_nat {x : Int} (h0 : 0 ≤ x) (h1 : x ≤ 9223372036854775807) : IntKind.u64.wrap x = ((x.toNat : Nat) : Int) := by
  rw [wrap_u64]; omega

theorem Evo.of_append' {w w' : World} {o o' : Option Nat} (h : w.grownBy w' o) (ho : o' = o ∨ o' = some w.heap.size) : Evo w o w' o' := Evo.of_append h ho
set_option maxHeartbeats 4000000 in
theorem refNums_any (xs : List Int) (pre : List UInt8) (v : Value) (base : Nat) (D : Nat → Prop) (A : Option Addr) (n c : Nat) (w : World)
    (hown : w.ownsRow base 5 1 v pre.length (bytesC pre)) (hbase : base ≤ w.heap.size) (hr : Reads D w 1 A n (intsC xs)) (hD : ∀ k, D k → k < w.heap.size ∧ v.ownBlock ≠ some k)
    (hn : xs.length = n) (hn1 : n ≤ 100) (hp : pre.length ≤ 1000000) (hx : ∀ x ∈ xs, 0 ≤ x ∧ x ≤ 9223372036854775807) :
    Calls Try.prog 23 #[v, .slice A n c] w fun e w' => ∃ v', e = .returned v' ∧ w'.ownsRow base 5 1 v' (pre ++ numsL xs).length (bytesC (pre ++ numsL xs)) ∧ Evo w v.ownBlock w' v'.ownBlock := by
  obtain ⟨i0, hi, hz0, hz1, hz2⟩ := info_parts infoByte
  have HR := Lib.hid hr
  have HD := Lib.hid hD
  have HN := Lib.hid hn
  have HX := Lib.hid hx
  have HP := Lib.hid hp
  clear hr hD hn hx hp
  go_enter Try.func23, Try.ntmps23
  go_wp2_with fail
  go_loopw [0, 5] (fun s0 s5 wr => ∃ k : Nat, k ≤ n ∧ s5 = .int .i64 k ∧ wr.ownsRow base 5 1 s0 (pre ++ numsL (xs.take k)).length (bytesC (pre ++ numsL (xs.take k))) ∧ Hid (Evo w v.ownBlock wr s0.ownBlock)) (fun _ s5 _ => n - (intOf s5).toNat)
  case atStart => exact ⟨0, by omega, rfl, by simpa [numsL] using hown, Evo.refl _ _⟩
  case round =>
    clear hown
    obtain ⟨k, hk, rfl, hown, HE⟩ := hrel
    by_cases hlt : k < n
    · obtain ⟨x, hx⟩ : ∃ x, xs[k]? = some x := get_lt (by rw [HN.out]; exact hlt)
      obtain ⟨b, off, hA, hb, hcell⟩ := HR.out.at_ (by omega) (by omega)
      subst hA
      have hxb := HX.out x (List.mem_of_getElem? hx)
      have hcx : wr.cell? ⟨b, off + k, none⟩ = some (.int .i64 x) := by
        rw [HE.out.cell (p := ⟨b, off + k, none⟩) (HD.out b hb).1 (HD.out b hb).2]
        exact hcell k _ (intsC_at_ hx)
      have hu := u64_nat hxb.1 hxb.2
      have hlen := numsL_len (xs.take k)
      have hst : Hid (pre ++ numsL (xs.take (k + 1)) = (pre ++ numsL (xs.take k)) ++ putN x.toNat) := by show _ = _; rw [numsL_take hx, List.append_assoc]
      have hpl : (pre ++ numsL (xs.take k)).length ≤ 1001000 := by
        have := HP.out
        simp only [List.length_append, List.length_take] at hlen ⊢
        omega
      have HQ : Hid (x.toNat < 2 ^ 64) := by show _ < _; omega
      generalize pre ++ numsL (xs.take k) = acc at hown hst hpl
      generalize x.toNat = q at hu hst HQ
      clear hx hxb hlen
      go_wp2_with fail
      refine (putR_any q HQ wr).mono ?_
      rintro e w3 ⟨v3, rfl, ho3, hb3⟩
      obtain ⟨A3, c3, hv3, _, _, hr3⟩ := Reads.of_own ho3
      subst hv3
      have HE3 : Hid (Evo w v.ownBlock w3 u0.ownBlock) := HE.out.trans (Evo.of_below hb3)
      have hown3 := own_keep hown fun g hg => hb3.block g (own_lt hown hg).2
      have hpn := (putN_length q).2
      have HR3 := Lib.hid hr3
      have hs3 : base ≤ w3.heap.size := Nat.le_trans hbase HE3.out.size
      clear ho3 hb3 hr3 hcx
      go_wp2_with (at_builtin; refine wpList_append_any _ rfl (.tmp 12) (.tmp 18) _ rfl (base) 5 i0 _ 1 1 Try.underlying26 hi hz0 hz1 hz2 rfl (by omega) (u0) (acc.length) (bytesC acc) rfl (hown3) _ (A3) ((putN q).length) (c3) (bytesC (putN q)) rfl (HR3.out) (bytesC_one _) ?c1 ?c2 ?c3 ?_)
      try case c1 => simp only [maxLen]; omega
      try case c2 => omega
      try case c3 => exact hs3
      intro v4 w4 ho4 hg4 hat4
      have HE4 : Hid (Evo w v.ownBlock w4 v4.ownBlock) := HE3.out.trans (Evo.of_append' hg4 hat4)
      rw [← bytesC_append] at ho4
      clear hown3 hg4 hat4 HR3 hs3
      go_wp2_with fail
      first
        | exact ⟨⟨k + 1, by omega, by go_num, by rw [hst.out]; simpa using ho4, HE4⟩, by simp [intOf]; omega⟩
        | (go_roundw
           case rel => exact ⟨k + 1, by omega, by go_num, by rw [hst.out]; simpa using ho4, HE4⟩
           case measure => simp [intOf]; omega)
    · have hkn : k = n := by omega
      have HF : Hid (xs.take k = xs) := by show _ = _; exact List.take_of_length_le (by rw [HN.out]; omega)
      rw [HF.out] at hown
      clear hkn
      go_wp2_with fail
      go_ret
      exact ⟨_, rfl, hown, HE.out⟩
end Go.Proofs.Ytoolpppbbphbjaa
