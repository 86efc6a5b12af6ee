/- ValueBack: the law's walk. -/
import Derived.Test.YtgkpeeilmknmfaaUnquote
namespace Go.Proofs.Ytgkpeeilmknmfaa
open Go.ChangeShapes Go.WideShapes Go.ChangeAt Go.RowKit

theorem quote_fact : quoteL [97, 34, 10] = [34, 97, 92, 34, 92, 48, 97, 34] := by decide
theorem quoteL_len (l : List UInt8) : (quoteL l).length ≤ 3 * l.length + 2 := by
  have := quoteF_len l
  simp only [quoteL, List.length_cons, List.length_append, List.length_nil]; omega

set_option maxRecDepth 20000 in
set_option maxHeartbeats 4000000 in
theorem valueBack_walk (l m : List UInt8) (w : World) (hl : l.length ≤ 1048576) (hm : m.length ≤ 1048576) :
    Calls Try.prog 3 #[.string ⟨l.toArray⟩, .string ⟨m.toArray⟩] w fun e w' => e = .returned (.bool true) ∧ Below w.heap.size w w' := by
  go_enter Try.func3, Try.ntmps3
  go_wp2_with fail
  refine (quote_any [97, 34, 10] w (by simp)).mono ?_
  rintro e w1 ⟨rfl, hb1⟩
  rw [quote_fact]
  have HB1 := Lib.hid hb1
  clear hb1
  go_wp2_with fail
  have HP := Lib.hid (quoteL_plain l)
  have HU := Lib.hid (unquote_quote l m)
  have hql := quoteL_len l
  refine (quote_any l w1 hl).mono ?_
  rintro e w2 ⟨rfl, hb2⟩
  have HB2 : Hid (Below w.heap.size w w2) := HB1.out.trans (hb2.mono HB1.out.size)
  clear hb2 HB1
  obtain ⟨q, hq⟩ : ∃ q, q = quoteL l := ⟨_, rfl⟩
  rw [← hq] at HP HU hql ⊢
  have HQ := Lib.hid hq
  clear hq
  have hqm : (⟨q.toArray⟩ : ByteArray) ++ ⟨m.toArray⟩ = ⟨(q ++ m).toArray⟩ := by
    apply ByteArray.ext
    simp
  go_wp2_with fail
  go_loopw [7] (fun i wr => ∃ k : Nat, k ≤ q.length ∧ i = .int .i64 k ∧ w2 = wr) (fun i _ => q.length - (intOf i).toNat)
  case atStart => exact ⟨0, by omega, rfl, rfl⟩
  case round =>
    obtain ⟨k, hk, rfl, rfl⟩ := hrel
    by_cases hlt : k < q.length
    · obtain ⟨c, hc⟩ := get_lt hlt
      have hck : ∀ h, (⟨q.toArray⟩ : ByteArray)[k]'h = c := fun h => str_at hc h
      have hp := HP.out c (List.mem_of_getElem? hc)
      have d32 : decide ((c.toNat : Int) < 32) = false := by simp; omega
      have d126 : decide (126 < (c.toNat : Int)) = false := by simp; omega
      clear hc hp
      go_wp2_with fail
      exact ⟨⟨k + 1, by omega, by go_num, by trivial⟩, by simp [intOf]; omega⟩
    · go_wp2_with fail
      refine (unquote_any (q ++ m) w2 (by simp; omega)).mono ?_
      rw [HU.out]
      rintro e w3 ⟨rfl, hb3⟩
      have HB3 : Hid (Below w.heap.size w w3) := HB2.out.trans (hb3.mono HB2.out.size)
      clear hb3
      simp only [unqV]
      go_wp2_with fail
      go_ret
      exact ⟨rfl, HB3.out⟩
end Go.Proofs.Ytgkpeeilmknmfaa
