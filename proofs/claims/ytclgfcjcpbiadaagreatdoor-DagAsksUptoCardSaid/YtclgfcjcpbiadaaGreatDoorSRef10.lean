/- Contracts of the document's books: the refs of changes, rising; the heads. -/
import Derived.Test.YtclgfcjcpbiadaaGreatDoorSRef9
set_option linter.unusedVariables false
set_option linter.unusedSimpArgs false
namespace Go.Proofs.YtclgfcjcpbiadaaGreatDoor
open Go.ChangeShapes Go.WideShapes Go.ChangeAt Go.RowKit

theorem refsP_snoc {L : List ChD} {k : Nat} {x : ChD} (h : L[k]? = some x) : refsP (L.take (k + 1)) = putR (refsP (L.take k)) x.rf := by
  unfold refsP
  rw [List.take_add_one, h, List.foldl_append]
  rfl
theorem putR_len_le (l : List Rf) (r : Rf) : (putR l r).length ≤ l.length + 1 := by
  by_cases h : r ∈ l
  · rw [putR_has h]; omega
  · rw [putR_len h]; omega
theorem refsGo_len : ∀ (L : List ChD) (out : List Rf), (L.foldl (fun out c => putR out c.rf) out).length ≤ out.length + L.length
  | [], out => by simp
  | c :: L, out => by
    have h1 := refsGo_len L (putR out c.rf)
    have h2 := putR_len_le out c.rf
    simp only [List.foldl_cons, List.length_cons]
    omega
theorem refsP_len (L : List ChD) : (refsP L).length ≤ L.length := by
  have := refsGo_len L []
  simpa [refsP] using this

set_option maxHeartbeats 2000000 in
set_option maxRecDepth 20000 in
theorem srefs_any (L : List ChD) (D : Nat → Prop) (A : Option Addr) (c : Nat) (w : World) (hr : Reads D w 5 A L.length (chsC L)) (hD : ∀ k, D k → k < w.heap.size) (hl : L.length ≤ 1000000) :
    Calls Tryz.prog 8 #[.slice A L.length c] w fun e w' => ∃ v, e = .returned v ∧ w'.ownsRow w.heap.size 25 2 v (refsP L).length (refC (refsP L)) ∧ Below w.heap.size w w' := by
  obtain ⟨n, hn⟩ : ∃ n, L.length = n := ⟨_, rfl⟩
  have HN := Lib.hid hn
  have HR := Lib.hid (hr.more hD)
  rw [hn] at hl ⊢
  clear hr hn
  go_enter Tryz.func8, Tryz.ntmps8
  go_wp2_with fail
  go_loopw [3, 4] (fun s3 s4 wr => ∃ k : Nat, s4 = .int .i64 k ∧ k ≤ n ∧ Hid (wr.ownsRow w.heap.size 25 2 s3 (refsP (L.take k)).length (refC (refsP (L.take k)))) ∧ Hid (Below w.heap.size w wr)) (fun _ s4 _ => n - (intOf s4).toNat)
  case atStart => exact ⟨0, rfl, by omega, own_nil _ _ _ _, Below.refl _ _⟩
  case round =>
    obtain ⟨k, rfl, hk, HO, HW⟩ := hrel
    by_cases hlt : k < n
    · obtain ⟨x, hx⟩ : ∃ x, L[k]? = some x := ⟨_, List.getElem?_eq_getElem (by rw [HN.out]; exact hlt)⟩
      obtain ⟨b, o, rfl, -, hcy⟩ := (reads_below HR.out HW.out).at_ (by rw [HN.out]; omega) (by omega)
      have x0 : wr.cell? ⟨b, o + k * 5, none⟩ = some (.int .i64 x.a) := hcy _ _ (chsC_at hx 0 (by omega))
      have x1 : wr.cell? ⟨b, o + k * 5 + 1, none⟩ = some (.int .i64 x.s) := hcy _ _ (chsC_at hx 1 (by omega))
      have x2 : wr.cell? ⟨b, o + k * 5 + 2, none⟩ = some (.int .i64 x.st) := hcy _ _ (chsC_at hx 2 (by omega))
      have x3 : wr.cell? ⟨b, o + k * 5 + 3, none⟩ = some (.slice x.DA x.deps.length x.DC) := hcy _ _ (chsC_at hx 3 (by omega))
      have x4 : wr.cell? ⟨b, o + k * 5 + 4, none⟩ = some (.slice x.OA x.ops.length x.OC) := hcy _ _ (chsC_at hx 4 (by omega))
      have HP := Lib.hid (refsP_snoc hx)
      have hlen : (refsP (L.take k)).length ≤ k := Nat.le_trans (refsP_len _) (by rw [List.length_take]; omega)
      clear hcy hx
      go_wp2_with fail
      go_at_call 12
      refine (sref_any _ _ _ _ _ _ (by rfl) (by rfl) (by rfl)).mono ?_
      rintro e w2 ⟨rfl, hb⟩
      have C2 := sPut_any (refsP (L.take k)) (x.a, x.s) w.heap.size _ w2 (own_below HO.out hb) (by omega) (Nat.le_trans HW.out.size hb.size)
      replace HW : Hid (Below w.heap.size w w2) := HW.out.trans (hb.mono HW.out.size)
      clear hb HO x0 x1 x2 x3 x4
      go_wp2_with fail
      go_at_call 40
      refine C2.mono ?_
      rintro e w3 ⟨v3, rfl, ho3, hb3, -⟩
      have HO : Hid (w3.ownsRow w.heap.size 25 2 v3 (refsP (L.take (k + 1))).length (refC (refsP (L.take (k + 1))))) := by show World.ownsRow _ _ _ _ _ _ _; rw [HP.out]; exact ho3
      replace HW : Hid (Below w.heap.size w w3) := HW.out.trans (hb3.mono HW.out.size)
      clear C2 ho3 hb3 HP hlen
      go_wp2_with fail
      go_roundw
      case rel => exact ⟨k + 1, by go_num, by omega, HO, HW⟩
      case measure => simp [intOf]; omega
    · have hkn : k = n := by omega
      have HL : Hid (L.take k = L) := List.take_of_length_le (by rw [HN.out]; omega)
      rw [HL.out] at HO
      go_wp2_with fail
      go_ret
      exact ⟨_, rfl, HO.out, HW.out⟩
end Go.Proofs.YtclgfcjcpbiadaaGreatDoor
