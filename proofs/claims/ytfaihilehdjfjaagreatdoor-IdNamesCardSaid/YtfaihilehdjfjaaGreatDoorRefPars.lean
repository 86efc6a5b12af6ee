/- Contracts: the document's Parse: the id of a name. -/
import Derived.Test.YtfaihilehdjfjaaGreatDoorWhole
import Derived.Test.YtfaihilehdjfjaaGreatDoorRefN
import Derived.Test.YtfaihilehdjfjaaGreatDoorStep
import Derived.Lib.Strings
namespace Go.Proofs.YtfaihilehdjfjaaGreatDoor
open Go.ChangeShapes Go.WideShapes Go.ChangeAt Go.RowKit

def parV : Option (Int × Int) → Value
  | none => .tuple #[.agg #[.int .i64 0, .int .i64 0], .bool false]
  | some (a, b) => .tuple #[.agg #[.int .i64 a, .int .i64 b], .bool true]
theorem wholeG_any (l : List UInt8) (x : Int) (hx : x = 7 ∨ x = 2) (hl : l.length ≤ 9223372036854775807) (w : World) :
    Calls Tryz.prog 20 #[.string ⟨l.toArray⟩, .int .i64 x] w fun e w' => e = .returned (.int .i64 (wholeL l x.toNat)) ∧ w' = w := by
  rcases hx with rfl | rfl
  · exact whole_any l 7 (by omega) hl w
  · exact whole_any l 2 (by omega) hl w
theorem ext_take (l : List UInt8) (k : Nat) : (⟨l.toArray⟩ : ByteArray).extract 0 k = ⟨(l.take k).toArray⟩ := by
  apply ByteArray.ext
  simp [ByteArray.data_extract]
theorem ext_drop (l : List UInt8) (k : Nat) : (⟨l.toArray⟩ : ByteArray).extract k l.length = ⟨(l.drop k).toArray⟩ := by
  apply ByteArray.ext
  simp [ByteArray.data_extract]
  rw [List.take_of_length_le (by simp)]
set_option maxRecDepth 100000 in
set_option maxHeartbeats 4000000 in
theorem refParse_any (l : List UInt8) (hl : l.length ≤ 9223372036854775807) (w : World) :
    Calls Tryz.prog 11 #[.string ⟨l.toArray⟩] w fun e w' => e = .returned (parV (parseL l)) ∧ Below w.heap.size w w' := by
  by_cases hr : l = [114, 111, 111, 116]
  · have HV : Hid (parseL l = some (0, 0)) := by show _ = _; rw [parseL, if_pos hr]
    subst hr
    go_enter Tryz.func11, Tryz.ntmps11
    go_wp2_with fail
    (try simp only [Exit.inBlock, Exit.then])
    refine bodyPost_ret (v := .tuple #[.agg #[.int .i64 0, .int .i64 0], .bool true]) ?_ rfl ⟨by rw [HV.out]; rfl, (Below.refl _ w).alloc (Nat.le_refl _) _⟩
    have hres : Tryz.f11.results = #[.cell 2 23, .tmp 3] := by kernel_rfl
    simp only [results, hres]
    go_simp
  · have dr : (l == [114, 111, 111, 116]) = false := by simpa using hr
    have HR := Lib.hid hr
    clear hr
    go_enter Tryz.func11, Tryz.ntmps11
    go_wp2_with fail
    clear dr
    go_loopw [4] (fun i wr => ∃ k : Nat, k ≤ l.length ∧ i = .int .i64 k ∧ Hid (∀ j : Nat, j < k → l[j]? ≠ some 64) ∧ wr = w.alloc (.cells #[.int .i64 0, .int .i64 0] 23)) (fun i _ => l.length - (intOf i).toNat)
    case atStart => exact ⟨0, by omega, rfl, fun j hj => by omega, rfl⟩
    case round =>
      obtain ⟨k, hk, rfl, HN, rfl⟩ := hrel
      by_cases hlt : k < l.length
      · obtain ⟨c, hc⟩ := get_lt hlt
        have hck : ∀ h, (⟨l.toArray⟩ : ByteArray)[k]'h = c := fun h => str_at hc h
        by_cases hx : c.toNat = 64
        · have d1 : ((c.toNat : Int) == 64) = true := by simp; omega
          have hc64 : l[k]? = some 64 := by rw [hc]; exact congrArg some (UInt8.toNat_inj.1 hx)
          have HP := Lib.hid (parse_at HR.out hc64 HN.out)
          have x5 : IntKind.i64.wrap ((k : Int) + 1) = (k : Int) + 1 := IntWalk.i64_in _ (by omega)
          have hk1 : (0 : Int) ≤ (k : Int) := by omega
          have hk2 : (k : Int) ≤ (l.length : Int) := by omega
          have hk3 : (0 : Int) ≤ (k : Int) + 1 := by omega
          have hk4 : (k : Int) + 1 ≤ (l.length : Int) := by omega
          have hs1 := ext_take l k
          have hs2 := ext_drop l (k + 1)
          have hz1 : (l.take k).length ≤ 9223372036854775807 := by simp only [List.length_take]; omega
          have hz2 : (l.drop (k + 1)).length ≤ 9223372036854775807 := by simp only [List.length_drop]; omega
          generalize l.take k = N at *
          generalize l.drop (k + 1) = M at *
          clear hc hx hc64 HN HR
          go_wp2_with fail
          go_region_held3 (fun _ => True) (exact True.intro) ((go_at_call 20; refine (wholeG_any _ _ (by simp) (by assumption) _).mono ?_; rintro e w' ⟨rfl, rfl⟩))
          all_goals
            generalize wholeL N 7 = a at HP ⊢
            generalize wholeL M 2 = b at HP ⊢
            have BR : Blk ((w.alloc (.cells #[.int .i64 0, .int .i64 0] 23)).alloc (.cells #[.int .i64 a, .int .i64 b] 23)).drew w.heap.size 23 #[.int .i64 0, .int .i64 0] := (Blk.new w 23 #[.int .i64 0, .int .i64 0]).alloc _
            have BX : Blk ((w.alloc (.cells #[.int .i64 0, .int .i64 0] 23)).alloc (.cells #[.int .i64 a, .int .i64 b] 23)).drew (w.heap.size + 1) 23 #[.int .i64 a, .int .i64 b] := by
              have h := Blk.new (w.alloc (.cells #[.int .i64 0, .int .i64 0] 23)) 23 #[.int .i64 a, .int .i64 b]
              rw [show (w.alloc (.cells #[.int .i64 0, .int .i64 0] 23)).heap.size = w.heap.size + 1 from by simp] at h
              exact h
            have HB : Hid (Below w.heap.size w ((w.alloc (.cells #[.int .i64 0, .int .i64 0] 23)).alloc (.cells #[.int .i64 a, .int .i64 b] 23)).drew) := (((Below.refl _ w).alloc (Nat.le_refl _) _).alloc (by simp) _).drew
            generalize ((w.alloc (.cells #[.int .i64 0, .int .i64 0] 23)).alloc (.cells #[.int .i64 a, .int .i64 b] 23)).drew = w2 at BR BX HB ⊢
            have c0 : w2.cell? ⟨w.heap.size + 1, 0, none⟩ = some (.int .i64 a) := BX.cell 0
            have c1 : w2.cell? ⟨w.heap.size + 1, 1, none⟩ = some (.int .i64 b) := BX.cell 1
            have HBR := Lib.hid BR
            have HBX := Lib.hid BX
            clear BR BX hs1 hs2 hz1 hz2
            have RR := refReal_any a b w2
            cases hz : realB a b
            case' true =>
              have HV : Hid (parseL l = some (a, b)) := by show _ = _; rw [HP.out, if_pos hz]
            case' false =>
              have HV : Hid (parseL l = none) := by show _ = _; rw [HP.out, if_neg (by rw [hz]; simp)]
            all_goals
              rw [hz] at RR
              clear hz
              go_wp2_with fail
              go_at_call 14
              refine RR.mono ?_
              rintro e w3 ⟨rfl, hb3⟩
              have BR := HBR.out.keep (hb3.block _ HBR.out.lt)
              have BX := HBX.out.keep (hb3.block _ HBX.out.lt)
              have HB3 : Hid (Below w.heap.size w w3) := HB.out.trans (hb3.mono HB.out.size)
              have e0 : w3.cell? ⟨w.heap.size + 1, 0, none⟩ = some (.int .i64 a) := BX.cell 0
              have e1 : w3.cell? ⟨w.heap.size + 1, 1, none⟩ = some (.int .i64 b) := BX.cell 1
              have r0 : w3.cell? ⟨w.heap.size, 0, none⟩ = some (.int .i64 0) := BR.cell 0
              have r1 : w3.cell? ⟨w.heap.size, 1, none⟩ = some (.int .i64 0) := BR.cell 1
              have z0 := BR.frozen 0
              have z1 := BR.frozen 1
              clear BR BX hb3 c0 c1 RR HBR HBX
              go_wp2_with fail
              (try simp only [Exit.inBlock, Exit.then])
              have hres : Tryz.f11.results = #[.cell 2 23, .tmp 3] := by kernel_rfl
              first
                | (refine bodyPost_ret (v := .tuple #[.agg #[.int .i64 a, .int .i64 b], .bool true]) ?_ rfl ⟨by rw [HV.out]; rfl, (HB3.out.setCell (by simp) _).setCell (by simp) _⟩
                   simp only [results, hres]
                   go_simp)
                | (refine bodyPost_ret (v := .tuple #[.agg #[.int .i64 0, .int .i64 0], .bool false]) ?_ rfl ⟨by rw [HV.out]; rfl, (HB3.out.setCell (by simp) _).setCell (by simp) _⟩
                   simp only [results, hres]
                   go_simp)
        · have d1 : ((c.toNat : Int) == 64) = false := by simp; omega
          have HN' : Hid (∀ j : Nat, j < k + 1 → l[j]? ≠ some 64) := fun j hj => by
            rcases Nat.lt_or_ge j k with h | h
            · exact HN.out j h
            · have : j = k := by omega
              subst this
              rw [hc]
              intro e
              exact hx (by rw [Option.some.inj e]; rfl)
          have x5 : IntKind.i64.wrap ((k : Int) + 1) = (k : Int) + 1 := IntWalk.i64_in _ (by omega)
          clear hc hx HN
          go_wp2_with fail
          exact ⟨⟨k + 1, by omega, by go_num, HN', trivial⟩, by simp [intOf]; omega⟩
      · have HV : Hid (parseL l = none) := parse_none HR.out fun j => by
          rcases Nat.lt_or_ge j l.length with h | h
          · exact HN.out j (by omega)
          · rw [List.getElem?_eq_none h]; simp
        clear HN HR
        go_wp2_with fail
        (try simp only [Exit.inBlock, Exit.then])
        refine bodyPost_ret (v := .tuple #[.agg #[.int .i64 0, .int .i64 0], .bool false]) ?_ rfl ⟨by rw [HV.out]; rfl, (Below.refl _ w).alloc (Nat.le_refl _) _⟩
        have hres : Tryz.f11.results = #[.cell 2 23, .tmp 3] := by kernel_rfl
        simp only [results, hres]
        go_simp
end Go.Proofs.YtfaihilehdjfjaaGreatDoor
