/- Contracts: the document's Decode. -/
import Derived.Test.YtfaihilehdjfjaaDoorDec
namespace Go.Proofs.YtfaihilehdjfjaaDoor
open Go.ChangeShapes Go.WideShapes Go.ChangeAt Go.RowKit

theorem size1 (w : World) (p : Addr) (v : Value) : (w.setCell p v).heap.size = w.heap.size := by simp [World.setCell]
/-- what the document's GetSigned answers, and what the machine of reading makes of it -/
theorem signed_step (l : List UInt8) (a : Nat) (ha : a ≤ l.length) : ∃ (x : Int) (k : Nat), getSRV (getS (l.drop a)) = .tuple #[.int .i64 x, .int .i64 k] ∧ rdInt l a false = (x, a + k, k == 0) ∧ a + k ≤ l.length := by
  cases h : getS (l.drop a) with
  | none => exact ⟨0, 0, rfl, by simp [rdInt, h], by omega⟩
  | some x =>
    obtain ⟨n, k⟩ := x
    have h1 := getS_at2 h
    have h2 : (k == 0) = false := by simp; omega
    refine ⟨n, k, rfl, by simp [rdInt, h, h2], ?_⟩
    have h3 := h1.2
    rw [List.length_drop] at h3
    omega
set_option maxHeartbeats 32000000 in
set_option maxRecDepth 40000 in
theorem refDec_any {l : List UInt8} {D : Nat → Prop} {A : Option Addr} {c : Nat} {w : World} (hr : Reads D w 1 A l.length (bytesC l)) (hD : ∀ k, D k → k < w.heap.size) (hcap : l.length ≤ c) (hsm : l.length ≤ 9223372036854775807) :
    Calls Tryd.prog 33 #[.slice A l.length c] w fun e w' => DecPost (rdAll l) (.bool false) (.bool true) e w' ∧ Below w.heap.size w w' := by
  have HQ := Lib.hid (Blk.new w 36 #[.int .i64 0, .int .i64 0, .int .i64 0, .slice none 0 0, .slice none 0 0])
  have HB0 : Hid (Below w.heap.size w (w.alloc (.cells #[.int .i64 0, .int .i64 0, .int .i64 0, .slice none 0 0, .slice none 0 0] 36))) := (Below.refl _ w).alloc (Nat.le_refl _) _
  have hsz : (w.alloc (.cells #[.int .i64 0, .int .i64 0, .int .i64 0, .slice none 0 0, .slice none 0 0] 36)).heap.size = w.heap.size + 1 := by simp
  have HD : Hid (∀ k, D k → k < (w.alloc (.cells #[.int .i64 0, .int .i64 0, .int .i64 0, .slice none 0 0, .slice none 0 0] 36)).heap.size) := fun k hk => by have := hD k hk; rw [hsz]; omega
  have HR0 : Hid (Reads D (w.alloc (.cells #[.int .i64 0, .int .i64 0, .int .i64 0, .slice none 0 0, .slice none 0 0] 36)) 1 A l.length (bytesC l)) := hr.keep fun k hk => Below.heap_alloc _ _ k (hD k hk)
  have HAP : Hid (¬ D (w.heap.size + 1)) := fun e => by have := hD _ e; omega
  have HS1 : Hid (w.heap.size + 1 = (w.alloc (.cells #[.int .i64 0, .int .i64 0, .int .i64 0, .slice none 0 0, .slice none 0 0] 36)).heap.size) := hsz.symm
  clear hr hD hsz
  go_enter Tryd.func33, Tryd.ntmps33
  go_wp2_with fail
  generalize w.alloc (.cells #[.int .i64 0, .int .i64 0, .int .i64 0, .slice none 0 0, .slice none 0 0] 36) = V0 at *
  have HRS : Hid (RS V0 (w.heap.size + 1) (fun w' => DW w' (w.heap.size + 1) D A l c 0 false) (V0.alloc (.cells #[.slice A l.length c, .int .i64 0, .bool false] 115))) := by
    have e := HS1.out
    refine ⟨⟨?_, HR0.out.keep fun k hk => Below.heap_alloc _ _ k (HD.out k hk), HAP.out, Nat.zero_le _, hcap, hsm⟩, DW.stay HD.out, (Below.refl _ V0).alloc (Nat.le_refl _) _, by omega, by rw [World.size_alloc]; omega⟩
    rw [e]; exact Blk.new _ _ _
  have HS := Lib.hid (HRS.out.start #[.int .i64 0, .int .i64 0, .int .i64 0, .slice none 0 0, .slice none 0 0])
  have e2 : (V0.alloc (.cells #[.slice A l.length c, .int .i64 0, .bool false] 115)).heap.size = w.heap.size + 2 := by
    rw [World.size_alloc, ← HS1.out]
  rw [e2] at HS
  generalize (V0.alloc (.cells #[.slice A l.length c, .int .i64 0, .bool false] 115)).alloc (.cells #[.int .i64 0, .int .i64 0, .int .i64 0, .slice none 0 0, .slice none 0 0] 36) = w0 at HS ⊢
  clear HR0 HAP HRS e2
  generalize w.heap.size + 2 = gc at HS ⊢
  generalize w.heap.size + 1 = g at *
  obtain ⟨n3, a3, b3, hn⟩ : ∃ x a b, rdNum l 99 0 false = (x, a, b) := ⟨_, _, _, rfl⟩
  have N3 := Lib.hid hn
  have C := HS.out.num 99 HD.out (by omega)  hn
  clear hn
  go_at_call 74
  refine C.mono ?_
  rintro e w3 ⟨rfl, hs, hc⟩
  replace HS := Lib.hid hs
  clear C hs hc
  have m3 : n3 ≤ 99 := by have h := rdNum_le (l := l) (most := 99) (at_ := 0) (bad := false); rw [N3.out] at h; exact h
  have ce : w3.cell? ⟨gc, 0, none⟩ = some (.int .i64 0) := HS.out.bc.cell 0
  have fe := HS.out.bc.frozen 0
  go_wp2_with fail
  replace HS := Lib.hid (HS.out.setc 0 (.int .i64 n3) (cs' := #[.int .i64 n3, .int .i64 0, .int .i64 0, .slice none 0 0, .slice none 0 0]) rfl)
  generalize w3.setCell ⟨gc, 0, none⟩ (.int .i64 n3) = w3b at HS ⊢
  clear ce fe
  obtain ⟨n4, a4, b4, hn⟩ : ∃ x a b, rdNum l 1000000 a3 b3 = (x, a, b) := ⟨_, _, _, rfl⟩
  have N4 := Lib.hid hn
  have C := HS.out.num 1000000 HD.out (by omega)  hn
  clear hn
  go_at_call 74
  refine C.mono ?_
  rintro e w4 ⟨rfl, hs, hc⟩
  replace HS := Lib.hid hs
  clear C hs hc
  have m4 : n4 ≤ 1000000 := by have h := rdNum_le (l := l) (most := 1000000) (at_ := a3) (bad := b3); rw [N4.out] at h; exact h
  have ce : w4.cell? ⟨gc, 1, none⟩ = some (.int .i64 0) := HS.out.bc.cell 1
  have fe := HS.out.bc.frozen 1
  go_wp2_with fail
  replace HS := Lib.hid (HS.out.setc 1 (.int .i64 n4) (cs' := #[.int .i64 n3, .int .i64 n4, .int .i64 0, .slice none 0 0, .slice none 0 0]) rfl)
  generalize w4.setCell ⟨gc, 1, none⟩ (.int .i64 n4) = w4b at HS ⊢
  clear ce fe
  obtain ⟨n5, a5, b5, hn⟩ : ∃ x a b, rdNum l 1000000 a4 b4 = (x, a, b) := ⟨_, _, _, rfl⟩
  have N5 := Lib.hid hn
  have C := HS.out.num 1000000 HD.out (by omega)  hn
  clear hn
  go_at_call 74
  refine C.mono ?_
  rintro e w5 ⟨rfl, hs, hc⟩
  replace HS := Lib.hid hs
  clear C hs hc
  have m5 : n5 ≤ 1000000 := by have h := rdNum_le (l := l) (most := 1000000) (at_ := a4) (bad := b4); rw [N5.out] at h; exact h
  have ce : w5.cell? ⟨gc, 2, none⟩ = some (.int .i64 0) := HS.out.bc.cell 2
  have fe := HS.out.bc.frozen 2
  go_wp2_with fail
  replace HS := Lib.hid (HS.out.setc 2 (.int .i64 n5) (cs' := #[.int .i64 n3, .int .i64 n4, .int .i64 n5, .slice none 0 0, .slice none 0 0]) rfl)
  generalize w5.setCell ⟨gc, 2, none⟩ (.int .i64 n5) = w5b at HS ⊢
  clear ce fe
  obtain ⟨n6, a6, b6, hn⟩ : ∃ x a b, rdNum l 12 a5 b5 = (x, a, b) := ⟨_, _, _, rfl⟩
  have N6 := Lib.hid hn
  have C := HS.out.num 12 HD.out (by omega)  hn
  clear hn
  go_at_call 74
  refine C.mono ?_
  rintro e w6 ⟨rfl, hs, hc⟩
  replace HS := Lib.hid hs
  clear C hs hc
  have m6 : n6 ≤ 12 := by have h := rdNum_le (l := l) (most := 12) (at_ := a5) (bad := b5); rw [N6.out] at h; exact h
  have HP0 : Hid (rdPairs l 99 1000000 (a6, b6) 0 = ([], (a6, b6))) := rfl
  go_wp2_with fail
  go_loopw [8] (fun z wr => ∃ (j ad : Nat) (bd : Bool) (L : List Rf) (DV : Value) (B : Nat), j ≤ n6 ∧ z = .int .i64 j ∧ Hid (rdPairs l 99 1000000 (a6, b6) j = (L, (ad, bd))) ∧ Hid (DM V0 g gc (gc + 1) B (fun w => DW w g D A l c ad bd) wr #[.int .i64 n3, .int .i64 n4, .int .i64 n5, DV, .slice none 0 0] DV (.slice none 0 0) L [])) (fun z _ => n6 - (intOf z).toNat)
  case atStart => exact ⟨0, a6, b6, [], .slice none 0 0, _, by omega, rfl, HP0, HS⟩
  case round =>
    clear HS HP0
    obtain ⟨j, ad, bd, L, DV, B, hj, rfl, HP, HS⟩ := hrel
    by_cases hlt : j < n6
    · have hll := rdPairs_len' HP.out
      replace HS := Lib.hid HS.out.top
      generalize hB : wr.heap.size = B at HS
      have HGB : Hid (B ≤ wr.heap.size) := by rw [← hB]; exact Nat.le_refl _
      clear hB
      have HBR := Lib.hid (Blk.new wr 79 #[.int .i64 0, .int .i64 0])
      have HGN : Hid (gc + 1 ≤ B ∧ g < gc + 1) := ⟨HS.out.bB, HS.out.gb⟩
      replace HS := Lib.hid (HS.out.alloc (.cells #[.int .i64 0, .int .i64 0] 79))
      go_wp2_with fail
      generalize wr.alloc (.cells #[.int .i64 0, .int .i64 0] 79) = w10 at HS HBR ⊢
      generalize wr.heap.size = go at HGB HBR ⊢
      have HBR_ne : go ≠ g := by have h1 := HGB.out; have h2 := HGN.out; omega
      obtain ⟨n11, a11, b11, hn⟩ : ∃ x a b, rdNum l 99 ad bd = (x, a, b) := ⟨_, _, _, rfl⟩
      have N11 := Lib.hid hn
      have C := HS.out.num 99 HD.out (by omega)  hn
      clear hn
      go_at_call 74
      refine C.mono ?_
      rintro e w11 ⟨rfl, hs, hc⟩
      replace HS := Lib.hid hs
      replace HBR := Lib.hid (HBR.out.keep (hc.block _ HBR.out.lt HBR_ne))
      clear C hs hc
      have m11 : n11 ≤ 99 := by have h := rdNum_le (l := l) (most := 99) (at_ := ad) (bad := bd); rw [N11.out] at h; exact h
      have ce : w11.cell? ⟨go, 0, none⟩ = some (.int .i64 0) := HBR.out.cell 0
      have fe := HBR.out.frozen 0
      go_wp2_with fail
      replace HS := Lib.hid (HS.out.put HGB.out 0 (.int .i64 n11))
      replace HBR : Hid (Blk (w11.setCell ⟨go, 0, none⟩ (.int .i64 n11)) go 79 #[.int .i64 n11, .int .i64 0]) := HBR.out.set_ 0 (.int .i64 n11)
      generalize w11.setCell ⟨go, 0, none⟩ (.int .i64 n11) = w11b at HS HBR ⊢
      clear ce fe
      obtain ⟨n12, a12, b12, hn⟩ : ∃ x a b, rdNum l 1000000 a11 b11 = (x, a, b) := ⟨_, _, _, rfl⟩
      have N12 := Lib.hid hn
      have C := HS.out.num 1000000 HD.out (by omega)  hn
      clear hn
      go_at_call 74
      refine C.mono ?_
      rintro e w12 ⟨rfl, hs, hc⟩
      replace HS := Lib.hid hs
      replace HBR := Lib.hid (HBR.out.keep (hc.block _ HBR.out.lt HBR_ne))
      clear C hs hc
      have m12 : n12 ≤ 1000000 := by have h := rdNum_le (l := l) (most := 1000000) (at_ := a11) (bad := b11); rw [N12.out] at h; exact h
      have ce : w12.cell? ⟨go, 1, none⟩ = some (.int .i64 0) := HBR.out.cell 1
      have fe := HBR.out.frozen 1
      have e0 : w12.cell? ⟨go, 0, none⟩ = some (.int .i64 n11) := HBR.out.cell 0
      have c3 : w12.cell? ⟨gc, 3, none⟩ = some DV := HS.out.bc.cell 3
      have f3 := HS.out.bc.frozen 3
      have gl3 := HS.out.bc.lt
      have gl4 := HBR.out.lt
      have hgg : gc ≠ go := by have h1 := HGB.out; have h2 := HGN.out; omega
      have hgg2 : go ≠ gc := fun e => hgg e.symm
      have HPN : Hid (rdPairs l 99 1000000 (a6, b6) (j + 1) = (L ++ [((n11 : Int), (n12 : Int))], (a12, b12))) := rdPairs_next HP.out (rdPair_of N11.out N12.out)
      have HS12 := Lib.hid (HS.out.put HGB.out 1 (.int .i64 n12))
      have HB12 : Hid (Blk ((w12.setCell ⟨go, 1, none⟩ (.int .i64 n12)).alloc (.cells #[.int .i64 n11, .int .i64 n12] 79)) w12.heap.size 79 #[.int .i64 n11, .int .i64 n12]) := by
        have := Blk.new (w12.setCell ⟨go, 1, none⟩ (.int .i64 n12)) 79 #[.int .i64 n11, .int .i64 n12]
        rwa [size1] at this
      go_wp2_with (at_builtin; refine wpList_app rfl (.tmp 45) (.tmp 47) 22 22 rfl DV (.slice (some ⟨w12.heap.size, 0, none⟩) 1 1) rfl rfl _ ((HS12.out.alloc _).runD 22 _ Tryd.underlying22 HB12.out (by omega)) ?_)
      rintro v13 w13 hs13
      have hll2 : (L ++ [((n11 : Int), (n12 : Int))]).length = j + 1 := by simp [hll]
      obtain ⟨VA13, VC13, hv13, _, _, _⟩ := Reads.of_own hs13.ownD
      rw [hll2] at hv13
      subst hv13
      have g3 : w13.cell? ⟨gc, 3, none⟩ = some DV := hs13.bc.cell 3
      have gf3 := hs13.bc.frozen 3
      have HSF := Lib.hid (hs13.setc 3 (.slice VA13 (j + 1) VC13) rfl)
      clear hs13 ce fe e0 c3 f3 gl3 gl4 HS12 HB12 HS HBR
      go_wp2_with fail
      first
        | exact ⟨⟨j + 1, a12, b12, _, _, _, by omega, by go_num, HPN, HSF⟩, by simp [intOf]; omega⟩
        | (go_roundw
           case rel => exact ⟨j + 1, a12, b12, _, _, _, by omega, by go_num, HPN, HSF⟩
           case measure => simp [intOf]; omega)
    · have HPF : Hid (rdPairs l 99 1000000 (a6, b6) n6 = (L, (ad, bd))) := by
        have e : j = n6 := by omega
        rw [← e]; exact HP.out
      have hL5 := rdPairs_len' HPF.out
      clear HP
      go_wp2_with fail
      clear hlt hj
      obtain ⟨n14, a14, b14, hn⟩ : ∃ x a b, rdNum l 40 ad bd = (x, a, b) := ⟨_, _, _, rfl⟩
      have N14 := Lib.hid hn
      have C := HS.out.num 40 HD.out (by omega)  hn
      clear hn
      go_at_call 74
      refine C.mono ?_
      rintro e w14 ⟨rfl, hs, hc⟩
      replace HS := Lib.hid hs
      clear C hs hc
      have m14 : n14 ≤ 40 := by have h := rdNum_le (l := l) (most := 40) (at_ := ad) (bad := bd); rw [N14.out] at h; exact h
      have HO0 : Hid (rdOps l (a14, b14) 0 = (([] : List OpD).map base, (a14, b14))) := rfl
      go_wp2_with fail
      go_loopw [10] (fun z wr => ∃ (k a0 : Nat) (b0 : Bool) (os : List OpD) (OV : Value) (B : Nat), k ≤ n14 ∧ z = .int .i64 k ∧ os.length = k ∧ Hid (rdOps l (a14, b14) k = (os.map base, (a0, b0))) ∧ Hid (∀ o ∈ os, o.l.length ≤ 12) ∧ Hid (DM V0 g gc (gc + 1) B (fun w => DW w g D A l c a0 b0) wr #[.int .i64 n3, .int .i64 n4, .int .i64 n5, DV, OV] DV OV L os)) (fun z _ => n14 - (intOf z).toNat)
      case atStart => exact ⟨0, a14, b14, [], .slice none 0 0, _, by omega, rfl, rfl, HO0, (fun _ h => absurd h (by simp)), HS⟩
      case round =>
        clear HS HO0
        obtain ⟨k, a0, b0, os, OV, B, hk, rfl, hol, HO, HOP, HS⟩ := hrel
        by_cases hlt : k < n14
        · replace HS := Lib.hid HS.out.top
          generalize hB : wr.heap.size = B at HS
          have HGB : Hid (B ≤ wr.heap.size) := by rw [← hB]; exact Nat.le_refl _
          clear hB
          have HBO := Lib.hid (Blk.new wr 94 #[.int .i64 0, .int .i64 0, .int .i64 0, .string ⟨#[]⟩, .int .i64 0, .int .i64 0, .bool false, .int .i64 0, .int .i64 0, .string ⟨#[]⟩, .int .i64 0, .int .i64 0, .slice none 0 0])
          have HGN : Hid (gc + 1 ≤ B ∧ g < gc + 1) := ⟨HS.out.bB, HS.out.gb⟩
          replace HS := Lib.hid (HS.out.alloc (.cells #[.int .i64 0, .int .i64 0, .int .i64 0, .string ⟨#[]⟩, .int .i64 0, .int .i64 0, .bool false, .int .i64 0, .int .i64 0, .string ⟨#[]⟩, .int .i64 0, .int .i64 0, .slice none 0 0] 94))
          go_wp2_with fail
          generalize wr.alloc (.cells #[.int .i64 0, .int .i64 0, .int .i64 0, .string ⟨#[]⟩, .int .i64 0, .int .i64 0, .bool false, .int .i64 0, .int .i64 0, .string ⟨#[]⟩, .int .i64 0, .int .i64 0, .slice none 0 0] 94) = w18 at HS HBO ⊢
          generalize wr.heap.size = go at HGB HBO ⊢
          have HBO_ne : go ≠ g := by have h1 := HGB.out; have h2 := HGN.out; omega
          obtain ⟨n19, a19, b19, hn⟩ : ∃ x a b, rdNum l 4 a0 b0 = (x, a, b) := ⟨_, _, _, rfl⟩
          have N19 := Lib.hid hn
          have C := HS.out.num 4 HD.out (by omega)  hn
          clear hn
          go_at_call 74
          refine C.mono ?_
          rintro e w19 ⟨rfl, hs, hc⟩
          replace HS := Lib.hid hs
          replace HBO := Lib.hid (HBO.out.keep (hc.block _ HBO.out.lt HBO_ne))
          clear C hs hc
          have m19 : n19 ≤ 4 := by have h := rdNum_le (l := l) (most := 4) (at_ := a0) (bad := b0); rw [N19.out] at h; exact h
          have ce : w19.cell? ⟨go, 0, none⟩ = some (.int .i64 0) := HBO.out.cell 0
          have fe := HBO.out.frozen 0
          go_wp2_with fail
          replace HS := Lib.hid (HS.out.put HGB.out 0 (.int .i64 n19))
          replace HBO : Hid (Blk (w19.setCell ⟨go, 0, none⟩ (.int .i64 n19)) go 94 #[.int .i64 n19, .int .i64 0, .int .i64 0, .string ⟨#[]⟩, .int .i64 0, .int .i64 0, .bool false, .int .i64 0, .int .i64 0, .string ⟨#[]⟩, .int .i64 0, .int .i64 0, .slice none 0 0]) := HBO.out.set_ 0 (.int .i64 n19)
          generalize w19.setCell ⟨go, 0, none⟩ (.int .i64 n19) = w19b at HS HBO ⊢
          clear ce fe
          obtain ⟨n20, a20, b20, hn⟩ : ∃ x a b, rdNum l 1000000 a19 b19 = (x, a, b) := ⟨_, _, _, rfl⟩
          have N20 := Lib.hid hn
          have C := HS.out.num 1000000 HD.out (by omega)  hn
          clear hn
          go_at_call 74
          refine C.mono ?_
          rintro e w20 ⟨rfl, hs, hc⟩
          replace HS := Lib.hid hs
          replace HBO := Lib.hid (HBO.out.keep (hc.block _ HBO.out.lt HBO_ne))
          clear C hs hc
          have m20 : n20 ≤ 1000000 := by have h := rdNum_le (l := l) (most := 1000000) (at_ := a19) (bad := b19); rw [N20.out] at h; exact h
          have ce : w20.cell? ⟨go, 1, none⟩ = some (.int .i64 0) := HBO.out.cell 1
          have fe := HBO.out.frozen 1
          go_wp2_with fail
          replace HS := Lib.hid (HS.out.put HGB.out 1 (.int .i64 n20))
          replace HBO : Hid (Blk (w20.setCell ⟨go, 1, none⟩ (.int .i64 n20)) go 94 #[.int .i64 n19, .int .i64 n20, .int .i64 0, .string ⟨#[]⟩, .int .i64 0, .int .i64 0, .bool false, .int .i64 0, .int .i64 0, .string ⟨#[]⟩, .int .i64 0, .int .i64 0, .slice none 0 0]) := HBO.out.set_ 1 (.int .i64 n20)
          generalize w20.setCell ⟨go, 1, none⟩ (.int .i64 n20) = w20b at HS HBO ⊢
          clear ce fe
          obtain ⟨n21, a21, b21, hn⟩ : ∃ x a b, rdNum l 99 a20 b20 = (x, a, b) := ⟨_, _, _, rfl⟩
          have N21 := Lib.hid hn
          have C := HS.out.num 99 HD.out (by omega)  hn
          clear hn
          go_at_call 74
          refine C.mono ?_
          rintro e w21 ⟨rfl, hs, hc⟩
          replace HS := Lib.hid hs
          replace HBO := Lib.hid (HBO.out.keep (hc.block _ HBO.out.lt HBO_ne))
          clear C hs hc
          have m21 : n21 ≤ 99 := by have h := rdNum_le (l := l) (most := 99) (at_ := a20) (bad := b20); rw [N21.out] at h; exact h
          have ce : w21.cell? ⟨go, 2, none⟩ = some (.int .i64 0) := HBO.out.cell 2
          have fe := HBO.out.frozen 2
          go_wp2_with fail
          replace HS := Lib.hid (HS.out.put HGB.out 2 (.int .i64 n21))
          replace HBO : Hid (Blk (w21.setCell ⟨go, 2, none⟩ (.int .i64 n21)) go 94 #[.int .i64 n19, .int .i64 n20, .int .i64 n21, .string ⟨#[]⟩, .int .i64 0, .int .i64 0, .bool false, .int .i64 0, .int .i64 0, .string ⟨#[]⟩, .int .i64 0, .int .i64 0, .slice none 0 0]) := HBO.out.set_ 2 (.int .i64 n21)
          generalize w21.setCell ⟨go, 2, none⟩ (.int .i64 n21) = w21b at HS HBO ⊢
          clear ce fe
          obtain ⟨t22, a22, b22, hn⟩ : ∃ x a b, rdText l 20 a21 b21 = (x, a, b) := ⟨_, _, _, rfl⟩
          have N22 := Lib.hid hn
          have C := HS.out.text 20 HD.out (by omega) hn
          clear hn
          go_at_call 75
          refine C.mono ?_
          rintro e w22 ⟨rfl, hs, hc⟩
          replace HS := Lib.hid hs
          replace HBO := Lib.hid (HBO.out.keep (hc.block _ HBO.out.lt HBO_ne))
          clear C hs hc
          have ce : w22.cell? ⟨go, 3, none⟩ = some (.string ⟨#[]⟩) := HBO.out.cell 3
          have fe := HBO.out.frozen 3
          go_wp2_with fail
          replace HS := Lib.hid (HS.out.put HGB.out 3 (.string ⟨t22.toArray⟩))
          replace HBO : Hid (Blk (w22.setCell ⟨go, 3, none⟩ (.string ⟨t22.toArray⟩)) go 94 #[.int .i64 n19, .int .i64 n20, .int .i64 n21, .string ⟨t22.toArray⟩, .int .i64 0, .int .i64 0, .bool false, .int .i64 0, .int .i64 0, .string ⟨#[]⟩, .int .i64 0, .int .i64 0, .slice none 0 0]) := HBO.out.set_ 3 (.string ⟨t22.toArray⟩)
          generalize w22.setCell ⟨go, 3, none⟩ (.string ⟨t22.toArray⟩) = w22b at HS HBO ⊢
          clear ce fe
          obtain ⟨n23, a23, b23, hn⟩ : ∃ x a b, rdNum l 1000000 a22 b22 = (x, a, b) := ⟨_, _, _, rfl⟩
          have N23 := Lib.hid hn
          have C := HS.out.num 1000000 HD.out (by omega)  hn
          clear hn
          go_at_call 74
          refine C.mono ?_
          rintro e w23 ⟨rfl, hs, hc⟩
          replace HS := Lib.hid hs
          replace HBO := Lib.hid (HBO.out.keep (hc.block _ HBO.out.lt HBO_ne))
          clear C hs hc
          have m23 : n23 ≤ 1000000 := by have h := rdNum_le (l := l) (most := 1000000) (at_ := a22) (bad := b22); rw [N23.out] at h; exact h
          have ce : w23.cell? ⟨go, 4, none⟩ = some (.int .i64 0) := HBO.out.cell 4
          have fe := HBO.out.frozen 4
          go_wp2_with fail
          replace HS := Lib.hid (HS.out.put HGB.out 4 (.int .i64 n23))
          replace HBO : Hid (Blk (w23.setCell ⟨go, 4, none⟩ (.int .i64 n23)) go 94 #[.int .i64 n19, .int .i64 n20, .int .i64 n21, .string ⟨t22.toArray⟩, .int .i64 n23, .int .i64 0, .bool false, .int .i64 0, .int .i64 0, .string ⟨#[]⟩, .int .i64 0, .int .i64 0, .slice none 0 0]) := HBO.out.set_ 4 (.int .i64 n23)
          generalize w23.setCell ⟨go, 4, none⟩ (.int .i64 n23) = w23b at HS HBO ⊢
          clear ce fe
          obtain ⟨n24, a24, b24, hn⟩ : ∃ x a b, rdNum l 99 a23 b23 = (x, a, b) := ⟨_, _, _, rfl⟩
          have N24 := Lib.hid hn
          have C := HS.out.num 99 HD.out (by omega)  hn
          clear hn
          go_at_call 74
          refine C.mono ?_
          rintro e w24 ⟨rfl, hs, hc⟩
          replace HS := Lib.hid hs
          replace HBO := Lib.hid (HBO.out.keep (hc.block _ HBO.out.lt HBO_ne))
          clear C hs hc
          have m24 : n24 ≤ 99 := by have h := rdNum_le (l := l) (most := 99) (at_ := a23) (bad := b23); rw [N24.out] at h; exact h
          have ce : w24.cell? ⟨go, 5, none⟩ = some (.int .i64 0) := HBO.out.cell 5
          have fe := HBO.out.frozen 5
          go_wp2_with fail
          replace HS := Lib.hid (HS.out.put HGB.out 5 (.int .i64 n24))
          replace HBO : Hid (Blk (w24.setCell ⟨go, 5, none⟩ (.int .i64 n24)) go 94 #[.int .i64 n19, .int .i64 n20, .int .i64 n21, .string ⟨t22.toArray⟩, .int .i64 n23, .int .i64 n24, .bool false, .int .i64 0, .int .i64 0, .string ⟨#[]⟩, .int .i64 0, .int .i64 0, .slice none 0 0]) := HBO.out.set_ 5 (.int .i64 n24)
          generalize w24.setCell ⟨go, 5, none⟩ (.int .i64 n24) = w24b at HS HBO ⊢
          clear ce fe
          obtain ⟨n25, a25, b25, hn⟩ : ∃ x a b, rdNum l 1 a24 b24 = (x, a, b) := ⟨_, _, _, rfl⟩
          have N25 := Lib.hid hn
          have C := HS.out.num 1 HD.out (by omega)  hn
          clear hn
          go_at_call 74
          refine C.mono ?_
          rintro e w25 ⟨rfl, hs, hc⟩
          replace HS := Lib.hid hs
          replace HBO := Lib.hid (HBO.out.keep (hc.block _ HBO.out.lt HBO_ne))
          clear C hs hc
          have m25 : n25 ≤ 1 := by have h := rdNum_le (l := l) (most := 1) (at_ := a24) (bad := b24); rw [N25.out] at h; exact h
          generalize hins : (n25 == 1) = ins
          have hins2 : (((n25 : Nat) : Int) == 1) = ins := by rw [← hins]; cases h : (n25 == 1) <;> simp at h ⊢ <;> omega
          have HINS := Lib.hid hins
          clear hins
          have ce : w25.cell? ⟨go, 6, none⟩ = some (.bool false) := HBO.out.cell 6
          have fe := HBO.out.frozen 6
          go_wp2_with fail
          replace HS := Lib.hid (HS.out.put HGB.out 6 (.bool ins))
          replace HBO : Hid (Blk (w25.setCell ⟨go, 6, none⟩ (.bool ins)) go 94 #[.int .i64 n19, .int .i64 n20, .int .i64 n21, .string ⟨t22.toArray⟩, .int .i64 n23, .int .i64 n24, .bool ins, .int .i64 0, .int .i64 0, .string ⟨#[]⟩, .int .i64 0, .int .i64 0, .slice none 0 0]) := HBO.out.set_ 6 (.bool ins)
          generalize w25.setCell ⟨go, 6, none⟩ (.bool ins) = w25b at HS HBO ⊢
          clear ce fe
          obtain ⟨n27, a27, b27, hn⟩ : ∃ x a b, rdNum l 6 a25 b25 = (x, a, b) := ⟨_, _, _, rfl⟩
          have N27 := Lib.hid hn
          have C := HS.out.num 6 HD.out (by omega)  hn
          clear hn
          go_at_call 74
          refine C.mono ?_
          rintro e w27 ⟨rfl, hs, hc⟩
          replace HS := Lib.hid hs
          replace HBO := Lib.hid (HBO.out.keep (hc.block _ HBO.out.lt HBO_ne))
          clear C hs hc
          have m27 : n27 ≤ 6 := by have h := rdNum_le (l := l) (most := 6) (at_ := a25) (bad := b25); rw [N27.out] at h; exact h
          have c2 : w27.cell? ⟨g, 2, none⟩ = some (.bool b27) := HS.out.rd.blk.cell 2
          have hog : g ≠ go := fun e => HBO_ne e.symm
          cases b27
          case' true =>
            have ce : w27.cell? ⟨go, 7, none⟩ = some (.int .i64 0) := HBO.out.cell 7
            have fe := HBO.out.frozen 7
            go_wp2_with fail
            replace HS := Lib.hid (HS.out.put HGB.out 7 (.int .i64 n27))
            replace HBO : Hid (Blk (w27.setCell ⟨go, 7, none⟩ (.int .i64 n27)) go 94 #[.int .i64 n19, .int .i64 n20, .int .i64 n21, .string ⟨t22.toArray⟩, .int .i64 n23, .int .i64 n24, .bool ins, .int .i64 n27, .int .i64 0, .string ⟨#[]⟩, .int .i64 0, .int .i64 0, .slice none 0 0]) := HBO.out.set_ 7 (.int .i64 n27)
            generalize w27.setCell ⟨go, 7, none⟩ (.int .i64 n27) = w32 at HS HBO ⊢
            clear ce fe
            obtain ⟨x29, hx29⟩ : ∃ x : Int, (0 : Int) = x := ⟨_, rfl⟩
            obtain ⟨a29, ha29⟩ : ∃ x : Nat, a27 = x := ⟨_, rfl⟩
            obtain ⟨b29, hb29⟩ : ∃ x : Bool, true = x := ⟨_, rfl⟩
            have N29 : Hid (rdInt l a27 true = (x29, a29, b29)) := by show _ = _; rw [← hx29, ← ha29, ← hb29]; simp [rdInt]
            replace HBO : Hid (Blk w32 go 94 #[.int .i64 n19, .int .i64 n20, .int .i64 n21, .string ⟨t22.toArray⟩, .int .i64 n23, .int .i64 n24, .bool ins, .int .i64 n27, .int .i64 x29, .string ⟨#[]⟩, .int .i64 0, .int .i64 0, .slice none 0 0]) := by rw [← hx29]; exact HBO
            replace HS : Hid (DM V0 g gc (gc + 1) B (fun w => DW w g D A l c a29 b29) w32 #[.int .i64 n3, .int .i64 n4, .int .i64 n5, DV, OV] DV OV L os) := by rw [← ha29, ← hb29]; exact HS
            clear c2 hx29 ha29 hb29
          case' false =>
            have ce : w27.cell? ⟨go, 7, none⟩ = some (.int .i64 0) := HBO.out.cell 7
            have fe := HBO.out.frozen 7
            go_wp2_with fail
            replace HS := Lib.hid (HS.out.put HGB.out 7 (.int .i64 n27))
            replace HBO : Hid (Blk (w27.setCell ⟨go, 7, none⟩ (.int .i64 n27)) go 94 #[.int .i64 n19, .int .i64 n20, .int .i64 n21, .string ⟨t22.toArray⟩, .int .i64 n23, .int .i64 n24, .bool ins, .int .i64 n27, .int .i64 0, .string ⟨#[]⟩, .int .i64 0, .int .i64 0, .slice none 0 0]) := HBO.out.set_ 7 (.int .i64 n27)
            generalize w27.setCell ⟨go, 7, none⟩ (.int .i64 n27) = w27b at HS HBO ⊢
            clear ce fe
            have hrd := HS.out.rd
            have hgl := hrd.blk.lt
            have hat := hrd.le
            have c0 : w27b.cell? ⟨g, 0, none⟩ = some (.slice A l.length c) := hrd.blk.cell 0
            have c1 : w27b.cell? ⟨g, 1, none⟩ = some (.int .i64 a27) := hrd.blk.cell 1
            have hsl := fun w => slice_from A l.length c a27 hrd.le hrd.cap w
            have HCR := Lib.hid (cut_reads hrd.reads hrd.le hrd.cap)
            obtain ⟨x29, k29, hg1, hg2, hg3⟩ := signed_step l a27 hrd.le
            have CG := getSR_any (l.drop a27) D (if c = a27 then A else A.map (fun x => x.add a27)) (l.length - a27) (c - a27) (by simp) (by have := hrd.small; omega) w27b.drew HCR.out (fun k hk => Nat.lt_of_lt_of_le (HD.out k hk) HS.out.bel.size)
            rw [hg1] at CG
            have x1 : IntKind.i64.wrap ((a27 : Int) + (k29 : Int)) = (a27 : Int) + (k29 : Int) := IntWalk.i64_in _ (by omega)
            generalize hb29 : (k29 == 0) = b29 at hg2
            have hb29' : (((k29 : Nat) : Int) == 0) = b29 := by rw [← hb29]; cases h : (k29 == 0) <;> simp at h ⊢ <;> omega
            have N29 := Lib.hid hg2
            clear hrd hg1 hg2 hb29 c2
            generalize (if c = a27 then A else A.map (fun x => x.add a27)) = A' at *
            generalize l.length - a27 = n' at *
            generalize c - a27 = c' at *
            go_region_held3 (fun w' => w'.cell? ⟨g, 0, none⟩ = some (.slice A l.length c) ∧ w'.cell? ⟨g, 1, none⟩ = some (.int .i64 a27))
              (first | exact ⟨c0, c1⟩ | exact ⟨t0, t1⟩ | go_keep)
              ((go_at_call 76; refine CG.mono ?_; rintro e w29 ⟨rfl, hb⟩; have t0 := (hb.cell (p := ⟨g, 0, none⟩) (by exact hgl)).trans c0; have t1 := (hb.cell (p := ⟨g, 1, none⟩) (by exact hgl)).trans c1))
            have HS29 := Lib.hid (HS.out.drew.move (M := fun _ => False) (Chg.of_below hb) (fun _ e => e.elim))
            have HBO29 := Lib.hid (HBO.out.keep (hb.block _ HBO.out.lt))
            have d1 : w29.cell? ⟨g, 1, none⟩ = some (.int .i64 a27) := HS29.out.rd.blk.cell 1
            have d2 : w29.cell? ⟨g, 2, none⟩ = some (.bool false) := HS29.out.rd.blk.cell 2
            have df1 := HS29.out.rd.blk.frozen 1
            have df2 := HS29.out.rd.blk.frozen 2
            have e8 : w29.cell? ⟨go, 8, none⟩ = some (.int .i64 0) := HBO29.out.cell 8
            have fe8 := HBO29.out.frozen 8
            have HSn : Hid (DM V0 g gc (gc + 1) B (fun w => DW w g D A l c (a27 + k29) b29) (((w29.setCell ⟨go, 8, none⟩ (.int .i64 x29)).setCell ⟨g, 1, none⟩ (.int .i64 ((a27 : Int) + (k29 : Int)))).setCell ⟨g, 2, none⟩ (.bool b29)) #[.int .i64 n3, .int .i64 n4, .int .i64 n5, DV, OV] DV OV L os) := by
              have h30 := HS29.out.put HGB.out 8 (.int .i64 x29)
              have hc32 : Chg (fun k => k = g) (w29.setCell ⟨go, 8, none⟩ (.int .i64 x29)) (((w29.setCell ⟨go, 8, none⟩ (.int .i64 x29)).setCell ⟨g, 1, none⟩ (.int .i64 ((a27 : Int) + (k29 : Int)))).setCell ⟨g, 2, none⟩ (.bool b29)) := ((Chg.refl _).put1 1 _).put1 2 _
              exact h30.turn (R' := fun w => DW w g D A l c (a27 + k29) b29) (h30.rd.next ((h30.rd.blk.set_ 1 (.int .i64 ((a27 : Int) + (k29 : Int)))).set_ 2 (.bool b29)) hc32 (fun k hk => Nat.lt_of_lt_of_le (HD.out k hk) h30.bel.size) hg3) (DW.stay HD.out) hc32 (fun k hk => .inl hk)
            have HBOn : Hid (Blk (((w29.setCell ⟨go, 8, none⟩ (.int .i64 x29)).setCell ⟨g, 1, none⟩ (.int .i64 ((a27 : Int) + (k29 : Int)))).setCell ⟨g, 2, none⟩ (.bool b29)) go 94 #[.int .i64 n19, .int .i64 n20, .int .i64 n21, .string ⟨t22.toArray⟩, .int .i64 n23, .int .i64 n24, .bool ins, .int .i64 n27, .int .i64 x29, .string ⟨#[]⟩, .int .i64 0, .int .i64 0, .slice none 0 0]) :=
              ((HBO29.out.set_ 8 (.int .i64 x29)).far (p := ⟨g, 1, none⟩) HBO_ne _).far (p := ⟨g, 2, none⟩) HBO_ne _
            clear hb CG HS HBO HS29 HBO29 HCR hsl c0 c1 t0 t1 hg3 hgl hat
            go_wp2_with fail
            generalize ((w29.setCell ⟨go, 8, none⟩ (.int .i64 x29)).setCell ⟨g, 1, none⟩ (.int .i64 ((a27 : Int) + (k29 : Int)))).setCell ⟨g, 2, none⟩ (.bool b29) = w32 at HSn HBOn ⊢
            generalize a27 + k29 = a29 at HSn N29
            have HS := HSn
            have HBO := HBOn
            clear HSn HBOn d1 d2 df1 df2 e8 fe8 x1 hb29'
          all_goals
            obtain ⟨t33, a33, b33, hn⟩ : ∃ x a b, rdText l 60 a29 b29 = (x, a, b) := ⟨_, _, _, rfl⟩
            have N33 := Lib.hid hn
            have C := HS.out.text 60 HD.out (by omega) hn
            clear hn
            go_at_call 75
            refine C.mono ?_
            rintro e w33 ⟨rfl, hs, hc⟩
            replace HS := Lib.hid hs
            replace HBO := Lib.hid (HBO.out.keep (hc.block _ HBO.out.lt HBO_ne))
            clear C hs hc
            have ce : w33.cell? ⟨go, 9, none⟩ = some (.string ⟨#[]⟩) := HBO.out.cell 9
            have fe := HBO.out.frozen 9
            go_wp2_with fail
            replace HS := Lib.hid (HS.out.put HGB.out 9 (.string ⟨t33.toArray⟩))
            replace HBO : Hid (Blk (w33.setCell ⟨go, 9, none⟩ (.string ⟨t33.toArray⟩)) go 94 #[.int .i64 n19, .int .i64 n20, .int .i64 n21, .string ⟨t22.toArray⟩, .int .i64 n23, .int .i64 n24, .bool ins, .int .i64 n27, .int .i64 x29, .string ⟨t33.toArray⟩, .int .i64 0, .int .i64 0, .slice none 0 0]) := HBO.out.set_ 9 (.string ⟨t33.toArray⟩)
            generalize w33.setCell ⟨go, 9, none⟩ (.string ⟨t33.toArray⟩) = w33b at HS HBO ⊢
            clear ce fe
            obtain ⟨n34, a34, b34, hn⟩ : ∃ x a b, rdNum l 12 a33 b33 = (x, a, b) := ⟨_, _, _, rfl⟩
            have N34 := Lib.hid hn
            have C := HS.out.num 12 HD.out (by omega)  hn
            clear hn
            go_at_call 74
            refine C.mono ?_
            rintro e w34 ⟨rfl, hs, hc⟩
            replace HS := Lib.hid hs
            replace HBO := Lib.hid (HBO.out.keep (hc.block _ HBO.out.lt HBO_ne))
            clear C hs hc
            have m34 : n34 ≤ 12 := by have h := rdNum_le (l := l) (most := 12) (at_ := a33) (bad := b33); rw [N34.out] at h; exact h
            have HPP0 : Hid (rdPairs l 1000000 99 (a34, b34) 0 = ([], (a34, b34))) := rfl
            have HPW0 : Hid (w34.ownsRow B 44 2 (.slice none 0 0) ([] : List Rf).length (refC [])) := own_nil _ _ _ _
            go_wp2_with fail
            go_loopw [16] (fun z wr => ∃ (q ap : Nat) (bp : Bool) (ps : List Rf) (PV : Value), q ≤ n34 ∧ z = .int .i64 q ∧ Hid (rdPairs l 1000000 99 (a34, b34) q = (ps, (ap, bp))) ∧ Hid (DM V0 g gc (gc + 1) B (fun w => DW w g D A l c ap bp) wr #[.int .i64 n3, .int .i64 n4, .int .i64 n5, DV, OV] DV OV L os) ∧ Hid (Blk wr go 94 #[.int .i64 n19, .int .i64 n20, .int .i64 n21, .string ⟨t22.toArray⟩, .int .i64 n23, .int .i64 n24, .bool ins, .int .i64 n27, .int .i64 x29, .string ⟨t33.toArray⟩, .int .i64 0, .int .i64 0, PV]) ∧ Hid (wr.ownsRow B 44 2 PV ps.length (refC ps))) (fun z _ => n34 - (intOf z).toNat)
            case atStart => exact ⟨0, a34, b34, [], .slice none 0 0, by omega, rfl, HPP0, HS, HBO, HPW0⟩
            case round =>
              clear HS HPP0 HBO HPW0
              obtain ⟨q, ap, bp, ps, PV, hq, rfl, HPP, HS, HBO, HPW⟩ := hrel
              by_cases hlq : q < n34
              · have hpl := rdPairs_len' HPP.out
                have HBI := Lib.hid (Blk.new wr 44 #[.int .i64 0, .int .i64 0])
                have HPL : Hid (∀ z, PV.ownBlock = some z → z ≠ wr.heap.size) := fun z hz => by have := (own_lt HPW.out hz).2; omega
                have HGI : Hid (B ≤ wr.heap.size) := HS.out.hB
                have HOI : go ≠ wr.heap.size := by have := HBO.out.lt; omega
                replace HS := Lib.hid (HS.out.alloc (.cells #[.int .i64 0, .int .i64 0] 44))
                replace HBO := Lib.hid (HBO.out.alloc (.cells #[.int .i64 0, .int .i64 0] 44))
                replace HPW := Lib.hid (HPW.out.alloc (.cells #[.int .i64 0, .int .i64 0] 44))
                go_wp2_with fail
                generalize wr.alloc (.cells #[.int .i64 0, .int .i64 0] 44) = w38 at HS HBO HPW HBI ⊢
                generalize wr.heap.size = gi at HBI HPL HGI HOI ⊢
                have HBI_ne : gi ≠ g := by have h1 := HGI.out; have h2 := HGN.out; omega
                obtain ⟨n39, a39, b39, hn⟩ : ∃ x a b, rdNum l 1000000 ap bp = (x, a, b) := ⟨_, _, _, rfl⟩
                have N39 := Lib.hid hn
                have C := HS.out.num 1000000 HD.out (by omega)  hn
                clear hn
                go_at_call 74
                refine C.mono ?_
                rintro e w39 ⟨rfl, hs, hc⟩
                replace HS := Lib.hid hs
                replace HBO := Lib.hid (HBO.out.keep (hc.block _ HBO.out.lt HBO_ne))
                replace HBI := Lib.hid (HBI.out.keep (hc.block _ HBI.out.lt HBI_ne))
                replace HPW := Lib.hid (own_keep HPW.out (fun z hz => hc.block z (own_lt HPW.out hz).2 (by have h1 := (own_lt HPW.out hz).1; have h2 := HGN.out; omega)))
                clear C hs hc
                have m39 : n39 ≤ 1000000 := by have h := rdNum_le (l := l) (most := 1000000) (at_ := ap) (bad := bp); rw [N39.out] at h; exact h
                have ce : w39.cell? ⟨gi, 0, none⟩ = some (.int .i64 0) := HBI.out.cell 0
                have fe := HBI.out.frozen 0
                go_wp2_with fail
                replace HS := Lib.hid (HS.out.put HGI.out 0 (.int .i64 n39))
                replace HBO := Lib.hid (HBO.out.far (p := ⟨gi, 0, none⟩) HOI (.int .i64 n39))
                replace HPW := Lib.hid (own_keep (w' := w39.setCell ⟨gi, 0, none⟩ (.int .i64 n39)) HPW.out (fun z hz => Below.heap_setCell _ _ _ z (HPL.out z hz)))
                replace HBI : Hid (Blk (w39.setCell ⟨gi, 0, none⟩ (.int .i64 n39)) gi 44 #[.int .i64 n39, .int .i64 0]) := HBI.out.set_ 0 (.int .i64 n39)
                generalize w39.setCell ⟨gi, 0, none⟩ (.int .i64 n39) = w39b at HS HBI HBO HPW ⊢
                clear ce fe
                obtain ⟨n40, a40, b40, hn⟩ : ∃ x a b, rdNum l 99 a39 b39 = (x, a, b) := ⟨_, _, _, rfl⟩
                have N40 := Lib.hid hn
                have C := HS.out.num 99 HD.out (by omega)  hn
                clear hn
                go_at_call 74
                refine C.mono ?_
                rintro e w40 ⟨rfl, hs, hc⟩
                replace HS := Lib.hid hs
                replace HBO := Lib.hid (HBO.out.keep (hc.block _ HBO.out.lt HBO_ne))
                replace HBI := Lib.hid (HBI.out.keep (hc.block _ HBI.out.lt HBI_ne))
                replace HPW := Lib.hid (own_keep HPW.out (fun z hz => hc.block z (own_lt HPW.out hz).2 (by have h1 := (own_lt HPW.out hz).1; have h2 := HGN.out; omega)))
                clear C hs hc
                have m40 : n40 ≤ 99 := by have h := rdNum_le (l := l) (most := 99) (at_ := a39) (bad := b39); rw [N40.out] at h; exact h
                have HPN : Hid (rdPairs l 1000000 99 (a34, b34) (q + 1) = (ps ++ [((n39 : Int), (n40 : Int))], (a40, b40))) := rdPairs_next HPP.out (rdPair_of N39.out N40.out)
                have ce : w40.cell? ⟨gi, 1, none⟩ = some (.int .i64 0) := HBI.out.cell 1
                have fe := HBI.out.frozen 1
                have e0 : w40.cell? ⟨gi, 0, none⟩ = some (.int .i64 n39) := HBI.out.cell 0
                have c12 : w40.cell? ⟨go, 12, none⟩ = some PV := HBO.out.cell 12
                have f12 := HBO.out.frozen 12
                have l12 := HBO.out.lt
                have l13 := HBI.out.lt
                have HOI2 : gi ≠ go := fun e => HOI e.symm
                have HS40 := Lib.hid (HS.out.put HGI.out 1 (.int .i64 n40))
                have HBO40 := Lib.hid (HBO.out.far (p := ⟨gi, 1, none⟩) HOI (.int .i64 n40))
                have HPW40 : Hid ((w40.setCell ⟨gi, 1, none⟩ (.int .i64 n40)).ownsRow B 44 2 PV ps.length (refC ps)) := own_keep HPW.out (fun z hz => Below.heap_setCell _ _ _ z (HPL.out z hz))
                have HBI40 : Hid (Blk ((w40.setCell ⟨gi, 1, none⟩ (.int .i64 n40)).alloc (.cells #[.int .i64 n39, .int .i64 n40] 44)) w40.heap.size 44 #[.int .i64 n39, .int .i64 n40]) := by
                  have := Blk.new (w40.setCell ⟨gi, 1, none⟩ (.int .i64 n40)) 44 #[.int .i64 n39, .int .i64 n40]
                  rwa [size1] at this
                go_wp2_with (at_builtin; refine wpList_app rfl (.tmp 141) (.tmp 143) 41 41 rfl PV (.slice (some ⟨w40.heap.size, 0, none⟩) 1 1) rfl rfl _ ((HS40.out.alloc _).runP 41 _ Tryd.underlying41 HBI40.out (HPW40.out.alloc _) (by omega)) ?_)
                rintro v41 w41 hs41 ho41 hc41
                have hll41 : (ps ++ [((n39 : Int), (n40 : Int))]).length = q + 1 := by simp [hpl]
                obtain ⟨VA41, VC41, hv41, _, _, _⟩ := Reads.of_own ho41
                subst hv41
                have HB41 := Lib.hid ((HBO40.out.alloc (.cells #[.int .i64 n39, .int .i64 n40] 44)).keep (hc41.block _ (HBO40.out.alloc (.cells #[.int .i64 n39, .int .i64 n40] 44)).lt (own_blk_ne (HPW40.out.alloc (.cells #[.int .i64 n39, .int .i64 n40] 44)) (HBO40.out.alloc (.cells #[.int .i64 n39, .int .i64 n40] 44)) (by decide))))
                have HS41 := Lib.hid (hs41.put HGB.out 12 (.slice VA41 (q + 1) VC41))
                have HBF := Lib.hid (HB41.out.set_ 12 (.slice VA41 (q + 1) VC41))
                have hne41 := own_blk_ne ho41 HB41.out (by decide)
                have HPF41 : Hid ((w41.setCell ⟨go, 12, none⟩ (.slice VA41 (q + 1) VC41)).ownsRow B 44 2 (.slice VA41 (q + 1) VC41) (ps ++ [((n39 : Int), (n40 : Int))]).length (refC (ps ++ [((n39 : Int), (n40 : Int))]))) := by
                  show World.ownsRow _ _ _ _ _ _ _
                  rw [hll41]
                  exact own_keep ho41 (fun k hk => Below.heap_setCell _ _ _ k (fun e => hne41 (by rw [hk, e])))
                have u12 : w41.cell? ⟨go, 12, none⟩ = some PV := HB41.out.cell 12
                have uf12 := HB41.out.frozen 12
                clear hs41 ho41 hc41 HB41 HS40 HBO40 HPW40 HBI40 HS HBO HPW HBI ce fe e0 c12 f12 l12 l13
                go_wp2_with fail
                first
                  | exact ⟨⟨q + 1, a40, b40, _, _, by omega, by go_num, HPN, HS41, HBF, HPF41⟩, by simp [intOf]; omega⟩
                  | (go_roundw
                     case rel => exact ⟨q + 1, a40, b40, _, _, by omega, by go_num, HPN, HS41, HBF, HPF41⟩
                     case measure => simp [intOf]; omega)
              · have HPE : Hid (rdPairs l 1000000 99 (a34, b34) n34 = (ps, (ap, bp))) := by
                  have e : q = n34 := by omega
                  rw [← e]; exact HPP.out
                clear HPP
                obtain ⟨PA, PC, hpv, _, _, _⟩ := Reads.of_own HPW.out
                subst hpv
                have HOP2 : Hid (∀ o ∈ os ++ [(⟨n19, n20, n21, ⟨t22.toArray⟩, n23, n24, ins, n27, x29, ⟨t33.toArray⟩, 0, 0, PA, PC, ps⟩ : OpD)], o.l.length ≤ 12) := by
                  intro o ho
                  rcases List.mem_append.1 ho with ho | ho
                  · exact HOP.out o ho
                  · obtain rfl := List.mem_singleton.1 ho
                    have hpl := rdPairs_len' HPE.out
                    show ps.length ≤ 12
                    omega
                have HON : Hid (rdOps l (a14, b14) (k + 1) = ((os ++ [(⟨n19, n20, n21, ⟨t22.toArray⟩, n23, n24, ins, n27, x29, ⟨t33.toArray⟩, 0, 0, PA, PC, ps⟩ : OpD)]).map base, (ap, bp))) := by
                  show _ = _
                  have h1 := rdOp_of N19.out N20.out N21.out N22.out N23.out N24.out N25.out N27.out N29.out N33.out N34.out HPE.out
                  rw [HINS.out] at h1
                  rw [rdOps_next HO.out h1, List.map_append]
                  rfl
                obtain ⟨e0, e1, e2, e3, e4, e5, e6, e7, e8, e9, e10, e11, e12⟩ := blk13 HBO.out
                have c4 : wr.cell? ⟨gc, 4, none⟩ = some OV := HS.out.bc.cell 4
                have f4 := HS.out.bc.frozen 4
                have gl := HS.out.bc.lt
                have gol := HBO.out.lt
                have HPB : Hid (wr.ownsRow (gc + 1) 44 2 (.slice PA ps.length PC) ps.length (refC ps)) := own_base HPW.out (fun g hg => by have h1 := (own_lt HPW.out hg).1; have h2 := HGN.out; omega)
                go_wp2_with (at_builtin; refine wpList_app rfl (.tmp 147) (.tmp 149) 34 34 rfl OV (.slice (some ⟨wr.heap.size, 0, none⟩) 1 1) rfl rfl _ ((HS.out.alloc _).runO (o := (⟨n19, n20, n21, ⟨t22.toArray⟩, n23, n24, ins, n27, x29, ⟨t33.toArray⟩, 0, 0, PA, PC, ps⟩ : OpD)) 34 _ Tryd.underlying34 (Blk.new _ _ _) (by omega) (HPB.out.alloc _)) ?_)
                rintro v42 w42 hs42
                obtain ⟨OA42, OC42, hv42, _, _, _⟩ := Reads.of_own hs42.ownO
                subst hv42
                have g4 : w42.cell? ⟨gc, 4, none⟩ = some OV := hs42.bc.cell 4
                have gf4 := hs42.bc.frozen 4
                have HSF := Lib.hid (hs42.setc 4 (.slice OA42 (os ++ [(⟨n19, n20, n21, ⟨t22.toArray⟩, n23, n24, ins, n27, x29, ⟨t33.toArray⟩, 0, 0, PA, PC, ps⟩ : OpD)]).length OC42) rfl)
                have hol2 : (os ++ [(⟨n19, n20, n21, ⟨t22.toArray⟩, n23, n24, ins, n27, x29, ⟨t33.toArray⟩, 0, 0, PA, PC, ps⟩ : OpD)]).length = k + 1 := by rw [List.length_append, hol]; rfl
                clear hs42 e0 e1 e2 e3 e4 e5 e6 e7 e8 e9 e10 e11 e12 c4 f4 gl gol HBO HPB HPW HS
                generalize os ++ [(⟨n19, n20, n21, ⟨t22.toArray⟩, n23, n24, ins, n27, x29, ⟨t33.toArray⟩, 0, 0, PA, PC, ps⟩ : OpD)] = os2 at HSF HON HOP2 hol2 ⊢
                rw [hol2] at HSF
                try rw [hol2]
                go_wp2_with fail
                first
                  | exact ⟨⟨k + 1, ap, bp, os2, _, _, by omega, by go_num, hol2, HON, HOP2, HSF⟩, by simp [intOf]; omega⟩
                  | (go_roundw
                     case rel => exact ⟨k + 1, ap, bp, os2, _, _, by omega, by go_num, hol2, HON, HOP2, HSF⟩
                     case measure => simp [intOf]; omega)
        · have HOF : Hid (rdOps l (a14, b14) n14 = (os.map base, (a0, b0))) := by
            have e : k = n14 := by omega
            rw [← e]; exact HO.out
          have HALL := Lib.hid (rdAll_of N3.out N4.out N5.out N6.out HPF.out N14.out HOF.out)
          clear HO
          have HQ2 := Lib.hid (HQ.out.keep (HS.out.bel.block _ HQ.out.lt))
          have hrb := HS.out.rd.blk
          cases b0 with
          | true =>
            have c2 : wr.cell? ⟨g, 2, none⟩ = some (.bool true) := hrb.cell 2
            have q0 := HQ2.out.frozen 0
            have q1 := HQ2.out.frozen 1
            have q2 := HQ2.out.frozen 2
            have q3 := HQ2.out.frozen 3
            have q4 := HQ2.out.frozen 4
            obtain ⟨p0, p1, p2, p3, p4⟩ := blk5 HQ2.out
            go_wp2_with fail
            refine bodyPost_ret (results_pair (p := 2) (u := 3) (v := 4) (by kernel_rfl) _ _ w.heap.size _ #[.int .i64 0, .int .i64 0, .int .i64 0, .slice none 0 0, .slice none 0 0] _ rfl (((((HQ2.out.set_ 0 _).set_ 1 _).set_ 2 _).set_ 3 _).set_ 4 _) Tryd.underlying36 rfl (by kernel_rfl)) rfl ?_
            exact ⟨.inl ⟨Or.inl (by rw [HALL.out]), rfl⟩, ((((((HB0.out.trans (HS.out.bel.mono HB0.out.size)).setCell (p := ⟨w.heap.size, 0, none⟩) (Nat.le_refl _) _).setCell (p := ⟨w.heap.size, 1, none⟩) (Nat.le_refl _) _).setCell (p := ⟨w.heap.size, 2, none⟩) (Nat.le_refl _) _).setCell (p := ⟨w.heap.size, 3, none⟩) (Nat.le_refl _) _).setCell (p := ⟨w.heap.size, 4, none⟩) (Nat.le_refl _) _)⟩
          | false =>
            have hosl := HOF.out
            obtain ⟨DA, DC, OA, OC, hDV, hOV, hCM⟩ := HS.out.chm (by omega) (by omega) (fun o ho => by have := HOP.out o ho; omega)
            subst hDV hOV
            have HCM := Lib.hid hCM
            have HCK := Lib.hid (refChange_any n3 n4 n5 L DA n6 DC os OA k OC _ hCM hL5 hol)
            have c2 : wr.cell? ⟨g, 2, none⟩ = some (.bool false) := hrb.cell 2
            obtain ⟨d0, d1, d2, d3, d4⟩ := blk5 HS.out.bc
            have hE0 : chgE n3 n4 n5 L (os.map base) = chgE n3 n4 n5 L os := chgE_base (ops_base rfl)
            have HE0 := Lib.hid hE0
            obtain ⟨ce, hce⟩ : ∃ ce, chgE n3 n4 n5 L os = ce := ⟨_, rfl⟩
            rw [hce] at HCK
            have HCE := Lib.hid hce
            clear hce hE0 hosl hCM
            by_cases h0 : ce = 0
            · subst h0
              go_wp2_with fail
              go_at_call 15
              refine HCK.out.mono ?_
              rintro e w23 ⟨rfl, hb⟩
              have HQ3 := Lib.hid (HQ2.out.keep (hb.block _ HQ2.out.lt))
              have HW3 := Lib.hid ((HB0.out.trans (HS.out.bel.mono HB0.out.size)).trans (hb.mono (HB0.out.trans (HS.out.bel.mono HB0.out.size)).size))
              have HC3 := Lib.hid (HS.out.bc.keep (hb.block _ HS.out.bc.lt))
              have c1 : w23.cell? ⟨g, 1, none⟩ = some (.int .i64 a0) := (hb.cell (p := ⟨g, 1, none⟩) (by exact hrb.lt)).trans (hrb.cell 1)
              have HCF : Hid (∀ w', (∀ k, k ≠ w.heap.size → w'.heap[k]? = w23.heap[k]?) → w23.heap.size ≤ w'.heap.size → ChM w' L DA os OA) := fun w' hk hs => HS.out.chm_at rfl rfl (by omega) (by omega) (fun o ho => by have := HOP.out o ho; omega) (fun k h1 h2 => (hk k (by have h3 := HQ.out.lt; have h4 := HS.out.hgc; omega)).trans (hb.block k h2)) (Nat.le_trans hb.size hs)
              obtain ⟨x0, x1, x2, x3, x4⟩ := blk5 HC3.out
              have q0 := HQ3.out.frozen 0
              have q1 := HQ3.out.frozen 1
              have q2 := HQ3.out.frozen 2
              have q3 := HQ3.out.frozen 3
              have q4 := HQ3.out.frozen 4
              obtain ⟨p0, p1, p2, p3, p4⟩ := blk5 HQ3.out
              have hgne : g ≠ w.heap.size := by have h1 := HQ.out.lt; have h2 := HS1.out; omega
              have hgne2 : w.heap.size ≠ g := fun e => hgne e.symm
              clear hb d0 d1 d2 d3 d4 c2
              go_wp2_with fail
              refine wp_region_any (by kernel_rfl) ?_
              change wpAny _ _ _ _ _ _ _ (World.drew _)
              refine wpAny_take (i := 1) (v := ?_) rfl (by kernel_rfl) (by kernel_rfl) (by kernel_rfl) (fun _ _ _ h => h) (Or.inl ⟨by rfl, ?_⟩) ?_
              rotate_left
              · (intro w; go_simp; try with_reducible rfl)
              try simp only [Act.put, List.setIfInBounds_toArray, List.set_cons_zero, List.set_cons_succ]
              refine wpAny_take (i := 2) (v := ?_) rfl (by kernel_rfl) (by kernel_rfl) (by kernel_rfl) (fun _ _ _ h => h) (Or.inl ⟨by rfl, ?_⟩) ?_
              rotate_left
              · (intro w; go_simp; try with_reducible rfl)
              try simp only [Act.put, List.setIfInBounds_toArray, List.set_cons_zero, List.set_cons_succ]
              refine wpAny_take (i := 3) (v := ?_) rfl (by kernel_rfl) (by kernel_rfl) (by kernel_rfl) (fun _ _ _ h => h) (Or.inl ⟨by rfl, ?_⟩) ?_
              rotate_left
              · (intro w; go_simp; try with_reducible rfl)
              try simp only [Act.put, List.setIfInBounds_toArray, List.set_cons_zero, List.set_cons_succ]
              refine wpAny_ready (rs := [0, 4]) (by kernel_rfl) (by simp) ?_
              refine AllReady.cons rfl (fun K hK => ?_) (AllReady.cons rfl (fun K hK => ?_) AllReady.nil)
              · skip
                go_simp
                refine hK _ _ ?_
                clear hK K
                try simp only [Act.put, List.setIfInBounds_toArray, List.set_cons_zero, List.set_cons_succ]
                refine wpAny_ready (rs := [4, 5]) (by kernel_rfl) (by simp) ?_
                refine AllReady.cons rfl (fun K hK => ?_) (AllReady.cons rfl (fun K hK => ?_) AllReady.nil)
                · skip
                  go_simp
                  refine hK _ _ ?_
                  clear hK K
                  try simp only [Act.put, List.setIfInBounds_toArray, List.set_cons_zero, List.set_cons_succ]
                  refine wpAny_ready (rs := [5]) (by kernel_rfl) (by simp) ?_
                  refine AllReady.cons rfl (fun K hK => ?_) AllReady.nil
                  go_simp
                  refine hK _ _ ?_
                  clear hK K
                  try simp only [Act.put, List.setIfInBounds_toArray, List.set_cons_zero, List.set_cons_succ]
                  refine wpAny_ready (rs := [6]) (by kernel_rfl) (by simp) ?_
                  refine AllReady.cons rfl (fun K hK => ?_) AllReady.nil
                  go_simp
                  refine hK _ _ ?_
                  clear hK K
                  try simp only [Act.put, List.setIfInBounds_toArray, List.set_cons_zero, List.set_cons_succ]
                  refine wpAny_ready (rs := [7]) (by kernel_rfl) (by simp) ?_
                  refine AllReady.cons rfl (fun K hK => ?_) AllReady.nil
                  go_simp
                  refine hK _ _ ?_
                  clear hK K
                  try simp only [Act.put, List.setIfInBounds_toArray, List.set_cons_zero, List.set_cons_succ]
                  refine wpAny_done (by kernel_rfl) ?_ _
                  go_wp2_with fail
                  refine bodyPost_ret (results_pair (p := 2) (u := 3) (v := 4) (by kernel_rfl) _ _ w.heap.size _ #[.int .i64 n3, .int .i64 n4, .int .i64 n5, .slice DA n6 DC, .slice OA k OC] _ rfl (Blk.drew_ (((((HQ3.out.set_ 0 _).set_ 1 _).set_ 2 _).set_ 3 _).set_ 4 _)) Tryd.underlying36 rfl (by kernel_rfl)) rfl ?_
                  refine ⟨?_, (((((HW3.out.setCell (p := ⟨w.heap.size, 0, none⟩) (Nat.le_refl _) _).setCell (p := ⟨w.heap.size, 1, none⟩) (Nat.le_refl _) _).setCell (p := ⟨w.heap.size, 2, none⟩) (Nat.le_refl _) _).setCell (p := ⟨w.heap.size, 3, none⟩) (Nat.le_refl _) _).setCell (p := ⟨w.heap.size, 4, none⟩) (Nat.le_refl _) _).drew⟩
                  rw [HALL.out]
                  refine Or.inr ⟨rfl, HE0.out.trans HCE.out, DA, DC, OA, OC, os, rfl, ?_, ?_⟩
                  · refine HCF.out _ (fun k hk => ?_) ?_
                    · exact heap5d w23 w.heap.size _ _ _ _ _ k hk
                    · exact size5d w23 w.heap.size _ _ _ _ _
                  · show _ = Ending.returned (.tuple #[.agg #[.int .i64 n3, .int .i64 n4, .int .i64 n5, .slice DA L.length DC, .slice OA os.length OC], .int .i64 a0, .bool true])
                    rw [hL5, hol]
                    rfl
                · skip
                  go_simp
                  refine hK _ _ ?_
                  clear hK K
                  try simp only [Act.put, List.setIfInBounds_toArray, List.set_cons_zero, List.set_cons_succ]
                  refine wpAny_ready (rs := [4]) (by kernel_rfl) (by simp) ?_
                  refine AllReady.cons rfl (fun K hK => ?_) AllReady.nil
                  go_simp
                  refine hK _ _ ?_
                  clear hK K
                  try simp only [Act.put, List.setIfInBounds_toArray, List.set_cons_zero, List.set_cons_succ]
                  refine wpAny_ready (rs := [6]) (by kernel_rfl) (by simp) ?_
                  refine AllReady.cons rfl (fun K hK => ?_) AllReady.nil
                  go_simp
                  refine hK _ _ ?_
                  clear hK K
                  try simp only [Act.put, List.setIfInBounds_toArray, List.set_cons_zero, List.set_cons_succ]
                  refine wpAny_ready (rs := [7]) (by kernel_rfl) (by simp) ?_
                  refine AllReady.cons rfl (fun K hK => ?_) AllReady.nil
                  go_simp
                  refine hK _ _ ?_
                  clear hK K
                  try simp only [Act.put, List.setIfInBounds_toArray, List.set_cons_zero, List.set_cons_succ]
                  refine wpAny_done (by kernel_rfl) ?_ _
                  go_wp2_with fail
                  refine bodyPost_ret (results_pair (p := 2) (u := 3) (v := 4) (by kernel_rfl) _ _ w.heap.size _ #[.int .i64 n3, .int .i64 n4, .int .i64 n5, .slice DA n6 DC, .slice OA k OC] _ rfl (Blk.drew_ (((((HQ3.out.set_ 0 _).set_ 1 _).set_ 2 _).set_ 3 _).set_ 4 _)) Tryd.underlying36 rfl (by kernel_rfl)) rfl ?_
                  refine ⟨?_, (((((HW3.out.setCell (p := ⟨w.heap.size, 0, none⟩) (Nat.le_refl _) _).setCell (p := ⟨w.heap.size, 1, none⟩) (Nat.le_refl _) _).setCell (p := ⟨w.heap.size, 2, none⟩) (Nat.le_refl _) _).setCell (p := ⟨w.heap.size, 3, none⟩) (Nat.le_refl _) _).setCell (p := ⟨w.heap.size, 4, none⟩) (Nat.le_refl _) _).drew⟩
                  rw [HALL.out]
                  refine Or.inr ⟨rfl, HE0.out.trans HCE.out, DA, DC, OA, OC, os, rfl, ?_, ?_⟩
                  · refine HCF.out _ (fun k hk => ?_) ?_
                    · exact heap5d w23 w.heap.size _ _ _ _ _ k hk
                    · exact size5d w23 w.heap.size _ _ _ _ _
                  · show _ = Ending.returned (.tuple #[.agg #[.int .i64 n3, .int .i64 n4, .int .i64 n5, .slice DA L.length DC, .slice OA os.length OC], .int .i64 a0, .bool true])
                    rw [hL5, hol]
                    rfl
              · skip
                go_simp
                refine hK _ _ ?_
                clear hK K
                try simp only [Act.put, List.setIfInBounds_toArray, List.set_cons_zero, List.set_cons_succ]
                refine wpAny_ready (rs := [0]) (by kernel_rfl) (by simp) ?_
                refine AllReady.cons rfl (fun K hK => ?_) AllReady.nil
                go_simp
                refine hK _ _ ?_
                clear hK K
                try simp only [Act.put, List.setIfInBounds_toArray, List.set_cons_zero, List.set_cons_succ]
                refine wpAny_ready (rs := [5]) (by kernel_rfl) (by simp) ?_
                refine AllReady.cons rfl (fun K hK => ?_) AllReady.nil
                go_simp
                refine hK _ _ ?_
                clear hK K
                try simp only [Act.put, List.setIfInBounds_toArray, List.set_cons_zero, List.set_cons_succ]
                refine wpAny_ready (rs := [6]) (by kernel_rfl) (by simp) ?_
                refine AllReady.cons rfl (fun K hK => ?_) AllReady.nil
                go_simp
                refine hK _ _ ?_
                clear hK K
                try simp only [Act.put, List.setIfInBounds_toArray, List.set_cons_zero, List.set_cons_succ]
                refine wpAny_ready (rs := [7]) (by kernel_rfl) (by simp) ?_
                refine AllReady.cons rfl (fun K hK => ?_) AllReady.nil
                go_simp
                refine hK _ _ ?_
                clear hK K
                try simp only [Act.put, List.setIfInBounds_toArray, List.set_cons_zero, List.set_cons_succ]
                refine wpAny_done (by kernel_rfl) ?_ _
                go_wp2_with fail
                refine bodyPost_ret (results_pair (p := 2) (u := 3) (v := 4) (by kernel_rfl) _ _ w.heap.size _ #[.int .i64 n3, .int .i64 n4, .int .i64 n5, .slice DA n6 DC, .slice OA k OC] _ rfl (Blk.drew_ (((((HQ3.out.set_ 0 _).set_ 1 _).set_ 2 _).set_ 3 _).set_ 4 _)) Tryd.underlying36 rfl (by kernel_rfl)) rfl ?_
                refine ⟨?_, (((((HW3.out.setCell (p := ⟨w.heap.size, 0, none⟩) (Nat.le_refl _) _).setCell (p := ⟨w.heap.size, 1, none⟩) (Nat.le_refl _) _).setCell (p := ⟨w.heap.size, 2, none⟩) (Nat.le_refl _) _).setCell (p := ⟨w.heap.size, 3, none⟩) (Nat.le_refl _) _).setCell (p := ⟨w.heap.size, 4, none⟩) (Nat.le_refl _) _).drew⟩
                rw [HALL.out]
                refine Or.inr ⟨rfl, HE0.out.trans HCE.out, DA, DC, OA, OC, os, rfl, ?_, ?_⟩
                · refine HCF.out _ (fun k hk => ?_) ?_
                  · exact heap5d w23 w.heap.size _ _ _ _ _ k hk
                  · exact size5d w23 w.heap.size _ _ _ _ _
                · show _ = Ending.returned (.tuple #[.agg #[.int .i64 n3, .int .i64 n4, .int .i64 n5, .slice DA L.length DC, .slice OA os.length OC], .int .i64 a0, .bool true])
                  rw [hL5, hol]
                  rfl
            · have dce : ((ce : Int) == 0) = false := by simp; omega
              go_wp2_with fail
              go_at_call 15
              refine HCK.out.mono ?_
              rintro e w23 ⟨rfl, hb⟩
              have HQ3 := Lib.hid (HQ2.out.keep (hb.block _ HQ2.out.lt))
              have HW3 := Lib.hid ((HB0.out.trans (HS.out.bel.mono HB0.out.size)).trans (hb.mono (HB0.out.trans (HS.out.bel.mono HB0.out.size)).size))
              have q0 := HQ3.out.frozen 0
              have q1 := HQ3.out.frozen 1
              have q2 := HQ3.out.frozen 2
              have q3 := HQ3.out.frozen 3
              have q4 := HQ3.out.frozen 4
              obtain ⟨p0, p1, p2, p3, p4⟩ := blk5 HQ3.out
              clear hb d0 d1 d2 d3 d4 c2
              go_wp2_with fail
              refine bodyPost_ret (results_pair (p := 2) (u := 3) (v := 4) (by kernel_rfl) _ _ w.heap.size _ #[.int .i64 0, .int .i64 0, .int .i64 0, .slice none 0 0, .slice none 0 0] _ rfl (((((HQ3.out.set_ 0 _).set_ 1 _).set_ 2 _).set_ 3 _).set_ 4 _) Tryd.underlying36 rfl (by kernel_rfl)) rfl ?_
              exact ⟨.inl ⟨Or.inr (by rw [HALL.out]; show chgE n3 n4 n5 L (os.map base) ≠ 0; rw [HE0.out, HCE.out]; exact h0), rfl⟩, (((((HW3.out.setCell (p := ⟨w.heap.size, 0, none⟩) (Nat.le_refl _) _).setCell (p := ⟨w.heap.size, 1, none⟩) (Nat.le_refl _) _).setCell (p := ⟨w.heap.size, 2, none⟩) (Nat.le_refl _) _).setCell (p := ⟨w.heap.size, 3, none⟩) (Nat.le_refl _) _).setCell (p := ⟨w.heap.size, 4, none⟩) (Nat.le_refl _) _)⟩
end Go.Proofs.YtfaihilehdjfjaaDoor
