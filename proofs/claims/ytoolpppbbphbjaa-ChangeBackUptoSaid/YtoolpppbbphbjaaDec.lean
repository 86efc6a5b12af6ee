/- Contracts: change.Decode. -/
import Derived.Test.YtoolpppbbphbjaaDecM
import Derived.Deep.RegionHeld3
namespace Go.Proofs.Ytoolpppbbphbjaa
open Go.ChangeShapes Go.WideShapes Go.ChangeAt Go.RowKit

theorem blk5 {w : World} {g : Nat} {t : TypeId} {v0 v1 v2 v3 v4 : Value} (h : Blk w g t #[v0, v1, v2, v3, v4]) :
    w.cell? ⟨g, 0, none⟩ = some v0 ∧ w.cell? ⟨g, 1, none⟩ = some v1 ∧ w.cell? ⟨g, 2, none⟩ = some v2 ∧ w.cell? ⟨g, 3, none⟩ = some v3 ∧ w.cell? ⟨g, 4, none⟩ = some v4 :=
  ⟨h.cell 0, h.cell 1, h.cell 2, h.cell 3, h.cell 4⟩
theorem heap5 (w : World) (g : Nat) (v0 v1 v2 v3 v4 : Value) (k : Nat) (h : k ≠ g) :
    (((((w.setCell ⟨g, 0, none⟩ v0).setCell ⟨g, 1, none⟩ v1).setCell ⟨g, 2, none⟩ v2).setCell ⟨g, 3, none⟩ v3).setCell ⟨g, 4, none⟩ v4).heap[k]? = w.heap[k]? :=
  (Below.heap_setCell _ _ _ k h).trans ((Below.heap_setCell _ _ _ k h).trans ((Below.heap_setCell _ _ _ k h).trans ((Below.heap_setCell _ _ _ k h).trans (Below.heap_setCell _ _ _ k h))))
theorem size5 (w : World) (g : Nat) (v0 v1 v2 v3 v4 : Value) :
    w.heap.size ≤ (((((w.setCell ⟨g, 0, none⟩ v0).setCell ⟨g, 1, none⟩ v1).setCell ⟨g, 2, none⟩ v2).setCell ⟨g, 3, none⟩ v3).setCell ⟨g, 4, none⟩ v4).heap.size := by
  simp [World.setCell]
theorem Blk.drew_ {w : World} {g : Nat} {t : TypeId} {cs : Array Value} (h : Blk w g t cs) : Blk w.drew g t cs := h
theorem drew_heap_ (w : World) : w.drew.heap = w.heap := rfl
theorem heap5d (w : World) (g : Nat) (v0 v1 v2 v3 v4 : Value) (k : Nat) (h : k ≠ g) :
    (((((w.setCell ⟨g, 0, none⟩ v0).setCell ⟨g, 1, none⟩ v1).setCell ⟨g, 2, none⟩ v2).setCell ⟨g, 3, none⟩ v3).setCell ⟨g, 4, none⟩ v4).drew.heap[k]? = w.heap[k]? := by rw [drew_heap_]; exact heap5 w g v0 v1 v2 v3 v4 k h
theorem size5d (w : World) (g : Nat) (v0 v1 v2 v3 v4 : Value) :
    w.heap.size ≤ (((((w.setCell ⟨g, 0, none⟩ v0).setCell ⟨g, 1, none⟩ v1).setCell ⟨g, 2, none⟩ v2).setCell ⟨g, 3, none⟩ v3).setCell ⟨g, 4, none⟩ v4).drew.heap.size := by rw [drew_heap_]; exact size5 w g v0 v1 v2 v3 v4
theorem DM.chm_at {W0 w w' : World} {g gc b0 B : Nat} {R : World → Prop} {cs : Array Value} {DV OV : Value} {L : List Rf} {os : List OpD} {DA OA : Option Addr} {DC OC : Nat} (h : DM W0 g gc b0 B R w cs DV OV L os)
    (hD : DV = .slice DA L.length DC) (hO : OV = .slice OA os.length OC) (hL : L.length ≤ 100) (hOl : os.length ≤ 100) (hP : ∀ o ∈ os, o.l.length ≤ 100)
    (hk : ∀ k, b0 ≤ k → k < w.heap.size → w'.heap[k]? = w.heap[k]?) (hs : w.heap.size ≤ w'.heap.size) : ChM w' L DA os OA := by
  have o1 := own_keep (w' := w') h.ownD fun k hg => hk k (own_lt h.ownD hg).1 (own_lt h.ownD hg).2
  have o2 := own_keep (w' := w') h.ownO fun k hg => hk k (own_lt h.ownO hg).1 (own_lt h.ownO hg).2
  obtain ⟨DA', DC', h1, _, _, h2⟩ := Reads.of_own o1
  obtain ⟨OA', OC', h3, _, _, h4⟩ := Reads.of_own o2
  rw [hD] at h1
  rw [hO] at h3
  injection h1 with h1
  injection h3 with h3
  subst h1 h3
  refine ⟨h2.more fun k hg => (own_lt o1 hg).2, by omega, h4.more fun k hg => (own_lt o2 hg).2, by omega, fun o ho => ⟨?_, by have := hP o ho; omega⟩⟩
  have o3 := own_keep (w' := w') (h.ownP o ho) fun k hg => hk k (own_lt (h.ownP o ho) hg).1 (own_lt (h.ownP o ho) hg).2
  obtain ⟨PA, PC, h5, _, _, h6⟩ := Reads.of_own o3
  injection h5 with h5
  rw [h5]
  exact h6.more fun k hg => (own_lt o3 hg).2
theorem rdPairs_len (l : List UInt8) (m1 m2 : Nat) (s : Nat × Bool) : ∀ n, (rdPairs l m1 m2 s n).1.length = n
  | 0 => rfl
  | n + 1 => by
    rw [rdPairs]
    simp only [List.length_append, rdPairs_len l m1 m2 s n, List.length_cons, List.length_nil]
theorem rdPairs_len' {l : List UInt8} {m1 m2 n : Nat} {s : Nat × Bool} {L : List Rf} {r : Nat × Bool} (h : rdPairs l m1 m2 s n = (L, r)) : L.length = n := by
  have := rdPairs_len l m1 m2 s n
  rw [h] at this; exact this
/-- what a Decode answers -/
def DecPost (r : Rd) (noV yesV : Value) (e : Ending) (w' : World) : Prop :=
  (r.bad = true ∨ chgE r.a r.s r.st r.deps r.ops ≠ 0) ∧ e = .returned (.tuple #[.agg #[.int .i64 0, .int .i64 0, .int .i64 0, .slice none 0 0, .slice none 0 0], .int .i64 0, noV]) ∨
  r.bad = false ∧ chgE r.a r.s r.st r.deps r.ops = 0 ∧ ∃ DA DC OA OC os, os.map base = r.ops ∧ ChM w' r.deps DA os OA ∧
    e = .returned (.tuple #[.agg #[.int .i64 r.a, .int .i64 r.s, .int .i64 r.st, .slice DA r.deps.length DC, .slice OA os.length OC], .int .i64 r.at_, yesV])

set_option maxHeartbeats 16000000 in
set_option maxRecDepth 20000 in
theorem dec_any {l : List UInt8} {D : Nat → Prop} {A : Option Addr} {c : Nat} {w : World} (hr : Reads D w 1 A l.length (bytesC l)) (hD : ∀ k, D k → k < w.heap.size) (hcap : l.length ≤ c) (hsm : l.length ≤ 9223372036854775807) :
    Calls Try.prog 5 #[.slice A l.length c] w fun e w' => DecPost (rdAll l) (.iface 56 (.int .i64 9)) .nilIface e w' ∧ Below w.heap.size w w' := by
  have HQ := Lib.hid (Blk.new w 25 #[.int .i64 0, .int .i64 0, .int .i64 0, .slice none 0 0, .slice none 0 0])
  have HB0 : Hid (Below w.heap.size w (w.alloc (.cells #[.int .i64 0, .int .i64 0, .int .i64 0, .slice none 0 0, .slice none 0 0] 25))) := (Below.refl _ w).alloc (Nat.le_refl _) _
  have hsz : (w.alloc (.cells #[.int .i64 0, .int .i64 0, .int .i64 0, .slice none 0 0, .slice none 0 0] 25)).heap.size = w.heap.size + 1 := by simp
  have HD : Hid (∀ k, D k → k < (w.alloc (.cells #[.int .i64 0, .int .i64 0, .int .i64 0, .slice none 0 0, .slice none 0 0] 25)).heap.size) := fun k hk => by have := hD k hk; rw [hsz]; omega
  have HR0 : Hid (Reads D (w.alloc (.cells #[.int .i64 0, .int .i64 0, .int .i64 0, .slice none 0 0, .slice none 0 0] 25)) 1 A l.length (bytesC l)) := hr.keep fun k hk => Below.heap_alloc _ _ k (hD k hk)
  have HAP : Hid (¬ D (w.heap.size + 1)) := fun e => by have := hD _ e; omega
  have HS1 : Hid (w.heap.size + 1 = (w.alloc (.cells #[.int .i64 0, .int .i64 0, .int .i64 0, .slice none 0 0, .slice none 0 0] 25)).heap.size) := hsz.symm
  clear hr hD hsz
  go_enter Try.func5, Try.ntmps5
  go_wp2_with fail
  generalize w.alloc (.cells #[.int .i64 0, .int .i64 0, .int .i64 0, .slice none 0 0, .slice none 0 0] 25) = V0 at *
  have HRS : Hid (RS V0 (w.heap.size + 1) (fun w' => RdW w' (w.heap.size + 1) D A l c 0 false) (V0.alloc (.cells #[.slice A l.length c, .int .i64 0, .nilIface] 50))) := by
    have e := HS1.out
    refine ⟨⟨?_, HR0.out.keep fun k hk => Below.heap_alloc _ _ k (HD.out k hk), HAP.out, Nat.zero_le _, hcap, hsm⟩, RdW.stay HD.out, (Below.refl _ V0).alloc (Nat.le_refl _) _, by omega, by rw [World.size_alloc]; omega⟩
    rw [e]; exact Blk.new _ _ _
  clear HR0 HAP
  generalize w.heap.size + 1 = g at *
  obtain ⟨n1, a1, b1, hn⟩ : ∃ x a b, rdNum l 99 0 false = (x, a, b) := ⟨_, _, _, rfl⟩
  have N1 := Lib.hid hn
  have C := HRS.out.rnum 99 HD.out (by omega)  hn
  clear hn
  go_at_call 11
  refine C.mono ?_
  rintro e w1 ⟨rfl, hs⟩
  replace HRS := Lib.hid hs
  clear C hs
  have m1 : n1 ≤ 99 := by have h := rdNum_le (l := l) (most := 99) (at_ := 0) (bad := false); rw [N1.out] at h; exact h
  go_wp2_with fail
  obtain ⟨n2, a2, b2, hn⟩ : ∃ x a b, rdNum l 1000000 a1 b1 = (x, a, b) := ⟨_, _, _, rfl⟩
  have N2 := Lib.hid hn
  have C := HRS.out.rnum 1000000 HD.out (by omega)  hn
  clear hn
  go_at_call 11
  refine C.mono ?_
  rintro e w2 ⟨rfl, hs⟩
  replace HRS := Lib.hid hs
  clear C hs
  have m2 : n2 ≤ 1000000 := by have h := rdNum_le (l := l) (most := 1000000) (at_ := a1) (bad := b1); rw [N2.out] at h; exact h
  go_wp2_with fail
  obtain ⟨n3, a3, b3, hn⟩ : ∃ x a b, rdNum l 1000000 a2 b2 = (x, a, b) := ⟨_, _, _, rfl⟩
  have N3 := Lib.hid hn
  have C := HRS.out.rnum 1000000 HD.out (by omega)  hn
  clear hn
  go_at_call 11
  refine C.mono ?_
  rintro e w3 ⟨rfl, hs⟩
  replace HRS := Lib.hid hs
  clear C hs
  have m3 : n3 ≤ 1000000 := by have h := rdNum_le (l := l) (most := 1000000) (at_ := a2) (bad := b2); rw [N3.out] at h; exact h
  go_wp2_with fail
  have HS := Lib.hid (HRS.out.start #[.int .i64 n1, .int .i64 n2, .int .i64 n3, .slice none 0 0, .slice none 0 0])
  generalize w3.alloc (.cells #[.int .i64 n1, .int .i64 n2, .int .i64 n3, .slice none 0 0, .slice none 0 0] 25) = w4 at HS ⊢
  generalize w3.heap.size = gc at HS ⊢
  clear HRS
  obtain ⟨n5, a5, b5, hn⟩ : ∃ x a b, rdNum l 12 a3 b3 = (x, a, b) := ⟨_, _, _, rfl⟩
  have N5 := Lib.hid hn
  have C := HS.out.rnum 12 HD.out (by omega)  hn
  clear hn
  go_at_call 11
  refine C.mono ?_
  rintro e w5 ⟨rfl, hs, hc⟩
  replace HS := Lib.hid hs
  clear C hs hc
  have m5 : n5 ≤ 12 := by have h := rdNum_le (l := l) (most := 12) (at_ := a3) (bad := b3); rw [N5.out] at h; exact h
  have HP0 : Hid (rdPairs l 99 1000000 (a5, b5) 0 = ([], (a5, b5))) := rfl
  go_wp2_with fail
  go_loopw [16] (fun z wr => ∃ (j ad : Nat) (bd : Bool) (L : List Rf) (DV : Value) (B : Nat), j ≤ n5 ∧ z = .int .i64 j ∧ Hid (rdPairs l 99 1000000 (a5, b5) j = (L, (ad, bd))) ∧ Hid (DM V0 g gc (gc + 1) B (fun w => RdW w g D A l c ad bd) wr #[.int .i64 n1, .int .i64 n2, .int .i64 n3, DV, .slice none 0 0] DV (.slice none 0 0) L [])) (fun z _ => n5 - (intOf z).toNat)
  case atStart => exact ⟨0, a5, b5, [], .slice none 0 0, _, by omega, rfl, HP0, HS⟩
  case round =>
    clear HS HP0
    obtain ⟨j, ad, bd, L, DV, B, hj, rfl, HP, HS⟩ := hrel
    by_cases hlt : j < n5
    · have hll := rdPairs_len' HP.out
      go_wp2_with fail
      obtain ⟨n6, a6, b6, hn⟩ : ∃ x a b, rdNum l 99 ad bd = (x, a, b) := ⟨_, _, _, rfl⟩
      have N6 := Lib.hid hn
      have C := HS.out.rnum 99 HD.out (by omega)  hn
      clear hn
      go_at_call 11
      refine C.mono ?_
      rintro e w6 ⟨rfl, hs, hc⟩
      replace HS := Lib.hid hs
      clear C hs hc
      have m6 : n6 ≤ 99 := by have h := rdNum_le (l := l) (most := 99) (at_ := ad) (bad := bd); rw [N6.out] at h; exact h
      obtain ⟨n7, a7, b7, hn⟩ : ∃ x a b, rdNum l 1000000 a6 b6 = (x, a, b) := ⟨_, _, _, rfl⟩
      have N7 := Lib.hid hn
      have HC7 := Lib.hid (HS.out.drew.rnum 1000000 HD.out (by omega) hn)
      have HPN : Hid (rdPairs l 99 1000000 (a5, b5) (j + 1) = (L ++ [((n6 : Int), (n7 : Int))], (a7, b7))) := rdPairs_next HP.out (rdPair_of N6.out hn)
      have c3 : w6.cell? ⟨gc, 3, none⟩ = some DV := HS.out.bc.cell 3
      have f3 := HS.out.bc.frozen 3
      have hl3 := HS.out.bc.lt
      clear hn HP
      go_wp2_with fail
      refine wp_region_any (by kernel_rfl) ?_
      change wpAny _ _ _ _ _ _ _ (World.drew _)
      refine wpAny_take (i := 0) (v := ?_) rfl (by kernel_rfl) (by kernel_rfl) (by kernel_rfl) (fun _ _ _ h => h) (Or.inl ⟨by rfl, ?_⟩) ?_
      rotate_left
      · (intro w; go_simp; try with_reducible rfl)
      try simp only [Act.put, List.setIfInBounds_toArray, List.set_cons_zero, List.set_cons_succ]
      refine wpAny_take (i := 2) (v := ?_) rfl (by kernel_rfl) (by kernel_rfl) (by kernel_rfl) (fun _ _ _ h => h) (Or.inl ⟨by rfl, ?_⟩) ?_
      rotate_left
      · (intro w; go_simp; try with_reducible rfl)
      try simp only [Act.put, List.setIfInBounds_toArray, List.set_cons_zero, List.set_cons_succ]
      refine wpAny_ready (rs := [1, 3]) (by kernel_rfl) (by simp) ?_
      refine AllReady.cons rfl (fun K hK => ?_) (AllReady.cons rfl (fun K hK => ?_) AllReady.nil)
      · skip
        go_simp
        refine hK _ _ ?_
        clear hK K
        try simp only [Act.put, List.setIfInBounds_toArray, List.set_cons_zero, List.set_cons_succ]
        refine wpAny_ready (rs := [3]) (by kernel_rfl) (by simp) ?_
        refine AllReady.cons rfl (fun K hK => ?_) AllReady.nil
        go_simp
        refine HC7.out.mono ?_
        rintro e w7 ⟨rfl, hs, hc⟩
        have HS7 := Lib.hid hs
        have t3 : w7.cell? ⟨gc, 3, none⟩ = some DV := HS7.out.bc.cell 3
        have tf3 := HS7.out.bc.frozen 3
        have tl3 := HS7.out.bc.lt
        clear hs hc
        refine hK _ _ ?_
        clear hK K
        try simp only [Act.put, List.setIfInBounds_toArray, List.set_cons_zero, List.set_cons_succ]
        refine wpAny_take (i := 4) (v := ?_) rfl (by kernel_rfl) (by kernel_rfl) (by kernel_rfl) (fun _ _ _ h => h) (Or.inl ⟨by rfl, ?_⟩) ?_
        rotate_left
        · (intro w; go_simp; try with_reducible rfl)
        try simp only [Act.put, List.setIfInBounds_toArray, List.set_cons_zero, List.set_cons_succ]
        refine wpAny_ready (rs := [5]) (by kernel_rfl) (by simp) ?_
        refine AllReady.cons rfl (fun K hK => ?_) AllReady.nil
        go_simp
        refine hK _ _ ?_
        clear hK K
        try simp only [Act.put, List.setIfInBounds_toArray, List.set_cons_zero, List.set_cons_succ]
        refine wpAny_ready (rs := [6]) (by kernel_rfl) (by simp) ?_
        refine AllReady.cons rfl (fun K hK => ?_) AllReady.nil
        refine step_app (by rfl) (.tmp 20) (.tmp 24) 22 22 (by rfl) DV (.slice (some ⟨w7.heap.size, 0, none⟩) 1 1) (by rfl) (by rfl) _ ((HS7.out.alloc _).runD 22 _ Try.underlying22 (Blk.new _ _ _) (by omega)) ?_
        rintro v8 w8 hs8
        have HS8 := Lib.hid hs8
        have hll8 : (L ++ [((n6 : Int), (n7 : Int))]).length = j + 1 := by simp [hll]
        obtain ⟨VA8, VC8, hv8, _, _, _⟩ := Reads.of_own HS8.out.ownD
        rw [hll8] at hv8
        subst hv8
        have u3 : w8.cell? ⟨gc, 3, none⟩ = some DV := HS8.out.bc.cell 3
        have uf3 := HS8.out.bc.frozen 3
        clear hs8
        refine hK _ _ ?_
        clear hK K
        try simp only [Act.put, List.setIfInBounds_toArray, List.set_cons_zero, List.set_cons_succ]
        refine wpAny_take (i := 7) (v := ?_) rfl (by kernel_rfl) (by kernel_rfl) (by kernel_rfl) (fun _ _ _ h => h) (Or.inl ⟨by rfl, ?_⟩) ?_
        rotate_left
        · (intro w; go_simp; try with_reducible rfl)
        try simp only [Act.put, List.setIfInBounds_toArray, List.set_cons_zero, List.set_cons_succ]
        refine wpAny_ready (rs := [8]) (by kernel_rfl) (by simp) ?_
        refine AllReady.cons rfl (fun K hK => ?_) AllReady.nil
        go_simp
        refine hK _ _ ?_
        clear hK K
        try simp only [Act.put, List.setIfInBounds_toArray, List.set_cons_zero, List.set_cons_succ]
        refine wpAny_done (by kernel_rfl) ?_ _
        have HSF : Hid (DM V0 g gc (gc + 1) _ (fun w => RdW w g D A l c a7 b7) _ #[.int .i64 n1, .int .i64 n2, .int .i64 n3, .slice VA8 (j + 1) VC8, .slice none 0 0] _ _ _ _) := HS8.out.setc 3 (.slice VA8 (j + 1) VC8) rfl
        clear HS8 HS7 HS HC7 t3 tf3 tl3 u3 uf3 c3 f3 hl3
        go_wp2_with fail
        first
          | exact ⟨⟨j + 1, a7, b7, _, _, _, by omega, by go_num, HPN, HSF⟩, by simp [intOf]; omega⟩
          | (go_roundw
             case rel => exact ⟨j + 1, a7, b7, _, _, _, by omega, by go_num, HPN, HSF⟩
             case measure => simp [intOf]; omega)
      · skip
        go_simp
        refine HC7.out.mono ?_
        rintro e w7 ⟨rfl, hs, hc⟩
        have HS7 := Lib.hid hs
        have t3 : w7.cell? ⟨gc, 3, none⟩ = some DV := HS7.out.bc.cell 3
        have tf3 := HS7.out.bc.frozen 3
        have tl3 := HS7.out.bc.lt
        clear hs hc
        refine hK _ _ ?_
        clear hK K
        try simp only [Act.put, List.setIfInBounds_toArray, List.set_cons_zero, List.set_cons_succ]
        refine wpAny_take (i := 4) (v := ?_) rfl (by kernel_rfl) (by kernel_rfl) (by kernel_rfl) (fun _ _ _ h => h) (Or.inl ⟨by rfl, ?_⟩) ?_
        rotate_left
        · (intro w; go_simp; try with_reducible rfl)
        try simp only [Act.put, List.setIfInBounds_toArray, List.set_cons_zero, List.set_cons_succ]
        refine wpAny_ready (rs := [1, 5]) (by kernel_rfl) (by simp) ?_
        refine AllReady.cons rfl (fun K hK => ?_) (AllReady.cons rfl (fun K hK => ?_) AllReady.nil)
        · skip
          go_simp
          refine hK _ _ ?_
          clear hK K
          try simp only [Act.put, List.setIfInBounds_toArray, List.set_cons_zero, List.set_cons_succ]
          refine wpAny_ready (rs := [5]) (by kernel_rfl) (by simp) ?_
          refine AllReady.cons rfl (fun K hK => ?_) AllReady.nil
          go_simp
          refine hK _ _ ?_
          clear hK K
          try simp only [Act.put, List.setIfInBounds_toArray, List.set_cons_zero, List.set_cons_succ]
          refine wpAny_ready (rs := [6]) (by kernel_rfl) (by simp) ?_
          refine AllReady.cons rfl (fun K hK => ?_) AllReady.nil
          refine step_app (by rfl) (.tmp 20) (.tmp 24) 22 22 (by rfl) DV (.slice (some ⟨w7.heap.size, 0, none⟩) 1 1) (by rfl) (by rfl) _ ((HS7.out.alloc _).runD 22 _ Try.underlying22 (Blk.new _ _ _) (by omega)) ?_
          rintro v8 w8 hs8
          have HS8 := Lib.hid hs8
          have hll8 : (L ++ [((n6 : Int), (n7 : Int))]).length = j + 1 := by simp [hll]
          obtain ⟨VA8, VC8, hv8, _, _, _⟩ := Reads.of_own HS8.out.ownD
          rw [hll8] at hv8
          subst hv8
          have u3 : w8.cell? ⟨gc, 3, none⟩ = some DV := HS8.out.bc.cell 3
          have uf3 := HS8.out.bc.frozen 3
          clear hs8
          refine hK _ _ ?_
          clear hK K
          try simp only [Act.put, List.setIfInBounds_toArray, List.set_cons_zero, List.set_cons_succ]
          refine wpAny_take (i := 7) (v := ?_) rfl (by kernel_rfl) (by kernel_rfl) (by kernel_rfl) (fun _ _ _ h => h) (Or.inl ⟨by rfl, ?_⟩) ?_
          rotate_left
          · (intro w; go_simp; try with_reducible rfl)
          try simp only [Act.put, List.setIfInBounds_toArray, List.set_cons_zero, List.set_cons_succ]
          refine wpAny_ready (rs := [8]) (by kernel_rfl) (by simp) ?_
          refine AllReady.cons rfl (fun K hK => ?_) AllReady.nil
          go_simp
          refine hK _ _ ?_
          clear hK K
          try simp only [Act.put, List.setIfInBounds_toArray, List.set_cons_zero, List.set_cons_succ]
          refine wpAny_done (by kernel_rfl) ?_ _
          have HSF : Hid (DM V0 g gc (gc + 1) _ (fun w => RdW w g D A l c a7 b7) _ #[.int .i64 n1, .int .i64 n2, .int .i64 n3, .slice VA8 (j + 1) VC8, .slice none 0 0] _ _ _ _) := HS8.out.setc 3 (.slice VA8 (j + 1) VC8) rfl
          clear HS8 HS7 HS HC7 t3 tf3 tl3 u3 uf3 c3 f3 hl3
          go_wp2_with fail
          first
            | exact ⟨⟨j + 1, a7, b7, _, _, _, by omega, by go_num, HPN, HSF⟩, by simp [intOf]; omega⟩
            | (go_roundw
               case rel => exact ⟨j + 1, a7, b7, _, _, _, by omega, by go_num, HPN, HSF⟩
               case measure => simp [intOf]; omega)
        · skip
          go_simp
          refine hK _ _ ?_
          clear hK K
          try simp only [Act.put, List.setIfInBounds_toArray, List.set_cons_zero, List.set_cons_succ]
          refine wpAny_ready (rs := [1]) (by kernel_rfl) (by simp) ?_
          refine AllReady.cons rfl (fun K hK => ?_) AllReady.nil
          go_simp
          refine hK _ _ ?_
          clear hK K
          try simp only [Act.put, List.setIfInBounds_toArray, List.set_cons_zero, List.set_cons_succ]
          refine wpAny_ready (rs := [6]) (by kernel_rfl) (by simp) ?_
          refine AllReady.cons rfl (fun K hK => ?_) AllReady.nil
          refine step_app (by rfl) (.tmp 20) (.tmp 24) 22 22 (by rfl) DV (.slice (some ⟨w7.heap.size, 0, none⟩) 1 1) (by rfl) (by rfl) _ ((HS7.out.alloc _).runD 22 _ Try.underlying22 (Blk.new _ _ _) (by omega)) ?_
          rintro v8 w8 hs8
          have HS8 := Lib.hid hs8
          have hll8 : (L ++ [((n6 : Int), (n7 : Int))]).length = j + 1 := by simp [hll]
          obtain ⟨VA8, VC8, hv8, _, _, _⟩ := Reads.of_own HS8.out.ownD
          rw [hll8] at hv8
          subst hv8
          have u3 : w8.cell? ⟨gc, 3, none⟩ = some DV := HS8.out.bc.cell 3
          have uf3 := HS8.out.bc.frozen 3
          clear hs8
          refine hK _ _ ?_
          clear hK K
          try simp only [Act.put, List.setIfInBounds_toArray, List.set_cons_zero, List.set_cons_succ]
          refine wpAny_take (i := 7) (v := ?_) rfl (by kernel_rfl) (by kernel_rfl) (by kernel_rfl) (fun _ _ _ h => h) (Or.inl ⟨by rfl, ?_⟩) ?_
          rotate_left
          · (intro w; go_simp; try with_reducible rfl)
          try simp only [Act.put, List.setIfInBounds_toArray, List.set_cons_zero, List.set_cons_succ]
          refine wpAny_ready (rs := [8]) (by kernel_rfl) (by simp) ?_
          refine AllReady.cons rfl (fun K hK => ?_) AllReady.nil
          go_simp
          refine hK _ _ ?_
          clear hK K
          try simp only [Act.put, List.setIfInBounds_toArray, List.set_cons_zero, List.set_cons_succ]
          refine wpAny_done (by kernel_rfl) ?_ _
          have HSF : Hid (DM V0 g gc (gc + 1) _ (fun w => RdW w g D A l c a7 b7) _ #[.int .i64 n1, .int .i64 n2, .int .i64 n3, .slice VA8 (j + 1) VC8, .slice none 0 0] _ _ _ _) := HS8.out.setc 3 (.slice VA8 (j + 1) VC8) rfl
          clear HS8 HS7 HS HC7 t3 tf3 tl3 u3 uf3 c3 f3 hl3
          go_wp2_with fail
          first
            | exact ⟨⟨j + 1, a7, b7, _, _, _, by omega, by go_num, HPN, HSF⟩, by simp [intOf]; omega⟩
            | (go_roundw
               case rel => exact ⟨j + 1, a7, b7, _, _, _, by omega, by go_num, HPN, HSF⟩
               case measure => simp [intOf]; omega)
    · have HPF : Hid (rdPairs l 99 1000000 (a5, b5) n5 = (L, (ad, bd))) := by
        have e : j = n5 := by omega
        rw [← e]; exact HP.out
      have hL5 := rdPairs_len' HPF.out
      clear HP
      go_wp2_with fail
      clear hlt hj
      obtain ⟨n9, a9, b9, hn⟩ : ∃ x a b, rdNum l 40 ad bd = (x, a, b) := ⟨_, _, _, rfl⟩
      have N9 := Lib.hid hn
      have C := HS.out.rnum 40 HD.out (by omega)  hn
      clear hn
      go_at_call 11
      refine C.mono ?_
      rintro e w9 ⟨rfl, hs, hc⟩
      replace HS := Lib.hid hs
      clear C hs hc
      have m9 : n9 ≤ 40 := by have h := rdNum_le (l := l) (most := 40) (at_ := ad) (bad := bd); rw [N9.out] at h; exact h
      have HO0 : Hid (rdOps l (a9, b9) 0 = (([] : List OpD).map base, (a9, b9))) := rfl
      go_wp2_with fail
      go_loopw [29] (fun z wr => ∃ (k a0 : Nat) (b0 : Bool) (os : List OpD) (OV : Value) (B : Nat), k ≤ n9 ∧ z = .int .i64 k ∧ os.length = k ∧ Hid (rdOps l (a9, b9) k = (os.map base, (a0, b0))) ∧ Hid (∀ o ∈ os, o.l.length ≤ 12) ∧ Hid (DM V0 g gc (gc + 1) B (fun w => RdW w g D A l c a0 b0) wr #[.int .i64 n1, .int .i64 n2, .int .i64 n3, DV, OV] DV OV L os)) (fun z _ => n9 - (intOf z).toNat)
      case atStart => exact ⟨0, a9, b9, [], .slice none 0 0, _, by omega, rfl, rfl, HO0, (fun _ h => absurd h (by simp)), HS⟩
      case round =>
        clear HS HO0
        obtain ⟨k, a0, b0, os, OV, B, hk, rfl, hol, HO, HOP, HS⟩ := hrel
        by_cases hlt : k < n9
        · replace HS := Lib.hid HS.out.top
          generalize hB : wr.heap.size = B at HS
          clear hB
          go_wp2_with fail
          obtain ⟨n10, a10, b10, hn⟩ : ∃ x a b, rdNum l 4 a0 b0 = (x, a, b) := ⟨_, _, _, rfl⟩
          have N10 := Lib.hid hn
          have C := HS.out.rnum 4 HD.out (by omega)  hn
          clear hn
          go_at_call 11
          refine C.mono ?_
          rintro e w10 ⟨rfl, hs, hc⟩
          replace HS := Lib.hid hs
          clear C hs hc
          have m10 : n10 ≤ 4 := by have h := rdNum_le (l := l) (most := 4) (at_ := a0) (bad := b0); rw [N10.out] at h; exact h
          go_wp2_with fail
          obtain ⟨⟨x11, y11⟩, a11, b11, hn⟩ : ∃ x a b, rdPair l 1000000 99 (a10, b10) = (x, a, b) := ⟨_, _, _, rfl⟩
          have N11 := Lib.hid hn
          have C := HS.out.rpair HD.out  hn
          clear hn
          go_at_call 12
          refine C.mono ?_
          rintro e w11 ⟨rfl, hs, hc⟩
          replace HS := Lib.hid hs
          clear C hs hc
          go_wp2_with fail
          obtain ⟨t12, a12, b12, hn⟩ : ∃ x a b, rdText l 20 a11 b11 = (x, a, b) := ⟨_, _, _, rfl⟩
          have N12 := Lib.hid hn
          have C := HS.out.rtext 20 HD.out (by omega) hn
          clear hn
          go_at_call 13
          refine C.mono ?_
          rintro e w12 ⟨rfl, hs, hc⟩
          replace HS := Lib.hid hs
          clear C hs hc
          go_wp2_with fail
          obtain ⟨⟨x13, y13⟩, a13, b13, hn⟩ : ∃ x a b, rdPair l 1000000 99 (a12, b12) = (x, a, b) := ⟨_, _, _, rfl⟩
          have N13 := Lib.hid hn
          have C := HS.out.rpair HD.out  hn
          clear hn
          go_at_call 12
          refine C.mono ?_
          rintro e w13 ⟨rfl, hs, hc⟩
          replace HS := Lib.hid hs
          clear C hs hc
          go_wp2_with fail
          have HGB : Hid (B ≤ w13.heap.size) := HS.out.hB
          have HBO := Lib.hid (Blk.new w13 33 #[.int .i64 n10, .int .i64 x11, .int .i64 y11, .string ⟨t12.toArray⟩, .int .i64 x13, .int .i64 y13, .bool false, .int .i64 0, .int .i64 0, .string ⟨#[]⟩, .int .i64 0, .int .i64 0, .slice none 0 0])
          have HGN : Hid (gc + 1 ≤ B ∧ g < gc + 1) := ⟨HS.out.bB, HS.out.gb⟩
          replace HS := Lib.hid (HS.out.alloc (.cells #[.int .i64 n10, .int .i64 x11, .int .i64 y11, .string ⟨t12.toArray⟩, .int .i64 x13, .int .i64 y13, .bool false, .int .i64 0, .int .i64 0, .string ⟨#[]⟩, .int .i64 0, .int .i64 0, .slice none 0 0] 33))
          generalize w13.alloc (.cells #[.int .i64 n10, .int .i64 x11, .int .i64 y11, .string ⟨t12.toArray⟩, .int .i64 x13, .int .i64 y13, .bool false, .int .i64 0, .int .i64 0, .string ⟨#[]⟩, .int .i64 0, .int .i64 0, .slice none 0 0] 33) = w14 at HS HBO ⊢
          generalize w13.heap.size = go at HGB HBO ⊢
          have HBO_ne : go ≠ g := by have h1 := HGB.out; have h2 := HGN.out; omega
          obtain ⟨n15, a15, b15, hn⟩ : ∃ x a b, rdNum l 1 a13 b13 = (x, a, b) := ⟨_, _, _, rfl⟩
          have N15 := Lib.hid hn
          have C := HS.out.rnum 1 HD.out (by omega)  hn
          clear hn
          go_at_call 11
          refine C.mono ?_
          rintro e w15 ⟨rfl, hs, hc⟩
          replace HS := Lib.hid hs
          replace HBO := Lib.hid (HBO.out.keep (hc.block _ HBO.out.lt HBO_ne))
          clear C hs hc
          have m15 : n15 ≤ 1 := by have h := rdNum_le (l := l) (most := 1) (at_ := a13) (bad := b13); rw [N15.out] at h; exact h
          have ce : w15.cell? ⟨go, 6, none⟩ = some (.bool false) := HBO.out.cell 6
          have fe := HBO.out.frozen 6
          generalize hins : (n15 == 1) = ins
          have hins2 : (((n15 : Nat) : Int) == 1) = ins := by rw [← hins]; cases h : (n15 == 1) <;> simp at h ⊢ <;> omega
          have HINS := Lib.hid hins
          clear hins
          go_wp2_with fail
          replace HS := Lib.hid (HS.out.put HGB.out 6 (.bool ins))
          replace HBO : Hid (Blk (w15.setCell ⟨go, 6, none⟩ (.bool ins)) go 33 #[.int .i64 n10, .int .i64 x11, .int .i64 y11, .string ⟨t12.toArray⟩, .int .i64 x13, .int .i64 y13, .bool ins, .int .i64 0, .int .i64 0, .string ⟨#[]⟩, .int .i64 0, .int .i64 0, .slice none 0 0]) := HBO.out.set_ 6 (.bool ins)
          generalize w15.setCell ⟨go, 6, none⟩ (.bool ins) = w15b at HS HBO ⊢
          clear ce fe
          obtain ⟨n16, a16, b16, hn⟩ : ∃ x a b, rdNum l 6 a15 b15 = (x, a, b) := ⟨_, _, _, rfl⟩
          have N16 := Lib.hid hn
          have C := HS.out.rnum 6 HD.out (by omega)  hn
          clear hn
          go_at_call 11
          refine C.mono ?_
          rintro e w16 ⟨rfl, hs, hc⟩
          replace HS := Lib.hid hs
          replace HBO := Lib.hid (HBO.out.keep (hc.block _ HBO.out.lt HBO_ne))
          clear C hs hc
          have m16 : n16 ≤ 6 := by have h := rdNum_le (l := l) (most := 6) (at_ := a15) (bad := b15); rw [N16.out] at h; exact h
          have ce : w16.cell? ⟨go, 7, none⟩ = some (.int .i64 0) := HBO.out.cell 7
          have fe := HBO.out.frozen 7
          go_wp2_with fail
          replace HS := Lib.hid (HS.out.put HGB.out 7 (.int .i64 n16))
          replace HBO : Hid (Blk (w16.setCell ⟨go, 7, none⟩ (.int .i64 n16)) go 33 #[.int .i64 n10, .int .i64 x11, .int .i64 y11, .string ⟨t12.toArray⟩, .int .i64 x13, .int .i64 y13, .bool ins, .int .i64 n16, .int .i64 0, .string ⟨#[]⟩, .int .i64 0, .int .i64 0, .slice none 0 0]) := HBO.out.set_ 7 (.int .i64 n16)
          generalize w16.setCell ⟨go, 7, none⟩ (.int .i64 n16) = w16b at HS HBO ⊢
          clear ce fe
          obtain ⟨x17, a17, b17, hn⟩ : ∃ x a b, rdInt l a16 b16 = (x, a, b) := ⟨_, _, _, rfl⟩
          have N17 := Lib.hid hn
          have C := HS.out.rsigned HD.out  hn
          clear hn
          go_at_call 14
          refine C.mono ?_
          rintro e w17 ⟨rfl, hs, hc⟩
          replace HS := Lib.hid hs
          replace HBO := Lib.hid (HBO.out.keep (hc.block _ HBO.out.lt HBO_ne))
          clear C hs hc
          have ce : w17.cell? ⟨go, 8, none⟩ = some (.int .i64 0) := HBO.out.cell 8
          have fe := HBO.out.frozen 8
          go_wp2_with fail
          replace HS := Lib.hid (HS.out.put HGB.out 8 (.int .i64 x17))
          replace HBO : Hid (Blk (w17.setCell ⟨go, 8, none⟩ (.int .i64 x17)) go 33 #[.int .i64 n10, .int .i64 x11, .int .i64 y11, .string ⟨t12.toArray⟩, .int .i64 x13, .int .i64 y13, .bool ins, .int .i64 n16, .int .i64 x17, .string ⟨#[]⟩, .int .i64 0, .int .i64 0, .slice none 0 0]) := HBO.out.set_ 8 (.int .i64 x17)
          generalize w17.setCell ⟨go, 8, none⟩ (.int .i64 x17) = w17b at HS HBO ⊢
          clear ce fe
          obtain ⟨t18, a18, b18, hn⟩ : ∃ x a b, rdText l 60 a17 b17 = (x, a, b) := ⟨_, _, _, rfl⟩
          have N18 := Lib.hid hn
          have C := HS.out.rtext 60 HD.out (by omega) hn
          clear hn
          go_at_call 13
          refine C.mono ?_
          rintro e w18 ⟨rfl, hs, hc⟩
          replace HS := Lib.hid hs
          replace HBO := Lib.hid (HBO.out.keep (hc.block _ HBO.out.lt HBO_ne))
          clear C hs hc
          have ce : w18.cell? ⟨go, 9, none⟩ = some (.string ⟨#[]⟩) := HBO.out.cell 9
          have fe := HBO.out.frozen 9
          go_wp2_with fail
          replace HS := Lib.hid (HS.out.put HGB.out 9 (.string ⟨t18.toArray⟩))
          replace HBO : Hid (Blk (w18.setCell ⟨go, 9, none⟩ (.string ⟨t18.toArray⟩)) go 33 #[.int .i64 n10, .int .i64 x11, .int .i64 y11, .string ⟨t12.toArray⟩, .int .i64 x13, .int .i64 y13, .bool ins, .int .i64 n16, .int .i64 x17, .string ⟨t18.toArray⟩, .int .i64 0, .int .i64 0, .slice none 0 0]) := HBO.out.set_ 9 (.string ⟨t18.toArray⟩)
          generalize w18.setCell ⟨go, 9, none⟩ (.string ⟨t18.toArray⟩) = w18b at HS HBO ⊢
          clear ce fe
          obtain ⟨n19, a19, b19, hn⟩ : ∃ x a b, rdNum l 12 a18 b18 = (x, a, b) := ⟨_, _, _, rfl⟩
          have N19 := Lib.hid hn
          have C := HS.out.rnum 12 HD.out (by omega)  hn
          clear hn
          go_at_call 11
          refine C.mono ?_
          rintro e w19 ⟨rfl, hs, hc⟩
          replace HS := Lib.hid hs
          replace HBO := Lib.hid (HBO.out.keep (hc.block _ HBO.out.lt HBO_ne))
          clear C hs hc
          have m19 : n19 ≤ 12 := by have h := rdNum_le (l := l) (most := 12) (at_ := a18) (bad := b18); rw [N19.out] at h; exact h
          have HPP0 : Hid (rdPairs l 1000000 99 (a19, b19) 0 = ([], (a19, b19))) := rfl
          have HPW0 : Hid (w19.ownsRow B 28 2 (.slice none 0 0) ([] : List Rf).length (refC [])) := own_nil _ _ _ _
          go_wp2_with fail
          go_loopw [49] (fun z wr => ∃ (q ap : Nat) (bp : Bool) (ps : List Rf) (PV : Value), q ≤ n19 ∧ z = .int .i64 q ∧ Hid (rdPairs l 1000000 99 (a19, b19) q = (ps, (ap, bp))) ∧ Hid (DM V0 g gc (gc + 1) B (fun w => RdW w g D A l c ap bp) wr #[.int .i64 n1, .int .i64 n2, .int .i64 n3, DV, OV] DV OV L os) ∧ Hid (Blk wr go 33 #[.int .i64 n10, .int .i64 x11, .int .i64 y11, .string ⟨t12.toArray⟩, .int .i64 x13, .int .i64 y13, .bool ins, .int .i64 n16, .int .i64 x17, .string ⟨t18.toArray⟩, .int .i64 0, .int .i64 0, PV]) ∧ Hid (wr.ownsRow B 28 2 PV ps.length (refC ps))) (fun z _ => n19 - (intOf z).toNat)
          case atStart => exact ⟨0, a19, b19, [], .slice none 0 0, by omega, rfl, HPP0, HS, HBO, HPW0⟩
          case round =>
            clear HS HPP0 HBO HPW0
            obtain ⟨q, ap, bp, ps, PV, hq, rfl, HPP, HS, HBO, HPW⟩ := hrel
            by_cases hlq : q < n19
            · have hpl := rdPairs_len' HPP.out
              obtain ⟨⟨x20, y20⟩, a20, b20, hn⟩ : ∃ x a b, rdPair l 1000000 99 (ap, bp) = (x, a, b) := ⟨_, _, _, rfl⟩
              have HC20 := Lib.hid (HS.out.drew.rpair HD.out hn)
              have HPN : Hid (rdPairs l 1000000 99 (a19, b19) (q + 1) = (ps ++ [(x20, y20)], (a20, b20))) := rdPairs_next HPP.out hn
              have c12 : wr.cell? ⟨go, 12, none⟩ = some PV := HBO.out.cell 12
              have f12 := HBO.out.frozen 12
              have l12 := HBO.out.lt
              clear hn HPP
              go_wp2_with fail
              refine wp_region_any (by kernel_rfl) ?_
              change wpAny _ _ _ _ _ _ _ (World.drew _)
              refine wpAny_take (i := 0) (v := ?_) rfl (by kernel_rfl) (by kernel_rfl) (by kernel_rfl) (fun _ _ _ h => h) (Or.inl ⟨by rfl, ?_⟩) ?_
              rotate_left
              · (intro w; go_simp; try with_reducible rfl)
              try simp only [Act.put, List.setIfInBounds_toArray, List.set_cons_zero, List.set_cons_succ]
              refine wpAny_ready (rs := [1, 2]) (by kernel_rfl) (by simp) ?_
              refine AllReady.cons rfl (fun K hK => ?_) (AllReady.cons rfl (fun K hK => ?_) AllReady.nil)
              · skip
                go_simp
                refine hK _ _ ?_
                clear hK K
                try simp only [Act.put, List.setIfInBounds_toArray, List.set_cons_zero, List.set_cons_succ]
                refine wpAny_ready (rs := [2]) (by kernel_rfl) (by simp) ?_
                refine AllReady.cons rfl (fun K hK => ?_) AllReady.nil
                go_simp
                refine HC20.out.mono ?_
                rintro e w20 ⟨rfl, hs, hc⟩
                have HS20 := Lib.hid hs
                have HBO20 := Lib.hid (HBO.out.keep (hc.block _ HBO.out.lt HBO_ne))
                have HPW20 : Hid (w20.ownsRow B 28 2 PV ps.length (refC ps)) := own_keep HPW.out (fun k hk => hc.block k (own_lt HPW.out hk).2 (by have h1 := (own_lt HPW.out hk).1; have h2 := HGN.out; omega))
                have t12 : w20.cell? ⟨go, 12, none⟩ = some PV := HBO20.out.cell 12
                have tf12 := HBO20.out.frozen 12
                have tl12 := HBO20.out.lt
                clear hs hc
                refine hK _ _ ?_
                clear hK K
                try simp only [Act.put, List.setIfInBounds_toArray, List.set_cons_zero, List.set_cons_succ]
                skip
                refine wpAny_ready (rs := [3]) (by kernel_rfl) (by simp) ?_
                refine AllReady.cons rfl (fun K hK => ?_) AllReady.nil
                go_simp
                refine hK _ _ ?_
                clear hK K
                try simp only [Act.put, List.setIfInBounds_toArray, List.set_cons_zero, List.set_cons_succ]
                refine wpAny_ready (rs := [4]) (by kernel_rfl) (by simp) ?_
                refine AllReady.cons rfl (fun K hK => ?_) AllReady.nil
                refine step_app (by rfl) (.tmp 52) (.tmp 54) 31 31 (by rfl) PV (.slice (some ⟨w20.heap.size, 0, none⟩) 1 1) (by rfl) (by rfl) _ ((HS20.out.alloc _).runP 31 _ Try.underlying31 (Blk.new _ _ _) (HPW20.out.alloc _) (by omega)) ?_
                rintro v21 w21 ⟨hs21, ho21, hc21⟩
                have hll21 : (ps ++ [(x20, y20)]).length = q + 1 := by simp [hpl]
                obtain ⟨VA21, VC21, hv21, _, _, _⟩ := Reads.of_own ho21
                rw [hll21] at hv21
                subst hv21
                have HB21 := Lib.hid ((HBO20.out.alloc (.cells #[.int .i64 x20, .int .i64 y20] 28)).keep (hc21.block _ (HBO20.out.alloc (.cells #[.int .i64 x20, .int .i64 y20] 28)).lt (own_blk_ne (HPW20.out.alloc (.cells #[.int .i64 x20, .int .i64 y20] 28)) (HBO20.out.alloc (.cells #[.int .i64 x20, .int .i64 y20] 28)) (by decide))))
                have HS21 := Lib.hid (hs21.put HGB.out 12 (.slice VA21 (q + 1) VC21))
                have HBF := Lib.hid (HB21.out.set_ 12 (.slice VA21 (q + 1) VC21))
                have hne21 := own_blk_ne ho21 HB21.out (by decide)
                have HPF : Hid ((w21.setCell ⟨go, 12, none⟩ (.slice VA21 (q + 1) VC21)).ownsRow B 28 2 (.slice VA21 (q + 1) VC21) (ps ++ [(x20, y20)]).length (refC (ps ++ [(x20, y20)]))) := own_keep ho21 (fun k hk => Below.heap_setCell _ _ _ k (fun e => hne21 (by rw [hk, e])))
                have u12 : w21.cell? ⟨go, 12, none⟩ = some PV := HB21.out.cell 12
                have uf12 := HB21.out.frozen 12
                clear hs21 ho21 hc21
                refine hK _ _ ?_
                clear hK K
                try simp only [Act.put, List.setIfInBounds_toArray, List.set_cons_zero, List.set_cons_succ]
                refine wpAny_take (i := 5) (v := ?_) rfl (by kernel_rfl) (by kernel_rfl) (by kernel_rfl) (fun _ _ _ h => h) (Or.inl ⟨by rfl, ?_⟩) ?_
                rotate_left
                · (intro w; go_simp; try with_reducible rfl)
                try simp only [Act.put, List.setIfInBounds_toArray, List.set_cons_zero, List.set_cons_succ]
                refine wpAny_ready (rs := [6]) (by kernel_rfl) (by simp) ?_
                refine AllReady.cons rfl (fun K hK => ?_) AllReady.nil
                go_simp
                refine hK _ _ ?_
                clear hK K
                try simp only [Act.put, List.setIfInBounds_toArray, List.set_cons_zero, List.set_cons_succ]
                refine wpAny_done (by kernel_rfl) ?_ _
                clear HB21 HS20 HBO20 HPW20 HS HBO HPW HC20 t12 tf12 tl12 u12 uf12 c12 f12 l12
                go_wp2_with fail
                first
                  | exact ⟨⟨q + 1, a20, b20, _, _, by omega, by go_num, HPN, HS21, HBF, HPF⟩, by simp [intOf]; omega⟩
                  | (go_roundw
                     case rel => exact ⟨q + 1, a20, b20, _, _, by omega, by go_num, HPN, HS21, HBF, HPF⟩
                     case measure => simp [intOf]; omega)
              · skip
                go_simp
                refine HC20.out.mono ?_
                rintro e w20 ⟨rfl, hs, hc⟩
                have HS20 := Lib.hid hs
                have HBO20 := Lib.hid (HBO.out.keep (hc.block _ HBO.out.lt HBO_ne))
                have HPW20 : Hid (w20.ownsRow B 28 2 PV ps.length (refC ps)) := own_keep HPW.out (fun k hk => hc.block k (own_lt HPW.out hk).2 (by have h1 := (own_lt HPW.out hk).1; have h2 := HGN.out; omega))
                have t12 : w20.cell? ⟨go, 12, none⟩ = some PV := HBO20.out.cell 12
                have tf12 := HBO20.out.frozen 12
                have tl12 := HBO20.out.lt
                clear hs hc
                refine hK _ _ ?_
                clear hK K
                try simp only [Act.put, List.setIfInBounds_toArray, List.set_cons_zero, List.set_cons_succ]
                skip
                refine wpAny_ready (rs := [1, 3]) (by kernel_rfl) (by simp) ?_
                refine AllReady.cons rfl (fun K hK => ?_) (AllReady.cons rfl (fun K hK => ?_) AllReady.nil)
                · skip
                  go_simp
                  refine hK _ _ ?_
                  clear hK K
                  try simp only [Act.put, List.setIfInBounds_toArray, List.set_cons_zero, List.set_cons_succ]
                  refine wpAny_ready (rs := [3]) (by kernel_rfl) (by simp) ?_
                  refine AllReady.cons rfl (fun K hK => ?_) AllReady.nil
                  go_simp
                  refine hK _ _ ?_
                  clear hK K
                  try simp only [Act.put, List.setIfInBounds_toArray, List.set_cons_zero, List.set_cons_succ]
                  refine wpAny_ready (rs := [4]) (by kernel_rfl) (by simp) ?_
                  refine AllReady.cons rfl (fun K hK => ?_) AllReady.nil
                  refine step_app (by rfl) (.tmp 52) (.tmp 54) 31 31 (by rfl) PV (.slice (some ⟨w20.heap.size, 0, none⟩) 1 1) (by rfl) (by rfl) _ ((HS20.out.alloc _).runP 31 _ Try.underlying31 (Blk.new _ _ _) (HPW20.out.alloc _) (by omega)) ?_
                  rintro v21 w21 ⟨hs21, ho21, hc21⟩
                  have hll21 : (ps ++ [(x20, y20)]).length = q + 1 := by simp [hpl]
                  obtain ⟨VA21, VC21, hv21, _, _, _⟩ := Reads.of_own ho21
                  rw [hll21] at hv21
                  subst hv21
                  have HB21 := Lib.hid ((HBO20.out.alloc (.cells #[.int .i64 x20, .int .i64 y20] 28)).keep (hc21.block _ (HBO20.out.alloc (.cells #[.int .i64 x20, .int .i64 y20] 28)).lt (own_blk_ne (HPW20.out.alloc (.cells #[.int .i64 x20, .int .i64 y20] 28)) (HBO20.out.alloc (.cells #[.int .i64 x20, .int .i64 y20] 28)) (by decide))))
                  have HS21 := Lib.hid (hs21.put HGB.out 12 (.slice VA21 (q + 1) VC21))
                  have HBF := Lib.hid (HB21.out.set_ 12 (.slice VA21 (q + 1) VC21))
                  have hne21 := own_blk_ne ho21 HB21.out (by decide)
                  have HPF : Hid ((w21.setCell ⟨go, 12, none⟩ (.slice VA21 (q + 1) VC21)).ownsRow B 28 2 (.slice VA21 (q + 1) VC21) (ps ++ [(x20, y20)]).length (refC (ps ++ [(x20, y20)]))) := own_keep ho21 (fun k hk => Below.heap_setCell _ _ _ k (fun e => hne21 (by rw [hk, e])))
                  have u12 : w21.cell? ⟨go, 12, none⟩ = some PV := HB21.out.cell 12
                  have uf12 := HB21.out.frozen 12
                  clear hs21 ho21 hc21
                  refine hK _ _ ?_
                  clear hK K
                  try simp only [Act.put, List.setIfInBounds_toArray, List.set_cons_zero, List.set_cons_succ]
                  refine wpAny_take (i := 5) (v := ?_) rfl (by kernel_rfl) (by kernel_rfl) (by kernel_rfl) (fun _ _ _ h => h) (Or.inl ⟨by rfl, ?_⟩) ?_
                  rotate_left
                  · (intro w; go_simp; try with_reducible rfl)
                  try simp only [Act.put, List.setIfInBounds_toArray, List.set_cons_zero, List.set_cons_succ]
                  refine wpAny_ready (rs := [6]) (by kernel_rfl) (by simp) ?_
                  refine AllReady.cons rfl (fun K hK => ?_) AllReady.nil
                  go_simp
                  refine hK _ _ ?_
                  clear hK K
                  try simp only [Act.put, List.setIfInBounds_toArray, List.set_cons_zero, List.set_cons_succ]
                  refine wpAny_done (by kernel_rfl) ?_ _
                  clear HB21 HS20 HBO20 HPW20 HS HBO HPW HC20 t12 tf12 tl12 u12 uf12 c12 f12 l12
                  go_wp2_with fail
                  first
                    | exact ⟨⟨q + 1, a20, b20, _, _, by omega, by go_num, HPN, HS21, HBF, HPF⟩, by simp [intOf]; omega⟩
                    | (go_roundw
                       case rel => exact ⟨q + 1, a20, b20, _, _, by omega, by go_num, HPN, HS21, HBF, HPF⟩
                       case measure => simp [intOf]; omega)
                · skip
                  go_simp
                  refine hK _ _ ?_
                  clear hK K
                  try simp only [Act.put, List.setIfInBounds_toArray, List.set_cons_zero, List.set_cons_succ]
                  refine wpAny_ready (rs := [1]) (by kernel_rfl) (by simp) ?_
                  refine AllReady.cons rfl (fun K hK => ?_) AllReady.nil
                  go_simp
                  refine hK _ _ ?_
                  clear hK K
                  try simp only [Act.put, List.setIfInBounds_toArray, List.set_cons_zero, List.set_cons_succ]
                  refine wpAny_ready (rs := [4]) (by kernel_rfl) (by simp) ?_
                  refine AllReady.cons rfl (fun K hK => ?_) AllReady.nil
                  refine step_app (by rfl) (.tmp 52) (.tmp 54) 31 31 (by rfl) PV (.slice (some ⟨w20.heap.size, 0, none⟩) 1 1) (by rfl) (by rfl) _ ((HS20.out.alloc _).runP 31 _ Try.underlying31 (Blk.new _ _ _) (HPW20.out.alloc _) (by omega)) ?_
                  rintro v21 w21 ⟨hs21, ho21, hc21⟩
                  have hll21 : (ps ++ [(x20, y20)]).length = q + 1 := by simp [hpl]
                  obtain ⟨VA21, VC21, hv21, _, _, _⟩ := Reads.of_own ho21
                  rw [hll21] at hv21
                  subst hv21
                  have HB21 := Lib.hid ((HBO20.out.alloc (.cells #[.int .i64 x20, .int .i64 y20] 28)).keep (hc21.block _ (HBO20.out.alloc (.cells #[.int .i64 x20, .int .i64 y20] 28)).lt (own_blk_ne (HPW20.out.alloc (.cells #[.int .i64 x20, .int .i64 y20] 28)) (HBO20.out.alloc (.cells #[.int .i64 x20, .int .i64 y20] 28)) (by decide))))
                  have HS21 := Lib.hid (hs21.put HGB.out 12 (.slice VA21 (q + 1) VC21))
                  have HBF := Lib.hid (HB21.out.set_ 12 (.slice VA21 (q + 1) VC21))
                  have hne21 := own_blk_ne ho21 HB21.out (by decide)
                  have HPF : Hid ((w21.setCell ⟨go, 12, none⟩ (.slice VA21 (q + 1) VC21)).ownsRow B 28 2 (.slice VA21 (q + 1) VC21) (ps ++ [(x20, y20)]).length (refC (ps ++ [(x20, y20)]))) := own_keep ho21 (fun k hk => Below.heap_setCell _ _ _ k (fun e => hne21 (by rw [hk, e])))
                  have u12 : w21.cell? ⟨go, 12, none⟩ = some PV := HB21.out.cell 12
                  have uf12 := HB21.out.frozen 12
                  clear hs21 ho21 hc21
                  refine hK _ _ ?_
                  clear hK K
                  try simp only [Act.put, List.setIfInBounds_toArray, List.set_cons_zero, List.set_cons_succ]
                  refine wpAny_take (i := 5) (v := ?_) rfl (by kernel_rfl) (by kernel_rfl) (by kernel_rfl) (fun _ _ _ h => h) (Or.inl ⟨by rfl, ?_⟩) ?_
                  rotate_left
                  · (intro w; go_simp; try with_reducible rfl)
                  try simp only [Act.put, List.setIfInBounds_toArray, List.set_cons_zero, List.set_cons_succ]
                  refine wpAny_ready (rs := [6]) (by kernel_rfl) (by simp) ?_
                  refine AllReady.cons rfl (fun K hK => ?_) AllReady.nil
                  go_simp
                  refine hK _ _ ?_
                  clear hK K
                  try simp only [Act.put, List.setIfInBounds_toArray, List.set_cons_zero, List.set_cons_succ]
                  refine wpAny_done (by kernel_rfl) ?_ _
                  clear HB21 HS20 HBO20 HPW20 HS HBO HPW HC20 t12 tf12 tl12 u12 uf12 c12 f12 l12
                  go_wp2_with fail
                  first
                    | exact ⟨⟨q + 1, a20, b20, _, _, by omega, by go_num, HPN, HS21, HBF, HPF⟩, by simp [intOf]; omega⟩
                    | (go_roundw
                       case rel => exact ⟨q + 1, a20, b20, _, _, by omega, by go_num, HPN, HS21, HBF, HPF⟩
                       case measure => simp [intOf]; omega)
            · have HPE : Hid (rdPairs l 1000000 99 (a19, b19) n19 = (ps, (ap, bp))) := by
                have e : q = n19 := by omega
                rw [← e]; exact HPP.out
              clear HPP
              obtain ⟨PA, PC, hpv, _, _, _⟩ := Reads.of_own HPW.out
              subst hpv
              have HOP2 : Hid (∀ o ∈ os ++ [(⟨n10, x11, y11, ⟨t12.toArray⟩, x13, y13, ins, n16, x17, ⟨t18.toArray⟩, 0, 0, PA, PC, ps⟩ : OpD)], o.l.length ≤ 12) := by
                intro o ho
                rcases List.mem_append.1 ho with ho | ho
                · exact HOP.out o ho
                · obtain rfl := List.mem_singleton.1 ho
                  have hpl := rdPairs_len' HPE.out
                  show ps.length ≤ 12
                  omega
              have HON : Hid (rdOps l (a9, b9) (k + 1) = ((os ++ [(⟨n10, x11, y11, ⟨t12.toArray⟩, x13, y13, ins, n16, x17, ⟨t18.toArray⟩, 0, 0, PA, PC, ps⟩ : OpD)]).map base, (ap, bp))) := by
                show _ = _
                have h1 := rdOp_of2 N10.out N11.out N12.out N13.out N15.out N16.out N17.out N18.out N19.out HPE.out
                rw [HINS.out] at h1
                rw [rdOps_next HO.out h1, List.map_append]
                rfl
              obtain ⟨e0, e1, e2, e3, e4, e5, e6, e7, e8, e9, e10, e11, e12⟩ := blk13 HBO.out
              have c4 : wr.cell? ⟨gc, 4, none⟩ = some OV := HS.out.bc.cell 4
              have f4 := HS.out.bc.frozen 4
              have gl := HS.out.bc.lt
              have gol := HBO.out.lt
              have HPB : Hid (wr.ownsRow (gc + 1) 28 2 (.slice PA ps.length PC) ps.length (refC ps)) := own_base HPW.out (fun g hg => by have h1 := (own_lt HPW.out hg).1; have h2 := HGN.out; omega)
              go_wp2_with (at_builtin; refine wpList_app rfl (.tmp 59) (.tmp 61) 23 23 rfl OV (.slice (some ⟨wr.heap.size, 0, none⟩) 1 1) rfl rfl _ ((HS.out.alloc _).runO (o := ⟨n10, x11, y11, ⟨t12.toArray⟩, x13, y13, ins, n16, x17, ⟨t18.toArray⟩, 0, 0, PA, PC, ps⟩) 23 _ Try.underlying23 (Blk.new _ _ _) (by omega) (HPB.out.alloc _)) ?_)
              rintro v22 w22 hs22
              obtain ⟨OA22, OC22, hv22, _, _, _⟩ := Reads.of_own hs22.ownO
              subst hv22
              have g4 : w22.cell? ⟨gc, 4, none⟩ = some OV := hs22.bc.cell 4
              have gf4 := hs22.bc.frozen 4
              have HSF := Lib.hid (hs22.setc 4 (.slice OA22 (os ++ [(⟨n10, x11, y11, ⟨t12.toArray⟩, x13, y13, ins, n16, x17, ⟨t18.toArray⟩, 0, 0, PA, PC, ps⟩ : OpD)]).length OC22) rfl)
              have hol2 : (os ++ [(⟨n10, x11, y11, ⟨t12.toArray⟩, x13, y13, ins, n16, x17, ⟨t18.toArray⟩, 0, 0, PA, PC, ps⟩ : OpD)]).length = k + 1 := by rw [List.length_append, hol]; rfl
              clear hs22 e0 e1 e2 e3 e4 e5 e6 e7 e8 e9 e10 e11 e12 c4 f4 gl gol HBO HPB HPW HS
              generalize os ++ [(⟨n10, x11, y11, ⟨t12.toArray⟩, x13, y13, ins, n16, x17, ⟨t18.toArray⟩, 0, 0, PA, PC, ps⟩ : OpD)] = os2 at HSF HON HOP2 hol2 ⊢
              rw [hol2] at HSF
              try rw [hol2]
              go_wp2_with fail
              first
                | exact ⟨⟨k + 1, ap, bp, os2, _, _, by omega, by go_num, hol2, HON, HOP2, HSF⟩, by simp [intOf]; omega⟩
                | (go_roundw
                   case rel => exact ⟨k + 1, ap, bp, os2, _, _, by omega, by go_num, hol2, HON, HOP2, HSF⟩
                   case measure => simp [intOf]; omega)
        · have HOF : Hid (rdOps l (a9, b9) n9 = (os.map base, (a0, b0))) := by
            have e : k = n9 := by omega
            rw [← e]; exact HO.out
          have HALL := Lib.hid (rdAll_of N1.out N2.out N3.out N5.out HPF.out N9.out HOF.out)
          clear HO
          have HQ2 := Lib.hid (HQ.out.keep (HS.out.bel.block _ HQ.out.lt))
          have hrb := HS.out.rd.blk
          cases b0 with
          | true =>
            have c2 : wr.cell? ⟨g, 2, none⟩ = some (.iface 56 (.int .i64 9)) := hrb.cell 2
            have q0 := HQ2.out.frozen 0
            have q1 := HQ2.out.frozen 1
            have q2 := HQ2.out.frozen 2
            have q3 := HQ2.out.frozen 3
            have q4 := HQ2.out.frozen 4
            obtain ⟨p0, p1, p2, p3, p4⟩ := blk5 HQ2.out
            go_wp2_with fail
            refine bodyPost_ret (results_pair (p := 2) (u := 3) (v := 4) (by kernel_rfl) _ _ w.heap.size _ #[.int .i64 0, .int .i64 0, .int .i64 0, .slice none 0 0, .slice none 0 0] _ rfl (((((HQ2.out.set_ 0 _).set_ 1 _).set_ 2 _).set_ 3 _).set_ 4 _) Try.underlying25 rfl (by kernel_rfl)) rfl ?_
            exact ⟨.inl ⟨Or.inl (by rw [HALL.out]), rfl⟩, ((((((HB0.out.trans (HS.out.bel.mono HB0.out.size)).setCell (p := ⟨w.heap.size, 0, none⟩) (Nat.le_refl _) _).setCell (p := ⟨w.heap.size, 1, none⟩) (Nat.le_refl _) _).setCell (p := ⟨w.heap.size, 2, none⟩) (Nat.le_refl _) _).setCell (p := ⟨w.heap.size, 3, none⟩) (Nat.le_refl _) _).setCell (p := ⟨w.heap.size, 4, none⟩) (Nat.le_refl _) _)⟩
          | false =>
            have hosl := HOF.out
            obtain ⟨DA, DC, OA, OC, hDV, hOV, hCM⟩ := HS.out.chm (by omega) (by omega) (fun o ho => by have := HOP.out o ho; omega)
            subst hDV hOV
            have HCM := Lib.hid hCM
            have HCK := Lib.hid (check_any n1 n2 n3 L DA n5 DC os OA k OC _ hCM hL5 hol)
            have c2 : wr.cell? ⟨g, 2, none⟩ = some .nilIface := hrb.cell 2
            obtain ⟨d0, d1, d2, d3, d4⟩ := blk5 HS.out.bc
            have hE0 : chgE n1 n2 n3 L (os.map base) = chgE n1 n2 n3 L os := chgE_base (ops_base rfl)
            have HE0 := Lib.hid hE0
            obtain ⟨ce, hce⟩ : ∃ ce, chgE n1 n2 n3 L os = ce := ⟨_, rfl⟩
            rw [hce] at HCK
            have HCE := Lib.hid hce
            clear hce hE0 hosl hCM
            by_cases h0 : ce = 0
            · subst h0
              rw [show errN 0 = .nilIface from rfl] at HCK
              go_wp2_with fail
              go_at_call 7
              refine HCK.out.mono ?_
              rintro e w23 ⟨rfl, hb⟩
              have HQ3 := Lib.hid (HQ2.out.keep (hb.block _ HQ2.out.lt))
              have HW3 := Lib.hid ((HB0.out.trans (HS.out.bel.mono HB0.out.size)).trans (hb.mono (HB0.out.trans (HS.out.bel.mono HB0.out.size)).size))
              have HC3 := Lib.hid (HS.out.bc.keep (hb.block _ HS.out.bc.lt))
              have c1 : w23.cell? ⟨g, 1, none⟩ = some (.int .i64 a0) := (hb.cell (p := ⟨g, 1, none⟩) (by exact hrb.lt)).trans (hrb.cell 1)
              have HCF : Hid (∀ w', (∀ k, k ≠ w.heap.size → w'.heap[k]? = w23.heap[k]?) → w23.heap.size ≤ w'.heap.size → ChM w' L DA os OA) := fun w' hk hs => HS.out.chm_at rfl rfl (by omega) (by omega) (fun o ho => by have := HOP.out o ho; omega) (fun k h1 h2 => (hk k (by have h3 := HQ.out.lt; have h4 := HS.out.hgc; omega)).trans (hb.block k h2)) (Nat.le_trans hb.size hs)
              obtain ⟨x0, x1, x2, x3, x4⟩ := blk5 HC3.out
              have q0 := HQ3.out.frozen 0
              have q1 := HQ3.out.frozen 1
              have q2 := HQ3.out.frozen 2
              have q3 := HQ3.out.frozen 3
              have q4 := HQ3.out.frozen 4
              obtain ⟨p0, p1, p2, p3, p4⟩ := blk5 HQ3.out
              have hgne : g ≠ w.heap.size := by have h1 := HQ.out.lt; have h2 := HS1.out; omega
              have hgne2 : w.heap.size ≠ g := fun e => hgne e.symm
              clear hb d0 d1 d2 d3 d4 c2
              go_wp2_with fail
              refine wp_region_any (by kernel_rfl) ?_
              change wpAny _ _ _ _ _ _ _ (World.drew _)
              refine wpAny_take (i := 1) (v := ?_) rfl (by kernel_rfl) (by kernel_rfl) (by kernel_rfl) (fun _ _ _ h => h) (Or.inl ⟨by rfl, ?_⟩) ?_
              rotate_left
              · (intro w; go_simp; try with_reducible rfl)
              try simp only [Act.put, List.setIfInBounds_toArray, List.set_cons_zero, List.set_cons_succ]
              refine wpAny_ready (rs := [0, 2]) (by kernel_rfl) (by simp) ?_
              refine AllReady.cons rfl (fun K hK => ?_) (AllReady.cons rfl (fun K hK => ?_) AllReady.nil)
              · skip
                go_simp
                refine hK _ _ ?_
                clear hK K
                try simp only [Act.put, List.setIfInBounds_toArray, List.set_cons_zero, List.set_cons_succ]
                refine wpAny_ready (rs := [2, 3]) (by kernel_rfl) (by simp) ?_
                refine AllReady.cons rfl (fun K hK => ?_) (AllReady.cons rfl (fun K hK => ?_) AllReady.nil)
                · skip
                  go_simp
                  refine hK _ _ ?_
                  clear hK K
                  try simp only [Act.put, List.setIfInBounds_toArray, List.set_cons_zero, List.set_cons_succ]
                  refine wpAny_ready (rs := [3]) (by kernel_rfl) (by simp) ?_
                  refine AllReady.cons rfl (fun K hK => ?_) AllReady.nil
                  go_simp
                  refine hK _ _ ?_
                  clear hK K
                  try simp only [Act.put, List.setIfInBounds_toArray, List.set_cons_zero, List.set_cons_succ]
                  refine wpAny_ready (rs := [4]) (by kernel_rfl) (by simp) ?_
                  refine AllReady.cons rfl (fun K hK => ?_) AllReady.nil
                  go_simp
                  refine hK _ _ ?_
                  clear hK K
                  try simp only [Act.put, List.setIfInBounds_toArray, List.set_cons_zero, List.set_cons_succ]
                  refine wpAny_ready (rs := [5]) (by kernel_rfl) (by simp) ?_
                  refine AllReady.cons rfl (fun K hK => ?_) AllReady.nil
                  go_simp
                  refine hK _ _ ?_
                  clear hK K
                  try simp only [Act.put, List.setIfInBounds_toArray, List.set_cons_zero, List.set_cons_succ]
                  refine wpAny_done (by kernel_rfl) ?_ _
                  go_wp2_with fail
                  refine bodyPost_ret (results_pair (p := 2) (u := 3) (v := 4) (by kernel_rfl) _ _ w.heap.size _ #[.int .i64 n1, .int .i64 n2, .int .i64 n3, .slice DA n5 DC, .slice OA k OC] _ rfl (Blk.drew_ (((((HQ3.out.set_ 0 _).set_ 1 _).set_ 2 _).set_ 3 _).set_ 4 _)) Try.underlying25 rfl (by kernel_rfl)) rfl ?_
                  refine ⟨?_, (((((HW3.out.setCell (p := ⟨w.heap.size, 0, none⟩) (Nat.le_refl _) _).setCell (p := ⟨w.heap.size, 1, none⟩) (Nat.le_refl _) _).setCell (p := ⟨w.heap.size, 2, none⟩) (Nat.le_refl _) _).setCell (p := ⟨w.heap.size, 3, none⟩) (Nat.le_refl _) _).setCell (p := ⟨w.heap.size, 4, none⟩) (Nat.le_refl _) _).drew⟩
                  rw [HALL.out]
                  refine Or.inr ⟨rfl, HE0.out.trans HCE.out, DA, DC, OA, OC, os, rfl, ?_, ?_⟩
                  · refine HCF.out _ (fun k hk => ?_) ?_
                    · exact heap5d w23 w.heap.size _ _ _ _ _ k hk
                    · exact size5d w23 w.heap.size _ _ _ _ _
                  · show _ = Ending.returned (.tuple #[.agg #[.int .i64 n1, .int .i64 n2, .int .i64 n3, .slice DA L.length DC, .slice OA os.length OC], .int .i64 a0, .nilIface])
                    rw [hL5, hol]
                    rfl
                · skip
                  go_simp
                  refine hK _ _ ?_
                  clear hK K
                  try simp only [Act.put, List.setIfInBounds_toArray, List.set_cons_zero, List.set_cons_succ]
                  refine wpAny_ready (rs := [2]) (by kernel_rfl) (by simp) ?_
                  refine AllReady.cons rfl (fun K hK => ?_) AllReady.nil
                  go_simp
                  refine hK _ _ ?_
                  clear hK K
                  try simp only [Act.put, List.setIfInBounds_toArray, List.set_cons_zero, List.set_cons_succ]
                  refine wpAny_ready (rs := [4]) (by kernel_rfl) (by simp) ?_
                  refine AllReady.cons rfl (fun K hK => ?_) AllReady.nil
                  go_simp
                  refine hK _ _ ?_
                  clear hK K
                  try simp only [Act.put, List.setIfInBounds_toArray, List.set_cons_zero, List.set_cons_succ]
                  refine wpAny_ready (rs := [5]) (by kernel_rfl) (by simp) ?_
                  refine AllReady.cons rfl (fun K hK => ?_) AllReady.nil
                  go_simp
                  refine hK _ _ ?_
                  clear hK K
                  try simp only [Act.put, List.setIfInBounds_toArray, List.set_cons_zero, List.set_cons_succ]
                  refine wpAny_done (by kernel_rfl) ?_ _
                  go_wp2_with fail
                  refine bodyPost_ret (results_pair (p := 2) (u := 3) (v := 4) (by kernel_rfl) _ _ w.heap.size _ #[.int .i64 n1, .int .i64 n2, .int .i64 n3, .slice DA n5 DC, .slice OA k OC] _ rfl (Blk.drew_ (((((HQ3.out.set_ 0 _).set_ 1 _).set_ 2 _).set_ 3 _).set_ 4 _)) Try.underlying25 rfl (by kernel_rfl)) rfl ?_
                  refine ⟨?_, (((((HW3.out.setCell (p := ⟨w.heap.size, 0, none⟩) (Nat.le_refl _) _).setCell (p := ⟨w.heap.size, 1, none⟩) (Nat.le_refl _) _).setCell (p := ⟨w.heap.size, 2, none⟩) (Nat.le_refl _) _).setCell (p := ⟨w.heap.size, 3, none⟩) (Nat.le_refl _) _).setCell (p := ⟨w.heap.size, 4, none⟩) (Nat.le_refl _) _).drew⟩
                  rw [HALL.out]
                  refine Or.inr ⟨rfl, HE0.out.trans HCE.out, DA, DC, OA, OC, os, rfl, ?_, ?_⟩
                  · refine HCF.out _ (fun k hk => ?_) ?_
                    · exact heap5d w23 w.heap.size _ _ _ _ _ k hk
                    · exact size5d w23 w.heap.size _ _ _ _ _
                  · show _ = Ending.returned (.tuple #[.agg #[.int .i64 n1, .int .i64 n2, .int .i64 n3, .slice DA L.length DC, .slice OA os.length OC], .int .i64 a0, .nilIface])
                    rw [hL5, hol]
                    rfl
              · skip
                go_simp
                refine hK _ _ ?_
                clear hK K
                try simp only [Act.put, List.setIfInBounds_toArray, List.set_cons_zero, List.set_cons_succ]
                refine wpAny_ready (rs := [0]) (by kernel_rfl) (by simp) ?_
                refine AllReady.cons rfl (fun K hK => ?_) AllReady.nil
                go_simp
                refine hK _ _ ?_
                clear hK K
                try simp only [Act.put, List.setIfInBounds_toArray, List.set_cons_zero, List.set_cons_succ]
                refine wpAny_ready (rs := [3]) (by kernel_rfl) (by simp) ?_
                refine AllReady.cons rfl (fun K hK => ?_) AllReady.nil
                go_simp
                refine hK _ _ ?_
                clear hK K
                try simp only [Act.put, List.setIfInBounds_toArray, List.set_cons_zero, List.set_cons_succ]
                refine wpAny_ready (rs := [4]) (by kernel_rfl) (by simp) ?_
                refine AllReady.cons rfl (fun K hK => ?_) AllReady.nil
                go_simp
                refine hK _ _ ?_
                clear hK K
                try simp only [Act.put, List.setIfInBounds_toArray, List.set_cons_zero, List.set_cons_succ]
                refine wpAny_ready (rs := [5]) (by kernel_rfl) (by simp) ?_
                refine AllReady.cons rfl (fun K hK => ?_) AllReady.nil
                go_simp
                refine hK _ _ ?_
                clear hK K
                try simp only [Act.put, List.setIfInBounds_toArray, List.set_cons_zero, List.set_cons_succ]
                refine wpAny_done (by kernel_rfl) ?_ _
                go_wp2_with fail
                refine bodyPost_ret (results_pair (p := 2) (u := 3) (v := 4) (by kernel_rfl) _ _ w.heap.size _ #[.int .i64 n1, .int .i64 n2, .int .i64 n3, .slice DA n5 DC, .slice OA k OC] _ rfl (Blk.drew_ (((((HQ3.out.set_ 0 _).set_ 1 _).set_ 2 _).set_ 3 _).set_ 4 _)) Try.underlying25 rfl (by kernel_rfl)) rfl ?_
                refine ⟨?_, (((((HW3.out.setCell (p := ⟨w.heap.size, 0, none⟩) (Nat.le_refl _) _).setCell (p := ⟨w.heap.size, 1, none⟩) (Nat.le_refl _) _).setCell (p := ⟨w.heap.size, 2, none⟩) (Nat.le_refl _) _).setCell (p := ⟨w.heap.size, 3, none⟩) (Nat.le_refl _) _).setCell (p := ⟨w.heap.size, 4, none⟩) (Nat.le_refl _) _).drew⟩
                rw [HALL.out]
                refine Or.inr ⟨rfl, HE0.out.trans HCE.out, DA, DC, OA, OC, os, rfl, ?_, ?_⟩
                · refine HCF.out _ (fun k hk => ?_) ?_
                  · exact heap5d w23 w.heap.size _ _ _ _ _ k hk
                  · exact size5d w23 w.heap.size _ _ _ _ _
                · show _ = Ending.returned (.tuple #[.agg #[.int .i64 n1, .int .i64 n2, .int .i64 n3, .slice DA L.length DC, .slice OA os.length OC], .int .i64 a0, .nilIface])
                  rw [hL5, hol]
                  rfl
            · rw [show errN ce = .iface 56 (.int .i64 ce) from if_neg h0] at HCK
              go_wp2_with fail
              go_at_call 7
              refine HCK.out.mono ?_
              rintro e w23 ⟨rfl, hb⟩
              have HQ3 := Lib.hid (HQ2.out.keep (hb.block _ HQ2.out.lt))
              have HW3 := Lib.hid ((HB0.out.trans (HS.out.bel.mono HB0.out.size)).trans (hb.mono (HB0.out.trans (HS.out.bel.mono HB0.out.size)).size))
              have q0 := HQ3.out.frozen 0
              have q1 := HQ3.out.frozen 1
              have q2 := HQ3.out.frozen 2
              have q3 := HQ3.out.frozen 3
              have q4 := HQ3.out.frozen 4
              obtain ⟨p0, p1, p2, p3, p4⟩ := blk5 HQ3.out
              clear hb d0 d1 d2 d3 d4 c2
              go_wp2_with fail
              refine bodyPost_ret (results_pair (p := 2) (u := 3) (v := 4) (by kernel_rfl) _ _ w.heap.size _ #[.int .i64 0, .int .i64 0, .int .i64 0, .slice none 0 0, .slice none 0 0] _ rfl (((((HQ3.out.set_ 0 _).set_ 1 _).set_ 2 _).set_ 3 _).set_ 4 _) Try.underlying25 rfl (by kernel_rfl)) rfl ?_
              exact ⟨.inl ⟨Or.inr (by rw [HALL.out]; show chgE n1 n2 n3 L (os.map base) ≠ 0; rw [HE0.out, HCE.out]; exact h0), rfl⟩, (((((HW3.out.setCell (p := ⟨w.heap.size, 0, none⟩) (Nat.le_refl _) _).setCell (p := ⟨w.heap.size, 1, none⟩) (Nat.le_refl _) _).setCell (p := ⟨w.heap.size, 2, none⟩) (Nat.le_refl _) _).setCell (p := ⟨w.heap.size, 3, none⟩) (Nat.le_refl _) _).setCell (p := ⟨w.heap.size, 4, none⟩) (Nat.le_refl _) _)⟩
end Go.Proofs.Ytoolpppbbphbjaa
