/- Contracts: package commonbookbig: trim, words, give, NewInt. -/
import Derived.Test.YtfaihilehdjfjaaDoorBigP
import Derived.Test.YtfaihilehdjfjaaDoorBytes0
namespace Go.Proofs.YtfaihilehdjfjaaDoor
open Go.ChangeShapes Go.WideShapes Go.ChangeAt Go.RowKit

set_option maxRecDepth 20000 in
set_option maxHeartbeats 2000000 in
theorem trim_any (l : List Nat) (hok : Hid (okW l)) (D : Nat → Prop) (A : Option Addr) (n c : Nat) (hn : l.length = n) (hc : n ≤ c) (hl : n ≤ 2000000) (w : World) (hr : Reads D w 1 A n (u32C l)) :
    Calls Tryd.prog 173 #[.slice A n c] w fun e w' => e = .returned (.slice A (wd (valW l)).length c) ∧ w = w' := by
  subst hn
  have HR := Lib.hid hr
  clear hr
  go_enter Tryd.func173, Tryd.ntmps173
  go_wp2
  go_loopw [3] (fun i wr => ∃ k : Nat, k ≤ l.length ∧ i = .int .i64 k ∧ Hid (TrimAt l k) ∧ w = wr) (fun i _ => (intOf i).toNat)
  case atStart => exact ⟨l.length, by omega, rfl, TrimAt.start l, rfl⟩
  obtain ⟨k, hk, rfl, HT, rfl⟩ := hrel
  rcases Nat.eq_zero_or_pos k with rfl | hk0
  · have HF : Hid ((wd (valW l)).length = 0) := (HT.out.fin hok.out (fun j x e => by omega)).2
    go_wp2_with fail
    go_ret
    exact ⟨by rw [HF.out]; first | rfl | (simp; done), rfl⟩
  · obtain ⟨j, rfl⟩ : ∃ j, k = j + 1 := ⟨k - 1, by omega⟩
    obtain ⟨x, hx⟩ := get_lt (l := l) (k := j) (by omega)
    obtain ⟨b, off, hA, _, hcell⟩ := HR.out.at_ (by omega) (by omega)
    have hcj := hcell j _ (u32_at hx)
    have hj1 : ((j : Int) + 1) - 1 = (j : Int) := by omega
    subst hA
    by_cases hx0 : x = 0
    · subst hx0
      have HS := Lib.hid (HT.out.step hx)
      clear hx hcell
      go_wp2_with fail
      exact ⟨⟨j, by omega, by go_num, HS, by trivial⟩, by simp [intOf]⟩
    · have hxz : ((x : Int) == 0) = false := by simp; omega
      have HF : Hid ((wd (valW l)).length = j + 1) := (HT.out.fin hok.out (fun j' x' e hx' => by
        obtain rfl : j = j' := by omega
        rw [hx] at hx'; injection hx' with e'; omega)).2
      clear hx hcell hx0
      go_wp2_with fail
      go_ret
      exact ⟨by rw [HF.out]; first | rfl | (simp; done), rfl⟩

theorem reads_wd {l : List Nat} (hok : okW l) {D : Nat → Prop} {A : Option Addr} {n : Nat} {w : World} (hn : l.length = n) (hr : Reads D w 1 A n (u32C l)) : Reads D w 1 A (wd (valW l)).length (u32C (wd (valW l))) := by
  obtain ⟨h1, h2⟩ := wd_take hok
  have := hr.take (k := (wd (valW l)).length) (by omega)
  rw [Nat.mul_one, ← u32C_take, ← h2] at this
  exact this
theorem reads_newW (wr : World) (t : TypeId) (l : List Nat) (n : Nat) (hn : l.length = n) (cs : Array Value) (hcs : cs.toList = u32C l) (H : Nat) (hH : wr.heap.size = H) : Reads (fun k => k = H) (wr.alloc (.cells cs t)) 1 (some ⟨H, 0, none⟩) n (u32C l) := by
  subst hH hn
  refine ⟨by simp [u32C], fun _ => ⟨_, rfl, rfl, fun j u hu => ?_⟩⟩
  have e : ((⟨wr.heap.size, 0, none⟩ : Addr).add j) = ⟨wr.heap.size, j, none⟩ := by unfold Addr.add; split <;> simp_all
  have hb : (wr.alloc (.cells cs t)).heap[wr.heap.size]? = some (.cells cs t) := heap_alloc_new wr _
  rw [e, cell_of_row _ _ j _ _ _ hb, ← hu, ← hcs]
  simp

set_option maxRecDepth 20000 in
set_option maxHeartbeats 2000000 in
theorem words_any (n : Nat) (hn : Hid (n < 2 ^ 64)) (w : World) :
    Calls Tryd.prog 169 #[.int .u64 n] w fun e w' => ∃ A c, e = .returned (.slice A (wd n).length c) ∧ (wd n).length ≤ c ∧ Reads (fun k => w.heap.size ≤ k ∧ k < w'.heap.size) w' 1 A (wd n).length (u32C (wd n)) ∧ Below w.heap.size w w' := by
  obtain ⟨a, ha⟩ : ∃ a, a = n % 4294967296 := ⟨_, rfl⟩
  obtain ⟨b, hb⟩ : ∃ b, b = n / 4294967296 := ⟨_, rfl⟩
  have hn' : n < 18446744073709551616 := hn.out
  have ha2 : (n : Int) % 4294967296 = (a : Int) := by omega
  have hb2 : (n : Int) / 4294967296 = (b : Int) := by omega
  have hb3 : (b : Int) % 4294967296 = (b : Int) := by omega
  have hv : valW [a, b] = n := by simp only [valW]; omega
  have hok : okW [a, b] := by
    intro x hx
    simp at hx
    omega
  have HV := Lib.hid hv
  have HO := Lib.hid hok
  clear hn' ha hb hv hok
  go_enter Tryd.func169, Tryd.ntmps169
  go_wp2_with fail
  refine (trim_any [a, b] HO (fun k => k = w.heap.size) (some ⟨w.heap.size, 0, none⟩) 2 2 rfl (by omega) (by omega) _ (reads_newW w 184 [a, b] 2 rfl _ rfl _ rfl)).mono ?_
  rintro e w1 ⟨rfl, rfl⟩
  have hr := reads_wd HO.out rfl (reads_newW w 184 [a, b] 2 rfl #[.int .u32 (a : Int), .int .u32 (b : Int)] rfl _ rfl)
  have hl2 := (wd_take HO.out).1
  rw [HV.out] at hr hl2 ⊢
  go_wp2_with fail
  go_ret
  refine ⟨_, 2, rfl, hl2, hr.more fun k e => by subst e; simp, (Below.refl _ w).alloc (Nat.le_refl _) _⟩

/-- a big number -/
def IsInt (w : World) (z n : Nat) (D : Nat → Prop) : Prop := ∃ A c, Blk w z 188 #[.bool false, .slice A (wd n).length c] ∧ (wd n).length ≤ c ∧ Reads D w 1 A (wd n).length (u32C (wd n))
theorem IsInt.keep {w w' : World} {z n : Nat} {D : Nat → Prop} (h : IsInt w z n D) (hk : Keeps (fun k => k = z ∨ D k) w w') : IsInt w' z n D := by
  obtain ⟨A, c, h1, h2, h3⟩ := h
  exact ⟨A, c, h1.keep (hk z (.inl rfl)), h2, h3.keep (hk.mono fun k h => .inr h)⟩
theorem IsInt.more {w : World} {z n : Nat} {D D' : Nat → Prop} (h : IsInt w z n D) (hd : ∀ k, D k → D' k) : IsInt w z n D' := by
  obtain ⟨A, c, h1, h2, h3⟩ := h
  exact ⟨A, c, h1, h2, h3.more hd⟩

set_option maxRecDepth 20000 in
set_option maxHeartbeats 2000000 in
theorem give_any (z : Nat) (u v : Value) (A : Option Addr) (n c : Nat) (w : World) (hb : Blk w z 188 #[u, v]) :
    Calls Tryd.prog 160 #[.pointer (some ⟨z, 0, none⟩), .bool false, .slice A n c] w fun e w' => e = .returned (.pointer (some ⟨z, 0, none⟩)) ∧ Blk w' z 188 #[.bool false, .slice A n c] ∧ Chg (fun k => k = z) w w' := by
  have h1 : w.cell? ⟨z, 1, none⟩ = some v := hb.cell 1
  have f1 := hb.frozen 1
  have hb2 := hb.set_ 1 (.slice A n c)
  have h0 : (w.setCell ⟨z, 1, none⟩ (.slice A n c)).cell? ⟨z, 0, none⟩ = some u := hb2.cell 0
  have f0 := hb2.frozen 0
  have hb3 := hb2.set_ 0 (.bool false)
  have hc : Chg (fun k => k = z) w ((w.setCell ⟨z, 1, none⟩ (.slice A n c)).setCell ⟨z, 0, none⟩ (.bool false)) := Chg.setCell (M := fun k => k = z) (p := ⟨z, 0, none⟩) (Chg.setCell (M := fun k => k = z) (p := ⟨z, 1, none⟩) (Chg.refl w) (.inl rfl) _) (.inl rfl) _
  go_enter Tryd.func160, Tryd.ntmps160
  go_wp2
  go_ret
  exact ⟨rfl, by simpa using hb3, hc⟩

set_option maxRecDepth 20000 in
set_option maxHeartbeats 2000000 in
theorem setInt_any (z : Nat) (u v : Value) (n : Nat) (hn : n < 9223372036854775808) (w : World) (hb : Blk w z 188 #[u, v]) :
    Calls Tryd.prog 150 #[.pointer (some ⟨z, 0, none⟩), .int .i64 n] w fun e w' => e = .returned (.pointer (some ⟨z, 0, none⟩)) ∧ IsInt w' z n (fun k => w.heap.size ≤ k ∧ k < w'.heap.size) ∧ Chg (fun k => k = z) w w' := by
  have HN : Hid (n < 2 ^ 64) := by show _ < _; omega
  have hu : (n : Int) % 18446744073709551616 = (n : Int) := by omega
  have hlt := hb.lt
  go_enter Tryd.func150, Tryd.ntmps150
  go_wp2_with fail
  refine (words_any n HN w).mono ?_
  rintro e w1 ⟨A, c, rfl, hlc, hr, hbl⟩
  have hb1 := hb.keep (hbl.block z hlt)
  go_wp2_with fail
  refine (give_any z u v A (wd n).length c w1 hb1).mono ?_
  rintro e w2 ⟨rfl, hb2, hc2⟩
  go_wp2_with fail
  go_ret
  have hsz := hc2.size
  refine ⟨rfl, ⟨A, c, hb2, hlc, ?_⟩, (Chg.of_below hbl).trans hc2 (fun k _ h => h)⟩
  refine (hr.keep (hc2.keeps fun k hk => ⟨hk.2, fun e => ?_⟩)).more fun k hk => ⟨hk.1, by omega⟩
  have := hk.1; omega

set_option maxRecDepth 20000 in
set_option maxHeartbeats 2000000 in
theorem newInt_any (n : Nat) (hn : n < 9223372036854775808) (w : World) :
    Calls Tryd.prog 122 #[.int .i64 n] w fun e w' => e = .returned (.pointer (some ⟨w.heap.size, 0, none⟩)) ∧ IsInt w' w.heap.size n (fun k => w.heap.size < k ∧ k < w'.heap.size) ∧ Below w.heap.size w w' := by
  go_enter Tryd.func122, Tryd.ntmps122
  go_wp2_with fail
  refine (setInt_any w.heap.size _ _ n hn _ (Blk.new _ _ _)).mono ?_
  rintro e w1 ⟨rfl, hi, hc⟩
  go_wp2_with fail
  go_ret
  have hs := hc.size
  simp at hs
  refine ⟨rfl, hi.more fun k hk => by simp at hk; omega, ((Below.refl _ w).alloc (Nat.le_refl _) _).trans (hc.below (by simp) fun k hk => by omega)⟩
end Go.Proofs.YtfaihilehdjfjaaDoor
