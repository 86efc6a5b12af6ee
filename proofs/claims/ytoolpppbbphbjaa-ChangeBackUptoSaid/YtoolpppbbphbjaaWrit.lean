/- Contracts: the program's writer: numbers, a text. -/
import Derived.Test.YtoolpppbbphbjaaNums
import Derived.Test.YtoolpppbbphbjaaAppS
import Derived.Deep.RegionHeld3
import Derived.Deep.RegionWith
namespace Go.Proofs.Ytoolpppbbphbjaa
open Go.ChangeShapes Go.WideShapes Go.ChangeAt Go.RowKit

/-- a growing slice of the call's own that lies in a cell: of what was there only its block and the cell may have turned -/
def WEvo (w : World) (g : Nat) (o : Option Nat) (w' : World) (o' : Option Nat) : Prop := Chg (fun k => k = g ∨ o = some k) w w' ∧ (o' = o ∨ ∃ h, o' = some h ∧ w.heap.size ≤ h)
theorem WEvo.refl (w : World) (g : Nat) (o : Option Nat) : WEvo w g o w o := ⟨Chg.refl w, .inl rfl⟩
theorem WEvo.trans {a b c : World} {g : Nat} {o o' o'' : Option Nat} (h : WEvo a g o b o') (k : WEvo b g o' c o'') : WEvo a g o c o'' := by
  refine ⟨h.1.trans k.1 fun i hi hm => ?_, ?_⟩
  · rcases hm with hm | hm
    · exact .inl hm
    · rcases h.2 with e | ⟨x, e, hx⟩
      · exact .inr (by rw [← e]; exact hm)
      · rw [e] at hm; injection hm with hm; omega
  · rcases k.2 with e | ⟨x, e, hx⟩
    · rw [e]; exact h.2
    · exact .inr ⟨x, e, Nat.le_trans h.1.size hx⟩
theorem WEvo.of_below {w w' : World} {g : Nat} {o : Option Nat} (h : Below w.heap.size w w') : WEvo w g o w' o := ⟨Chg.of_below h, .inl rfl⟩
theorem WEvo.of_evo {w w' : World} {g : Nat} {o o' : Option Nat} (h : Evo w o w' o') : WEvo w g o w' o' :=
  ⟨⟨h.os, h.tape, h.output, h.size, fun k hk hn => h.block k hk fun e => hn (.inr e)⟩, h.lies⟩
theorem WEvo.set_ {a w : World} {g : Nat} {o o' : Option Nat} (h : WEvo a g o w o') (i : Nat) (u : Value) : WEvo a g o (w.setCell ⟨g, i, none⟩ u) o' := ⟨h.1.setCell (p := ⟨g, i, none⟩) (.inl (.inl rfl)) u, h.2⟩
theorem WEvo.drew {a w : World} {g : Nat} {o o' : Option Nat} (h : WEvo a g o w o') : WEvo a g o w.drew o' := ⟨h.1.drew, h.2⟩
theorem WEvo.alloc {a w : World} {g : Nat} {o o' : Option Nat} (h : WEvo a g o w o') (ob : Obj) : WEvo a g o (w.alloc ob) o' := ⟨h.1.alloc ob, h.2⟩
theorem WEvo.block {w w' : World} {g : Nat} {o o' : Option Nat} (h : WEvo w g o w' o') {k : Nat} (hk : k < w.heap.size) (h1 : k ≠ g) (h2 : o ≠ some k) : w'.heap[k]? = w.heap[k]? := h.1.block k hk (by rintro (e | e); exact h1 e; exact h2 e)
theorem blk_own_ne {w : World} {g base : Nat} {t : TypeId} {cs : Array Value} {v : Value} {n : Nat} {xs : List Value} (hb : Blk w g t cs) (h : w.ownsRow base 5 1 v n xs) (hne : 5 ≠ t) : v.ownBlock ≠ some g := own_blk_ne h hb hne
theorem run_app_wr (w : World) (base : Nat) (t2 ty : TypeId) (ht2 : ∃ e, Try.prog.underlying t2 = some (.slice e)) (b : Option Addr) (n c : Nat) (xs : List Value) (hown : w.ownsRow base 5 1 (.slice b n c) n xs)
    (D : Nat → Prop) (A : Option Addr) (m c2 : Nat) (news : List UInt8) (hr : Reads D w 1 A m (bytesC news)) (hlen : n + m ≤ 10000000) (hbase : base ≤ w.heap.size) :
    ∃ v' w', (Builtin.append_ #[43, t2] ty #[.slice b n c, .slice A m c2]).run Try.prog w = .ok v' w' ∧ (w'.ownsRow base 5 1 v' (n + m) (xs ++ bytesC news) ∧ Evo w (Value.slice b n c).ownBlock w' v'.ownBlock) := by
  obtain ⟨i0, hi, hz0, hz1, hz2⟩ := info_parts infoByte
  obtain ⟨e2, ht2⟩ := ht2
  have hu : Try.prog.underlying 43 = some (.slice 5) := Try.underlying43
  obtain ⟨v', w', h1, h2, h3, h4⟩ := run_append_any (P := Try.prog) w base 43 ty 5 i0 (.int .u8 0) 1 1 hu hi hz0 hz1 hz2 rfl (by omega) (.slice b n c) n xs hown D A m c2 (bytesC news) hr (bytesC_one _) (by simp only [maxLen]; omega) (by omega) hbase
  exact ⟨v', w', by rw [append_types w _ _ _ _ e2 i0 hu ht2 hi]; exact h1, h2, Evo.of_append h3 h4⟩

set_option maxHeartbeats 4000000 in
set_option maxRecDepth 20000 in
theorem wNums_any (xs : List Int) (pre : List UInt8) (v : Value) (base g : Nat) (D : Nat → Prop) (A : Option Addr) (n c : Nat) (w : World)
    (hb : Blk w g 43 #[v]) (hown : w.ownsRow base 5 1 v pre.length (bytesC pre)) (hbase : base ≤ w.heap.size) (hr : Reads D w 1 A n (intsC xs)) (hD : ∀ k, D k → k < w.heap.size ∧ v.ownBlock ≠ some k ∧ k ≠ g)
    (hn : xs.length = n) (hn1 : n ≤ 100) (hp : pre.length ≤ 1000000) (hx : ∀ x ∈ xs, 0 ≤ x ∧ x ≤ 9223372036854775807) :
    Calls Try.prog 8 #[.pointer (some ⟨g, 0, none⟩), .slice A n c] w fun e w' => e = .returned (.tuple #[]) ∧ ∃ v', Blk w' g 43 #[v'] ∧ w'.ownsRow base 5 1 v' (pre ++ numsL xs).length (bytesC (pre ++ numsL xs)) ∧ WEvo w g v.ownBlock w' v'.ownBlock := by
  have HR := Lib.hid hr
  have HD := Lib.hid hD
  have HN := Lib.hid hn
  have HX := Lib.hid hx
  have HP := Lib.hid hp
  have HB0 := Lib.hid hb
  have HO0 := Lib.hid hown
  clear hr hD hn hx hp hb hown
  go_enter Try.func8, Try.ntmps8
  go_wp2_with fail
  go_loopw [8] (fun s8 wr => ∃ (k : Nat) (vr : Value), k ≤ n ∧ s8 = .int .i64 k ∧ Hid (Blk wr g 43 #[vr]) ∧ Hid (wr.ownsRow base 5 1 vr (pre ++ numsL (xs.take k)).length (bytesC (pre ++ numsL (xs.take k)))) ∧ Hid (WEvo w g v.ownBlock wr vr.ownBlock)) (fun s8 _ => n - (intOf s8).toNat)
  case atStart => exact ⟨0, v, by omega, rfl, HB0, by show World.ownsRow _ _ _ _ _ _ _; simpa [numsL] using HO0.out, WEvo.refl _ _ _⟩
  case round =>
    clear HB0 HO0
    obtain ⟨k, vr, hk, rfl, HB, HO, HE⟩ := hrel
    by_cases hlt : k < n
    · obtain ⟨x, hx⟩ : ∃ x, xs[k]? = some x := get_lt (by rw [HN.out]; exact hlt)
      obtain ⟨b, off, hA, hb, hcell⟩ := HR.out.at_ (by omega) (by omega)
      subst hA
      have hxb := HX.out x (List.mem_of_getElem? hx)
      obtain ⟨hb1, hb2, hb3⟩ := HD.out b hb
      have hcx : wr.cell? ⟨b, off + k, none⟩ = some (.int .i64 x) := by
        rw [World.cell?_of_block (w := w) (HE.out.block hb1 hb3 hb2)]
        exact hcell k _ (intsC_at_ hx)
      have hu := u64_nat hxb.1 hxb.2
      have hlen := numsL_len (xs.take k)
      have hst : Hid (pre ++ numsL (xs.take (k + 1)) = (pre ++ numsL (xs.take k)) ++ putN x.toNat) := by show _ = _; rw [numsL_take hx, List.append_assoc]
      have hpl : (pre ++ numsL (xs.take k)).length ≤ 1001000 := by
        have := HP.out
        simp only [List.length_append, List.length_take] at hlen ⊢
        omega
      have HQ : Hid (x.toNat < 2 ^ 64) := by show _ < _; omega
      generalize pre ++ numsL (xs.take k) = acc at HO hst hpl
      generalize x.toNat = q at hu hst HQ
      obtain ⟨VA, VC, hv, _, _, _⟩ := Reads.of_own HO.out
      subst hv
      have hgne := blk_own_ne HB.out HO.out (by decide)
      have hc0 : wr.cell? ⟨g, 0, none⟩ = some (.slice VA acc.length VC) := HB.out.cell 0
      have hf0 : wr.frozen? ⟨g, 0, none⟩ = false := HB.out.frozen 0
      have hglt := HB.out.lt
      have hbs : base ≤ wr.heap.size := Nat.le_trans hbase HE.out.1.size
      have hpn := (putN_length q).2
      clear hx hxb hlen
      go_wp2_with fail
      refine wp_region_any (by kernel_rfl) ?_
      change wpAny _ _ _ _ _ _ _ (World.drew _)
      refine wpAny_take (i := 0) (v := ?_) rfl (by kernel_rfl) (by kernel_rfl) (by kernel_rfl) (fun _ _ _ h => h) (Or.inl ⟨by rfl, ?_⟩) ?_
      rotate_left
      · (intro w; go_simp; try with_reducible rfl)
      try simp only [Act.put, List.setIfInBounds_toArray, List.set_cons_zero, List.set_cons_succ]
      refine wpAny_take (i := 1) (v := ?_) rfl (by kernel_rfl) (by kernel_rfl) (by kernel_rfl) (fun _ _ _ h => h) (Or.inl ⟨by rfl, ?_⟩) ?_
      rotate_left
      · (intro w; go_simp; try with_reducible rfl)
      try simp only [Act.put, List.setIfInBounds_toArray, List.set_cons_zero, List.set_cons_succ]
      refine wpAny_take (i := 2) (v := ?_) rfl (by kernel_rfl) (by kernel_rfl) (by kernel_rfl) (fun _ _ _ h => h) (Or.inl ⟨by rfl, ?_⟩) ?_
      rotate_left
      · (intro w; go_simp; try with_reducible rfl)
      try simp only [Act.put, List.setIfInBounds_toArray, List.set_cons_zero, List.set_cons_succ]
      refine wpAny_take (i := 4) (v := ?_) rfl (by kernel_rfl) (by kernel_rfl) (by kernel_rfl) (fun _ _ _ h => h) (Or.inl ⟨by rfl, ?_⟩) ?_
      rotate_left
      · (intro w; go_simp; try with_reducible rfl)
      try simp only [Act.put, List.setIfInBounds_toArray, List.set_cons_zero, List.set_cons_succ]
      refine wpAny_take (i := 5) (v := ?_) rfl (by kernel_rfl) (by kernel_rfl) (by kernel_rfl) (fun _ _ _ h => h) (Or.inl ⟨by rfl, ?_⟩) ?_
      rotate_left
      · (intro w; go_simp; try with_reducible rfl)
      try simp only [Act.put, List.setIfInBounds_toArray, List.set_cons_zero, List.set_cons_succ]
      refine wpAny_ready (rs := [3, 6]) (by kernel_rfl) (by simp) ?_
      refine AllReady.cons rfl (fun K hK => ?_) (AllReady.cons rfl (fun K hK => ?_) AllReady.nil)
      · skip
        go_simp
        refine hK _ _ ?_
        clear hK K
        try simp only [Act.put, List.setIfInBounds_toArray, List.set_cons_zero, List.set_cons_succ]
        refine wpAny_ready (rs := [6]) (by kernel_rfl) (by simp) ?_
        refine AllReady.cons rfl (fun K hK => ?_) AllReady.nil
        go_simp
        refine (put_sl q HQ _).mono ?_
        rintro e wa ⟨Aa, ca, rfl, hoa, hba⟩
        refine hK _ _ ?_
        clear hK K
        try simp only [Act.put, List.setIfInBounds_toArray, List.set_cons_zero, List.set_cons_succ]
        have s1 : wa.cell? ⟨g, 0, none⟩ = some (.slice VA acc.length VC) := (hba.cell (by exact hglt)).trans hc0
        have hsa : base ≤ wa.heap.size := Nat.le_trans hbs (by exact hba.size)
        refine wpAny_ready (rs := [7]) (by kernel_rfl) (by simp) ?_
        refine AllReady.cons rfl (fun K hK => ?_) AllReady.nil
        refine step_app (by rfl) (.tmp 15) (.tmp 18) 43 26 (by rfl) (.slice VA acc.length VC) (.slice Aa (putN q).length ca) (by rfl) (by rfl) _ (run_app_wr wa base _ _ ⟨_, Try.underlying26⟩ VA acc.length VC (bytesC acc) (own_below (by exact HO.out) hba) _ Aa (putN q).length ca (putN q) (own_reads hoa) (by omega) hsa) ?_
        rintro vb wb ⟨hob, heb⟩
        obtain ⟨VB, CB, hvb, _, _, _⟩ := Reads.of_own hob
        subst hvb
        refine hK _ _ ?_
        clear hK K
        try simp only [Act.put, List.setIfInBounds_toArray, List.set_cons_zero, List.set_cons_succ]
        have hgb := heb.block g (Nat.lt_of_lt_of_le hglt (by exact hba.size)) hgne
        have t1 : wb.cell? ⟨g, 0, none⟩ = some (.slice VA acc.length VC) := (World.cell?_of_block (w := wa) hgb).trans s1
        have t2 : wb.frozen? ⟨g, 0, none⟩ = false := (World.frozen?_of_block (w := wa) hgb).trans ((World.frozen?_of_block (hba.block g (by exact hglt))).trans hf0)
        refine wpAny_take (i := 8) (v := ?_) rfl (by kernel_rfl) (by kernel_rfl) (by kernel_rfl) (fun _ _ _ h => h) (Or.inl ⟨by rfl, ?_⟩) ?_
        rotate_left
        · (intro w; go_simp; try with_reducible rfl)
        try simp only [Act.put, List.setIfInBounds_toArray, List.set_cons_zero, List.set_cons_succ]
        refine wpAny_ready (rs := [9]) (by kernel_rfl) (by simp) ?_
        refine AllReady.cons rfl (fun K hK => ?_) AllReady.nil
        go_simp
        refine hK _ _ ?_
        clear hK K
        try simp only [Act.put, List.setIfInBounds_toArray, List.set_cons_zero, List.set_cons_succ]
        refine wpAny_done (by kernel_rfl) ?_ _
        have HBs : Hid (Blk (wb.setCell ⟨g, 0, none⟩ (.slice VB (acc.length + (putN q).length) CB)) g 43 #[.slice VB (acc.length + (putN q).length) CB]) := by
          have h1 : Blk wb g 43 #[.slice VA acc.length VC] := hgb.trans ((hba.block g (by exact hglt)).trans HB.out)
          exact h1.set_ 0 _
        have hneB : (Value.slice VB (acc.length + (putN q).length) CB).ownBlock ≠ some g := by
          intro hh
          rcases heb.lies with e1 | ⟨z, e1, hz⟩
          · rw [e1] at hh; exact hgne hh
          · rw [e1] at hh; injection hh with hh; have : g < wa.heap.size := Nat.lt_of_lt_of_le hglt (by exact hba.size); omega
        have HOs : Hid ((wb.setCell ⟨g, 0, none⟩ (.slice VB (acc.length + (putN q).length) CB)).ownsRow base 5 1 (.slice VB (acc.length + (putN q).length) CB) (acc ++ putN q).length (bytesC (acc ++ putN q))) := by
          show World.ownsRow _ _ _ _ _ _ _
          rw [List.length_append, bytesC_append]
          exact own_keep hob fun g' hg' => Below.heap_setCell _ _ _ _ (fun e => hneB (by rw [hg', e]))
        have HEs : Hid (WEvo w g v.ownBlock (wb.setCell ⟨g, 0, none⟩ (.slice VB (acc.length + (putN q).length) CB)) (Value.slice VB (acc.length + (putN q).length) CB).ownBlock) :=
          HE.out.drew.trans (((WEvo.of_below (w := wr.drew) (by exact hba)).trans (WEvo.of_evo heb)).set_ 0 _)
        clear hgb t1 t2 s1 hob heb hba hoa hneB hc0 hf0
        go_wp2_with fail
        first
          | exact ⟨⟨k + 1, _, by omega, by go_num, HBs, by rw [hst.out]; exact HOs, HEs⟩, by simp [intOf]; omega⟩
          | (go_roundw
             case rel => exact ⟨k + 1, _, by omega, by go_num, HBs, by rw [hst.out]; exact HOs, HEs⟩
             case measure => simp [intOf]; omega)
      · skip
        go_simp
        refine (put_sl q HQ _).mono ?_
        rintro e wa ⟨Aa, ca, rfl, hoa, hba⟩
        refine hK _ _ ?_
        clear hK K
        try simp only [Act.put, List.setIfInBounds_toArray, List.set_cons_zero, List.set_cons_succ]
        have s1 : wa.cell? ⟨g, 0, none⟩ = some (.slice VA acc.length VC) := (hba.cell (by exact hglt)).trans hc0
        have hsa : base ≤ wa.heap.size := Nat.le_trans hbs (by exact hba.size)
        refine wpAny_ready (rs := [3]) (by kernel_rfl) (by simp) ?_
        refine AllReady.cons rfl (fun K hK => ?_) AllReady.nil
        go_simp
        refine hK _ _ ?_
        clear hK K
        try simp only [Act.put, List.setIfInBounds_toArray, List.set_cons_zero, List.set_cons_succ]
        refine wpAny_ready (rs := [7]) (by kernel_rfl) (by simp) ?_
        refine AllReady.cons rfl (fun K hK => ?_) AllReady.nil
        refine step_app (by rfl) (.tmp 15) (.tmp 18) 43 26 (by rfl) (.slice VA acc.length VC) (.slice Aa (putN q).length ca) (by rfl) (by rfl) _ (run_app_wr wa base _ _ ⟨_, Try.underlying26⟩ VA acc.length VC (bytesC acc) (own_below (by exact HO.out) hba) _ Aa (putN q).length ca (putN q) (own_reads hoa) (by omega) hsa) ?_
        rintro vb wb ⟨hob, heb⟩
        obtain ⟨VB, CB, hvb, _, _, _⟩ := Reads.of_own hob
        subst hvb
        refine hK _ _ ?_
        clear hK K
        try simp only [Act.put, List.setIfInBounds_toArray, List.set_cons_zero, List.set_cons_succ]
        have hgb := heb.block g (Nat.lt_of_lt_of_le hglt (by exact hba.size)) hgne
        have t1 : wb.cell? ⟨g, 0, none⟩ = some (.slice VA acc.length VC) := (World.cell?_of_block (w := wa) hgb).trans s1
        have t2 : wb.frozen? ⟨g, 0, none⟩ = false := (World.frozen?_of_block (w := wa) hgb).trans ((World.frozen?_of_block (hba.block g (by exact hglt))).trans hf0)
        refine wpAny_take (i := 8) (v := ?_) rfl (by kernel_rfl) (by kernel_rfl) (by kernel_rfl) (fun _ _ _ h => h) (Or.inl ⟨by rfl, ?_⟩) ?_
        rotate_left
        · (intro w; go_simp; try with_reducible rfl)
        try simp only [Act.put, List.setIfInBounds_toArray, List.set_cons_zero, List.set_cons_succ]
        refine wpAny_ready (rs := [9]) (by kernel_rfl) (by simp) ?_
        refine AllReady.cons rfl (fun K hK => ?_) AllReady.nil
        go_simp
        refine hK _ _ ?_
        clear hK K
        try simp only [Act.put, List.setIfInBounds_toArray, List.set_cons_zero, List.set_cons_succ]
        refine wpAny_done (by kernel_rfl) ?_ _
        have HBs : Hid (Blk (wb.setCell ⟨g, 0, none⟩ (.slice VB (acc.length + (putN q).length) CB)) g 43 #[.slice VB (acc.length + (putN q).length) CB]) := by
          have h1 : Blk wb g 43 #[.slice VA acc.length VC] := hgb.trans ((hba.block g (by exact hglt)).trans HB.out)
          exact h1.set_ 0 _
        have hneB : (Value.slice VB (acc.length + (putN q).length) CB).ownBlock ≠ some g := by
          intro hh
          rcases heb.lies with e1 | ⟨z, e1, hz⟩
          · rw [e1] at hh; exact hgne hh
          · rw [e1] at hh; injection hh with hh; have : g < wa.heap.size := Nat.lt_of_lt_of_le hglt (by exact hba.size); omega
        have HOs : Hid ((wb.setCell ⟨g, 0, none⟩ (.slice VB (acc.length + (putN q).length) CB)).ownsRow base 5 1 (.slice VB (acc.length + (putN q).length) CB) (acc ++ putN q).length (bytesC (acc ++ putN q))) := by
          show World.ownsRow _ _ _ _ _ _ _
          rw [List.length_append, bytesC_append]
          exact own_keep hob fun g' hg' => Below.heap_setCell _ _ _ _ (fun e => hneB (by rw [hg', e]))
        have HEs : Hid (WEvo w g v.ownBlock (wb.setCell ⟨g, 0, none⟩ (.slice VB (acc.length + (putN q).length) CB)) (Value.slice VB (acc.length + (putN q).length) CB).ownBlock) :=
          HE.out.drew.trans (((WEvo.of_below (w := wr.drew) (by exact hba)).trans (WEvo.of_evo heb)).set_ 0 _)
        clear hgb t1 t2 s1 hob heb hba hoa hneB hc0 hf0
        go_wp2_with fail
        first
          | exact ⟨⟨k + 1, _, by omega, by go_num, HBs, by rw [hst.out]; exact HOs, HEs⟩, by simp [intOf]; omega⟩
          | (go_roundw
             case rel => exact ⟨k + 1, _, by omega, by go_num, HBs, by rw [hst.out]; exact HOs, HEs⟩
             case measure => simp [intOf]; omega)
    · have hkn : k = n := by omega
      have HF : Hid (xs.take k = xs) := by show _ = _; exact List.take_of_length_le (by rw [HN.out]; omega)
      have HO1 : Hid (wr.ownsRow base 5 1 vr (pre ++ numsL xs).length (bytesC (pre ++ numsL xs))) := by
        have := HO.out
        rw [HF.out] at this
        exact this
      clear hkn HO
      go_wp2_with fail
      refine bodyPost_end (results_none rfl _ _ _) rfl ?_
      exact ⟨rfl, vr, HB.out, HO1.out, HE.out⟩
end Go.Proofs.Ytoolpppbbphbjaa
