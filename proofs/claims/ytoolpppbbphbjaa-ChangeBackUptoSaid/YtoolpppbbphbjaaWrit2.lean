/- Contracts: the program's writer: a text. -/
import Derived.Test.YtoolpppbbphbjaaWrit
namespace Go.Proofs.Ytoolpppbbphbjaa
open Go.ChangeShapes Go.WideShapes Go.ChangeAt Go.RowKit

theorem reads_newC (wr : World) (t : TypeId) (l : List Value) (n : Nat) (hn : l.length = n) (cs : Array Value) (hcs : cs.toList = l) (H : Nat) (hH : wr.heap.size = H) : Reads (fun k => k = H) (wr.alloc (.cells cs t)) 1 (some ⟨H, 0, none⟩) n l := by
  subst hH hn
  refine ⟨by simp, fun _ => ⟨_, rfl, rfl, fun j u hu => ?_⟩⟩
  have e : ((⟨wr.heap.size, 0, none⟩ : Addr).add j) = ⟨wr.heap.size, j, none⟩ := by unfold Addr.add; split <;> simp_all
  have hb : (wr.alloc (.cells cs t)).heap[wr.heap.size]? = some (.cells cs t) := heap_alloc_new wr _
  rw [e, cell_of_row _ _ j _ _ _ hb, ← hu, ← hcs]
  simp
theorem run_app_ws (w : World) (base : Nat) (ty : TypeId) (b : Option Addr) (n c : Nat) (xs : List Value) (hown : w.ownsRow base 5 1 (.slice b n c) n xs) (S : ByteArray) (hlen : n + S.size ≤ 10000000) (hbase : base ≤ w.heap.size) :
    ∃ v' w', (Builtin.append_ #[43, 9] ty #[.slice b n c, .string S]).run Try.prog w = .ok v' w' ∧ (w'.ownsRow base 5 1 v' (n + S.size) (xs ++ bytesC S.data.toList) ∧ Evo w (Value.slice b n c).ownBlock w' v'.ownBlock) := by
  obtain ⟨i0, hi, hz0, hz1, hz2⟩ := info_parts infoByte
  have hu : Try.prog.underlying 43 = some (.slice 5) := Try.underlying43
  obtain ⟨v', w', h1, h2, h3, h4⟩ := run_append_str (P := Try.prog) w base 43 9 ty 5 i0 (.int .u8 0) 1 hu Try.underlying9 hi hz0 hz1 hz2 rfl (.slice b n c) n xs hown S (by simp only [maxLen]; omega) (by omega) hbase
  exact ⟨v', w', h1, h2, Evo.of_append h3 h4⟩
set_option maxHeartbeats 4000000 in
set_option maxRecDepth 20000 in
theorem wText_any (S : ByteArray) (pre : List UInt8) (v : Value) (base g : Nat) (w : World)
    (hb : Blk w g 43 #[v]) (hown : w.ownsRow base 5 1 v pre.length (bytesC pre)) (hbase : base ≤ w.heap.size) (hS : S.size ≤ 100000) (hp : pre.length ≤ 900000) :
    Calls Try.prog 9 #[.pointer (some ⟨g, 0, none⟩), .string S] w fun e w' => e = .returned (.tuple #[]) ∧ ∃ v', Blk w' g 43 #[v'] ∧ w'.ownsRow base 5 1 v' (pre ++ numsL [(S.size : Int)] ++ S.data.toList).length (bytesC (pre ++ numsL [(S.size : Int)] ++ S.data.toList)) ∧ WEvo w g v.ownBlock w' v'.ownBlock := by
  have hglt := hb.lt
  have hol : ∀ k, v.ownBlock = some k → base ≤ k ∧ k < w.heap.size := fun k hk => own_lt hown hk
  have WN := wNums_any [(S.size : Int)] pre v base g (fun k => k = w.heap.size) (some ⟨w.heap.size, 0, none⟩) 1 1 (w.alloc (.cells #[.int .i64 (S.size : Int)] 3))
    (hb.alloc _) (hown.alloc _) (by simp; omega) (reads_newC w _ _ 1 rfl _ rfl _ rfl) (by rintro k rfl; exact ⟨by simp, fun e => by have := (hol _ e).2; omega, by omega⟩) rfl (by omega) (by omega) (by simp; omega)
  have HB := Lib.hid hb
  have hnl := numsL_len [(S.size : Int)]
  have hpl : (pre ++ numsL [(S.size : Int)]).length ≤ 900010 := by simp only [List.length_append, List.length_cons, List.length_nil] at hnl ⊢; omega
  have hdata : (pre ++ numsL [(S.size : Int)] ++ S.data.toList).length = (pre ++ numsL [(S.size : Int)]).length + S.size := by
    rw [List.length_append, show S.data.toList.length = S.size from by rw [ByteArray.size, Array.length_toList]]
  have HD := Lib.hid hdata
  generalize pre ++ numsL [(S.size : Int)] = acc at *
  clear hb hown hol hnl hdata
  go_enter Try.func9, Try.ntmps9
  go_wp2_with fail
  go_at_call 8
  refine WN.mono ?_
  rintro e w1 ⟨rfl, v1, hb1, ho1, he1⟩
  obtain ⟨VA, VC, hv, _, _, _⟩ := Reads.of_own ho1
  subst hv
  have hgne := blk_own_ne hb1 ho1 (by decide)
  have c1 : w1.cell? ⟨g, 0, none⟩ = some (.slice VA acc.length VC) := hb1.cell 0
  have hs1 : base ≤ w1.heap.size := by have := he1.1.size; simp at this; omega
  clear WN
  go_wp2_with (at_builtin; refine wpList_app rfl (.tmp 12) (.tmp 13) 43 9 rfl (.slice VA acc.length VC) (.string S) rfl rfl _ (run_app_ws w1 base _ VA acc.length VC (bytesC acc) ho1 S (by omega) hs1) ?_)
  intro vb wb hob heb
  obtain ⟨VB, CB, hvb, _, _, _⟩ := Reads.of_own hob
  subst hvb
  have hgb := heb.block g hb1.lt hgne
  have hbb : Blk wb g 43 #[.slice VA acc.length VC] := hgb.trans hb1
  have c2 : wb.cell? ⟨g, 0, none⟩ = some (.slice VA acc.length VC) := hbb.cell 0
  have f2 := hbb.frozen 0
  go_wp2_with fail
  refine bodyPost_end (results_none rfl _ _ _) rfl ?_
  have hneB : (Value.slice VB (acc.length + S.size) CB).ownBlock ≠ some g := by
    intro hh
    rcases heb.lies with e1 | ⟨z, e1, hz⟩
    · rw [e1] at hh; exact hgne hh
    · rw [e1] at hh; injection hh with hh; have := hb1.lt; omega
  refine ⟨rfl, _, hbb.set_ 0 _, ?_, ((WEvo.alloc (WEvo.refl w g v.ownBlock) _).trans (he1.trans (WEvo.of_evo heb))).set_ 0 _⟩
  rw [HD.out, bytesC_append]
  exact own_keep hob fun g' hg' => Below.heap_setCell _ _ _ _ (fun e => hneB (by rw [hg', e]))
end Go.Proofs.Ytoolpppbbphbjaa
