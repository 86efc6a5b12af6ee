/- The program's writer, in the words of a growing row. -/
import Derived.Test.YtoolpppbbphbjaaRefEnc
namespace Go.Proofs.Ytoolpppbbphbjaa
open Go.ChangeShapes Go.WideShapes Go.ChangeAt Go.RowKit

/-- a writer's cell, and its growing row -/
def WAcc (W0 w : World) (g : Nat) (acc : List UInt8) : Prop := ∃ v, Blk w g 43 #[v] ∧ w.ownsRow W0.heap.size 5 1 v acc.length (bytesC acc) ∧ Below W0.heap.size W0 w
/-- all blocks but bytes and writers lie on as they did -/
def WKept (w w' : World) : Prop := ∀ g t cs, Blk w g t cs → 5 ≠ t → 43 ≠ t → Blk w' g t cs
theorem WKept.trans {a b c : World} (h : WKept a b) (k : WKept b c) : WKept a c := fun g t cs hb hn hm => k g t cs (h g t cs hb hn hm) hn hm
theorem WKept.of_below {w w' : World} (hb : Below w.heap.size w w') : WKept w w' := fun g _ _ h _ _ => h.keep (hb.block g h.lt)
theorem WKept.alloc (w : World) (o : Obj) : WKept w (w.alloc o) := fun _ _ _ h _ _ => h.alloc o
theorem WAcc.alloc {W0 w : World} {g : Nat} {acc : List UInt8} (h : WAcc W0 w g acc) (o : Obj) : WAcc W0 (w.alloc o) g acc := by
  obtain ⟨v, h1, h2, h3⟩ := h
  exact ⟨v, h1.alloc o, h2.alloc o, h3.alloc h3.size o⟩
theorem WAcc.evo {W0 w w' : World} {g : Nat} {v v' : Value} {acc acc' : List UInt8} (hg : W0.heap.size ≤ g) (hb : Blk w g 43 #[v]) (ho : w.ownsRow W0.heap.size 5 1 v acc.length (bytesC acc)) (hw : Below W0.heap.size W0 w)
    (hb' : Blk w' g 43 #[v']) (ho' : w'.ownsRow W0.heap.size 5 1 v' acc'.length (bytesC acc')) (he : WEvo w g v.ownBlock w' v'.ownBlock) : WAcc W0 w' g acc' ∧ WKept w w' := by
  refine ⟨⟨v', hb', ho', hw.trans (he.1.below hw.size ?_)⟩, fun g' t cs hB h1 h2 => hB.keep (he.block hB.lt ?_ (own_blk_ne ho hB h1))⟩
  · rintro k (rfl | hk)
    · exact hg
    · exact (own_lt ho hk).1
  · exact fun e => hB.ne_ hb (fun e' => h2 e'.symm) e
theorem wnums_step {W0 wr : World} {g : Nat} {acc : List UInt8} (h : WAcc W0 wr g acc) (hg : W0.heap.size ≤ g) (xs : List Int) (n : Nat) (lits : Array Value) (hl : lits.toList = intsC xs) (hn : xs.length = n) (hn1 : n ≤ 100) (hp : acc.length ≤ 100000) (hx : ∀ x ∈ xs, NatI x) (H : Nat) (hH : wr.heap.size = H) :
    Calls Try.prog 8 #[.pointer (some ⟨g, 0, none⟩), .slice (some ⟨H, 0, none⟩) n n] (wr.alloc (.cells lits 3)) fun e w' => e = .returned (.tuple #[]) ∧ WAcc W0 w' g (acc ++ numsL xs) ∧ WKept wr w' := by
  subst hH
  obtain ⟨v, hb, ho, hw⟩ := h
  have hol : ∀ k, v.ownBlock = some k → W0.heap.size ≤ k ∧ k < wr.heap.size := fun k hk => own_lt ho hk
  have hgl := hb.lt
  refine (wNums_any xs acc v W0.heap.size g (fun k => k = wr.heap.size) (some ⟨wr.heap.size, 0, none⟩) n n (wr.alloc (.cells lits 3)) (hb.alloc _) (ho.alloc _) (hw.alloc hw.size _).size
    (reads_newC wr _ (intsC xs) n (by rw [intsC_length]; exact hn) lits hl _ rfl) (by rintro k rfl; exact ⟨by simp, fun e => by have := (hol _ e).2; omega, by omega⟩) hn hn1 (by omega) hx).mono ?_
  rintro e w' ⟨rfl, v', hb', ho', he⟩
  obtain ⟨h1, h2⟩ := WAcc.evo hg (hb.alloc _) (ho.alloc _) (hw.alloc hw.size _) hb' ho' he
  exact ⟨rfl, h1, fun g' t cs hB n1 n2 => h2 g' t cs (hB.alloc _) n1 n2⟩
theorem wtext_step {W0 wr : World} {g : Nat} {acc : List UInt8} (h : WAcc W0 wr g acc) (hg : W0.heap.size ≤ g) (S : ByteArray) (hp : acc.length ≤ 100000) (hS : S.size ≤ 1000) :
    Calls Try.prog 9 #[.pointer (some ⟨g, 0, none⟩), .string S] wr fun e w' => e = .returned (.tuple #[]) ∧ WAcc W0 w' g (acc ++ numsL [(S.size : Int)] ++ S.data.toList) ∧ WKept wr w' := by
  obtain ⟨v, hb, ho, hw⟩ := h
  refine (wText_any S acc v W0.heap.size g wr hb ho hw.size (by omega) (by omega)).mono ?_
  rintro e w' ⟨rfl, v', hb', ho', he⟩
  obtain ⟨h1, h2⟩ := WAcc.evo hg hb ho hw hb' ho' he
  exact ⟨rfl, h1, h2⟩
theorem wput_fin {W0 wr wa wb : World} {g : Nat} {VA VB : Option Addr} {VC CB : Nat} {acc bts : List UInt8} (hg : W0.heap.size ≤ g) (hb : Blk wr g 43 #[.slice VA acc.length VC])
    (ho : wr.ownsRow W0.heap.size 5 1 (.slice VA acc.length VC) acc.length (bytesC acc)) (hw : Below W0.heap.size W0 wr) (hba : Below wr.heap.size wr wa)
    (hob : wb.ownsRow W0.heap.size 5 1 (.slice VB (acc.length + bts.length) CB) (acc.length + bts.length) (bytesC acc ++ bytesC bts)) (heb : Evo wa (Value.slice VA acc.length VC).ownBlock wb (Value.slice VB (acc.length + bts.length) CB).ownBlock) :
    WAcc W0 (wb.setCell ⟨g, 0, none⟩ (.slice VB (acc.length + bts.length) CB)) g (acc ++ bts) ∧ WKept wr (wb.setCell ⟨g, 0, none⟩ (.slice VB (acc.length + bts.length) CB)) := by
  have hgne : (Value.slice VA acc.length VC).ownBlock ≠ some g := blk_own_ne hb ho (by decide)
  have hga : g < wa.heap.size := Nat.lt_of_lt_of_le hb.lt hba.size
  have hgb := heb.block g hga hgne
  have hneB : (Value.slice VB (acc.length + bts.length) CB).ownBlock ≠ some g := by
    intro hh
    rcases heb.lies with e1 | ⟨z, e1, hz⟩
    · rw [e1] at hh; exact hgne hh
    · rw [e1] at hh; injection hh with hh; omega
  have HBs : Blk (wb.setCell ⟨g, 0, none⟩ (.slice VB (acc.length + bts.length) CB)) g 43 #[.slice VB (acc.length + bts.length) CB] := by
    have h1 : Blk wb g 43 #[.slice VA acc.length VC] := hgb.trans ((hba.block g hb.lt).trans hb)
    exact h1.set_ 0 _
  have HOs : (wb.setCell ⟨g, 0, none⟩ (.slice VB (acc.length + bts.length) CB)).ownsRow W0.heap.size 5 1 (.slice VB (acc.length + bts.length) CB) (acc ++ bts).length (bytesC (acc ++ bts)) := by
    rw [List.length_append, bytesC_append]
    exact own_keep hob fun g' hg' => Below.heap_setCell _ _ _ _ (fun e => hneB (by rw [hg', e]))
  exact WAcc.evo hg hb ho hw HBs HOs (((WEvo.of_below hba).trans (WEvo.of_evo heb)).set_ 0 _)
theorem take_pairs {l : List Rf} {j : Nat} {r1 r2 : Int} (h : l[j]? = some (r1, r2)) : (l.take (j + 1)).flatMap pairB = (l.take j).flatMap pairB ++ numsL [r1, r2] := by
  rw [take_pair h]; rfl
end Go.Proofs.Ytoolpppbbphbjaa
