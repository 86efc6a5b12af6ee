/- A change's bytes; the document's words with which it writes them, in the words of a growing row. -/
import Derived.Test.YtclgfcjcpbiadaaGreatDoorChg2
import Derived.Test.YtclgfcjcpbiadaaGreatDoorM14
set_option linter.unusedVariables false
set_option linter.unusedSimpArgs false
namespace Go.Proofs.YtclgfcjcpbiadaaGreatDoor
open Go.ChangeShapes Go.WideShapes Go.ChangeAt Go.RowKit

def pairB (r : Rf) : List UInt8 := numsL [r.1, r.2]
def inI (b : Bool) : Int := if b then 1 else 0
def opB (o : OpD) : List UInt8 :=
  numsL [o.k, o.on, o.oa, (o.key.size : Int)] ++ o.key.data.toList ++ numsL [o.en, o.ea, inI o.ins, o.vk] ++ putS o.vn ++ numsL [(o.vt.size : Int)] ++ o.vt.data.toList ++ numsL [(o.l.length : Int)] ++ o.l.flatMap pairB
def encL (a s st : Int) (deps : List Rf) (ops : List OpD) : List UInt8 :=
  numsL [a, s, st, (deps.length : Int)] ++ deps.flatMap pairB ++ numsL [(ops.length : Int)] ++ ops.flatMap opB
def NatI (x : Int) : Prop := 0 ≤ x ∧ x ≤ 9223372036854775807
/-- an op that can be written -/
structure OpG (o : OpD) : Prop where
  k : NatI o.k
  on : NatI o.on
  oa : NatI o.oa
  key : o.key.size ≤ 20
  en : NatI o.en
  ea : NatI o.ea
  vk : NatI o.vk
  vn : (Lit.int .i64 o.vn).wf = true
  vt : o.vt.size ≤ 60
  ll : o.l.length ≤ 12
  l : ∀ r ∈ o.l, NatI r.1 ∧ NatI r.2
structure EncG (a s st : Int) (deps : List Rf) (ops : List OpD) : Prop where
  a : NatI a
  s : NatI s
  st : NatI st
  dl : deps.length ≤ 12
  d : ∀ r ∈ deps, NatI r.1 ∧ NatI r.2
  ol : ops.length ≤ 40
  o : ∀ o ∈ ops, OpG o
theorem numsL_le {l : List Int} {n : Nat} (h : l.length = n) : (numsL l).length ≤ 10 * n := by rw [← h]; exact numsL_len l
theorem pairs_len : ∀ (l : List Rf), (l.flatMap pairB).length ≤ 20 * l.length
  | [] => by simp
  | r :: l => by
    have := pairs_len l
    have h := numsL_le (l := [r.1, r.2]) (n := 2) rfl
    simp only [List.flatMap_cons, List.length_append, List.length_cons, pairB] at this ⊢
    omega
theorem opB_len {o : OpD} (h : OpG o) : (opB o).length ≤ 500 := by
  have h1 := numsL_le (l := [o.k, o.on, o.oa, (o.key.size : Int)]) (n := 4) rfl
  have h2 := numsL_le (l := [o.en, o.ea, inI o.ins, o.vk]) (n := 4) rfl
  have h3 := numsL_le (l := [(o.vt.size : Int)]) (n := 1) rfl
  have h4 := numsL_le (l := [(o.l.length : Int)]) (n := 1) rfl
  have h5 := pairs_len o.l
  have h6 := h.ll
  have h7 : o.key.data.toList.length ≤ 20 := by have := h.key; rw [ByteArray.size] at this; simpa using this
  have h8 : o.vt.data.toList.length ≤ 60 := by have := h.vt; rw [ByteArray.size] at this; simpa using this
  have h9 : (putS o.vn).length ≤ 10 := (putN_length (zz o.vn)).2
  simp only [opB, List.length_append]
  omega
theorem ops_len : ∀ (l : List OpD), (∀ o ∈ l, OpG o) → (l.flatMap opB).length ≤ 500 * l.length
  | [], _ => by simp
  | o :: l, h => by
    have := ops_len l fun o ho => h o (by simp [ho])
    have h1 := opB_len (h o (by simp))
    simp only [List.flatMap_cons, List.length_append, List.length_cons] at this ⊢
    omega

/-- a growing row of bytes of the call's own -/
def Acc (W0 w : World) (v : Value) (acc : List UInt8) : Prop := w.ownsRow W0.heap.size 5 1 v acc.length (bytesC acc) ∧ Below W0.heap.size W0 w
/-- all blocks that hold no bytes lie on as they did -/
def Kept (w w' : World) : Prop := ∀ g t cs, Blk w g t cs → 5 ≠ t → Blk w' g t cs
theorem Kept.trans {a b c : World} (h : Kept a b) (k : Kept b c) : Kept a c := fun g t cs hb hn => k g t cs (h g t cs hb hn) hn
theorem Kept.of_evo {w w' : World} {base n : Nat} {v : Value} {xs : List Value} {o' : Option Nat} (h : w.ownsRow base 5 1 v n xs) (he : Evo w v.ownBlock w' o') : Kept w w' :=
  fun g _ _ hb hn => hb.keep (he.block g hb.lt (own_blk_ne h hb hn))
theorem Acc.nil (W0 : World) {w : World} (h : Below W0.heap.size W0 w) : Acc W0 w (.slice none 0 0) [] := ⟨own_nil _ _ _ _, h⟩
theorem Acc.alloc {W0 w : World} {v : Value} {acc : List UInt8} (h : Acc W0 w v acc) (o : Obj) : Acc W0 (w.alloc o) v acc := ⟨h.1.alloc o, h.2.alloc h.2.size o⟩
theorem Acc.drew {W0 w : World} {v : Value} {acc : List UInt8} (h : Acc W0 w v acc) : Acc W0 w.drew v acc := ⟨h.1, h.2.drew⟩
theorem Acc.below {W0 w w' : World} {v : Value} {acc : List UInt8} (h : Acc W0 w v acc) (hb : Below w.heap.size w w') : Acc W0 w' v acc := ⟨own_below h.1 hb, h.2.trans (hb.mono h.2.size)⟩
theorem Acc.evo {W0 w w' : World} {v v' : Value} {acc acc' : List UInt8} (h : Acc W0 w v acc) (ho : w'.ownsRow W0.heap.size 5 1 v' acc'.length (bytesC acc')) (he : Evo w v.ownBlock w' v'.ownBlock) : Acc W0 w' v' acc' ∧ Kept w w' :=
  ⟨⟨ho, h.2.trans (he.below h.2.size fun _ hg => (own_lt h.1 hg).1)⟩, Kept.of_evo h.1 he⟩
theorem nums_step {W0 wr : World} {v : Value} {acc : List UInt8} (h : Acc W0 wr v acc) (xs : List Int) (n : Nat) (lits : Array Value) (hl : lits.toList = intsC xs) (hn : xs.length = n) (hn1 : n ≤ 100) (hp : acc.length ≤ 100000) (hx : ∀ x ∈ xs, NatI x) (H : Nat) (hH : wr.heap.size = H) :
    Calls Tryz.prog 71 #[v, .slice (some ⟨H, 0, none⟩) n n] (wr.alloc (.cells lits 3)) fun e w' => ∃ v', e = .returned v' ∧ Acc W0 w' v' (acc ++ numsL xs) ∧ Kept wr w' := by
  subst hH
  have h' := h.alloc (.cells lits 3)
  refine (refNums_any xs acc v W0.heap.size (fun k => k = wr.heap.size) (some ⟨wr.heap.size, 0, none⟩) n n (wr.alloc (.cells lits 3)) h'.1 h'.2.size
    (reads_newC wr _ (intsC xs) n (by rw [intsC_length]; exact hn) lits hl _ rfl) (by rintro k rfl; exact ⟨by simp, fun e => by have := (own_lt h.1 e).2; omega⟩) hn hn1 (by omega) hx).mono ?_
  rintro e w' ⟨v', rfl, ho, he⟩
  obtain ⟨h1, h2⟩ := h'.evo ho he
  exact ⟨v', rfl, h1, fun g t cs hb hne => h2 g t cs (hb.alloc _) hne⟩
theorem text_step {W0 w : World} {b : Option Addr} {n c : Nat} {acc : List UInt8} (ty : TypeId) (h : Acc W0 w (.slice b n c) acc) (hn : acc.length = n) (S : ByteArray) (hp : acc.length ≤ 100000) (hS : S.size ≤ 1000) :
    ∃ v' w', (Builtin.append_ #[71, 9] ty #[.slice b n c, .string S]).run Tryz.prog w = .ok v' w' ∧ Acc W0 w' v' (acc ++ S.data.toList) ∧ Kept w w' := by
  obtain ⟨i0, hi, hz0, hz1, hz2⟩ := info_parts infoByte
  subst hn
  obtain ⟨v', w', h1, h2, h3, h4⟩ := run_append_str (P := Tryz.prog) w W0.heap.size 71 9 ty 5 i0 (.int .u8 0) 1 Tryz.underlying71 Tryz.underlying9 hi hz0 hz1 hz2 rfl (.slice b acc.length c) acc.length (bytesC acc) h.1 S (by simp only [maxLen]; omega) (by omega) h.2.size
  have ho : w'.ownsRow W0.heap.size 5 1 v' (acc ++ S.data.toList).length (bytesC (acc ++ S.data.toList)) := by
    rw [List.length_append, bytesC_append, show S.data.toList.length = S.size from by rw [ByteArray.size, Array.length_toList]]
    exact h2
  obtain ⟨k1, k2⟩ := h.evo ho (Evo.of_append h3 h4)
  exact ⟨v', w', h1, k1, k2⟩
theorem bytes_step {W0 w : World} {v : Value} {acc : List UInt8} (ty : TypeId) (h : Acc W0 w v acc) (D : Nat → Prop) (A : Option Addr) (m c2 : Nat) (news : List UInt8) (hr : Reads D w 1 A m (bytesC news)) (hm : news.length = m) (hp : acc.length ≤ 100000) (hm1 : m ≤ 1000) :
    ∃ v' w', (Builtin.append_ #[71, 71] ty #[v, .slice A m c2]).run Tryz.prog w = .ok v' w' ∧ Acc W0 w' v' (acc ++ news) ∧ Kept w w' := by
  obtain ⟨i0, hi, hz0, hz1, hz2⟩ := info_parts infoByte
  subst hm
  obtain ⟨v', w', h1, h2, h3, h4⟩ := run_append_any (P := Tryz.prog) w W0.heap.size 71 ty 5 i0 (.int .u8 0) 1 1 Tryz.underlying71 hi hz0 hz1 hz2 rfl (by omega) v acc.length (bytesC acc) h.1 D A news.length c2 (bytesC news) hr (bytesC_one _) (by simp only [maxLen]; omega) (by omega) h.2.size
  have ho : w'.ownsRow W0.heap.size 5 1 v' (acc ++ news).length (bytesC (acc ++ news)) := by
    rw [List.length_append, bytesC_append]
    exact h2
  obtain ⟨k1, k2⟩ := h.evo ho (Evo.of_append h3 h4)
  exact ⟨v', w', h1, k1, k2⟩
theorem Acc.form {W0 w : World} {v : Value} {acc : List UInt8} (h : Acc W0 w v acc) : ∃ A c, v = .slice A acc.length c := by
  obtain ⟨A, c, hv, _⟩ := Reads.of_own h.1
  exact ⟨A, c, hv⟩
theorem Kept.of_below {w w' : World} (hb : Below w.heap.size w w') : Kept w w' := fun g _ _ h _ => h.keep (hb.block g h.lt)
end Go.Proofs.YtclgfcjcpbiadaaGreatDoor
