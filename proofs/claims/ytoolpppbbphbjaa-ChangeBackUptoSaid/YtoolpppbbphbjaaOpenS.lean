/- An argument that is a slice, opened to a plain list. -/
import Derived.Test.YtoolpppbbphbjaaOpenB
import Derived.Test.YtoolpppbbphbjaaMem
namespace Go.Proofs.Ytoolpppbbphbjaa
open Go.ChangeShapes Go.WideShapes Go.ChangeAt Go.RowKit Go.Deep

theorem bulk_one {H : Type} (d : DataW H) : 1 ≤ Rows.uptoBulk d := by
  cases d with
  | lit l => cases l <;> simp [Rows.uptoBulk]
  | nil => simp [Rows.uptoBulk]
  | ptr d => simp [Rows.uptoBulk]
  | slice elems spare => simp [Rows.uptoBulk]
  | agg parts => simp [Rows.uptoBulk]
  | iface t d => simp [Rows.uptoBulk]
  | map entries => simp [Rows.uptoBulk]
  | held h => simp [Rows.uptoBulk]
theorem bulk_len {H : Type} (l : List (DataW H)) : l.length ≤ Rows.uptoBulkAll l := by
  induction l with
  | nil => simp [Rows.uptoBulkAll]
  | cons x r ih => have := bulk_one x; simp only [Rows.uptoBulkAll, List.length_cons]; omega
theorem bulk_slice {H : Type} (elems spare : List (DataW H)) : elems.length ≤ Rows.uptoBulk (.slice elems spare) := by
  have h1 := bulk_len elems
  simp only [Rows.uptoBulk]; omega

theorem cell_lt {w : World} {p : Addr} {u : Value} (h : w.cell? p = some u) : p.block < w.heap.size := by
  unfold World.cell? at h
  cases hh : w.heap[p.block]? with
  | none => rw [hh] at h; simp at h
  | some o => exact (Array.getElem?_eq_some_iff.1 hh).1
theorem flat_at {α : Type} (cells : α → List Value) (size : Nat) (h : ∀ a, (cells a).length = size) : ∀ (l : List α) (i r : Nat) (a : α), l[i]? = some a → r < size → (l.flatMap cells)[i * size + r]? = (cells a)[r]?
  | [], i, r, a, hi, _ => by simp at hi
  | x :: l, 0, r, a, hi, hr => by
    simp at hi; subst hi
    rw [List.flatMap_cons, List.getElem?_append_left (by rw [h]; omega)]
    simp
  | x :: l, i + 1, r, a, hi, hr => by
    have e : (i + 1) * size + r = size + (i * size + r) := by rw [Nat.add_mul]; omega
    rw [List.flatMap_cons, List.getElem?_append_right (by rw [h, e]; omega), h, e, Nat.add_sub_cancel_left]
    exact flat_at cells size h l i r a (by simpa using hi) hr
theorem flat_len {α : Type} (cells : α → List Value) (size : Nat) (h : ∀ a, (cells a).length = size) : ∀ (l : List α), (l.flatMap cells).length = l.length * size
  | [] => by simp
  | x :: l => by rw [List.flatMap_cons, List.length_append, h, flat_len cells size h l, List.length_cons, Nat.add_mul]; omega

section
variable {H : Type} {enc : TypeId × Value → H} {P : Program} {w : World} {base : Nat} {spare : Nat → Bool} {held : Bool}

/-- a slice whose elements are each so many cells -/
theorem open_rows {α : Type} [Inhabited α] (cells : α → List Value) (size : Nat) (hsz : ∀ a, (cells a).length = size) (hs : 0 < size) (ok : α → DataW H → Prop) {b0 : Nat} {t e : TypeId} {v : Value} {d : DataW H} {ps : List MemPlace}
    (ht : P.underlying t = some (.slice e)) (hc : P.cellsOf e = size)
    (hel : ∀ fuel cs x, DataW.trod enc P w base spare held fuel e cs = some x → ∃ a, cs = cells a ∧ ok a x.1)
    (hval : Value.okWide P w .any b0 t v) (hd : DataW.Trod enc P w base spare held t v d ps) :
    ∃ A c, ∃ l : List α, v = .slice A l.length c ∧ l.length ≤ c ∧ c ≤ maxLen ∧ Reads (· < w.heap.size) w size A l.length (l.flatMap cells) ∧ l.length ≤ Rows.uptoBulk d ∧
      ((l = [] ∧ d = .nil) ∨ ∃ es sp, d = .slice es sp ∧ es.length = l.length ∧ ∀ (i : Nat) (a : α) (x : DataW H), l[i]? = some a → es[i]? = some x → ok a x) := by
  obtain ⟨A, n, c, rfl⟩ := okWide_slice ht hval
  obtain ⟨fuel, hf⟩ := hd
  rcases open_slice ht hf with ⟨h1, h2⟩ | ⟨a, len, cap, m, nn, Dd, Pl, h1, hb, hl, hm, hmm, hx, hi⟩
  · simp only [Value.cells, List.cons.injEq, and_true, Value.slice.injEq] at h1
    obtain ⟨rfl, rfl, rfl⟩ := h1
    simp only [Prod.mk.injEq] at h2
    obtain ⟨rfl, rfl⟩ := h2
    exact ⟨none, 0, [], rfl, by simp, by simp, Reads.none_, by simp, .inl ⟨rfl, rfl⟩⟩
  · simp only [Value.cells, List.cons.injEq, and_true, Value.slice.injEq] at h1
    obtain ⟨rfl, rfl, rfl⟩ := h1
    simp only [Prod.mk.injEq] at hx
    obtain ⟨rfl, rfl⟩ := hx
    have hlm : n ≤ m := by rw [hmm]; split <;> omega
    obtain ⟨f, hfx⟩ := choose_lt (α := α) (p := fun i x => w.cells? base (a.add (i * P.cellsOf e)) (P.cellsOf e) = some (cells x) ∧ ok x (Dd i)) (n := n) (fun i hin => by
      obtain ⟨cs', h1, h2⟩ := hi i (by omega)
      obtain ⟨x, rfl, hx⟩ := hel _ _ _ h2
      exact ⟨x, h1, hx⟩)
    have hget : ∀ i x, ((List.range n).map f)[i]? = some x → i < n ∧ x = f i := by
      intro i x h
      rw [List.getElem?_map] at h
      by_cases hin : i < n
      · rw [List.getElem?_range hin] at h; simp at h; exact ⟨hin, h.symm⟩
      · rw [List.getElem?_eq_none (by simpa using hin)] at h; simp at h
    refine ⟨some a, c, (List.range n).map f, by simp, by simpa using hl, hm, ⟨?_, fun h0 => ⟨a, rfl, ?_, ?_⟩⟩, ?_, .inr ⟨_, _, rfl, by simp, ?_⟩⟩
    · rw [flat_len cells size hsz]
    · simp only [List.length_map, List.length_range] at h0
      have h1 := (hfx 0 h0).1
      obtain ⟨_, _, h3⟩ := World.cells?_some h1
      have h4 := h3 0 (by omega)
      have h5 : 0 < (cells (f 0)).length := by rw [hsz]; omega
      rw [List.getElem?_eq_getElem h5] at h4
      have := cell_lt h4
      rw [block_of_add, block_of_add] at this
      exact this
    · intro j u hj
      have hjl : j < n * size := by
        have := (List.getElem?_eq_some_iff.1 hj).1
        rw [flat_len cells size hsz] at this
        simpa using this
      have hdm : j / size * size + j % size = j := by rw [Nat.mul_comm]; exact Nat.div_add_mod j size
      have hq : j / size < n := Nat.div_lt_of_lt_mul (by rw [Nat.mul_comm]; exact hjl)
      have hr : j % size < size := Nat.mod_lt _ hs
      have h1 := flat_at cells size hsz ((List.range n).map f) (j / size) (j % size) (f (j / size)) (by rw [List.getElem?_map, List.getElem?_range hq]; rfl) hr
      rw [hdm, hj] at h1
      obtain ⟨_, _, h3⟩ := World.cells?_some (hfx _ hq).1
      have h4 := h3 (j % size) (by omega)
      rw [← h1, hc, add_of_add, hdm] at h4
      exact h4
    · have := bulk_slice ((List.range n).map Dd) ((List.range (m - n)).map fun j => Dd (n + j))
      simpa using this
    · intro i x y h1 h2
      obtain ⟨hin, rfl⟩ := hget i x h1
      rw [List.getElem?_map, List.getElem?_range hin] at h2
      simp at h2
      subst h2
      exact (hfx i hin).2

theorem flat_map1 {α : Type} (val : α → Value) (l : List α) : l.flatMap (fun a => [val a]) = l.map val := by
  induction l with
  | nil => rfl
  | cons x l ih => simp [ih]

theorem open_intseq {b0 : Nat} {t e : TypeId} {k : IntKind} {v : Value} {d : DataW H} {ps : List MemPlace} (ht : P.underlying t = some (.slice e)) (he : P.underlying e = some (.int k)) (hc : P.cellsOf e = 1)
    (hval : Value.okWide P w .any b0 t v) (hd : DataW.Trod enc P w base spare held t v d ps) :
    ∃ A c, ∃ l : List Int, v = .slice A l.length c ∧ l.length ≤ c ∧ c ≤ maxLen ∧ Reads (· < w.heap.size) w 1 A l.length (l.map (.int k)) ∧ l.length ≤ Rows.uptoBulk d ∧ ∀ x ∈ l, (Lit.int k x).wf = true := by
  obtain ⟨A, c, l, h1, h2, h3, h4, h5, h6⟩ := open_rows (α := Int) (fun x => [.int k x]) 1 (fun _ => rfl) (by omega) (fun a _ => (Lit.int k a).wf = true) ht hc (fun fuel cs x h => by
    obtain ⟨n, rfl, rfl, hw⟩ := DataW.trod_int he h
    exact ⟨n, rfl, hw⟩) hval hd
  refine ⟨A, c, l, h1, h2, h3, by rw [← flat_map1]; exact h4, h5, fun x hx => ?_⟩
  rcases h6 with ⟨rfl, _⟩ | ⟨es, sp, _, hl, hok⟩
  · simp at hx
  · obtain ⟨i, hi, rfl⟩ := List.mem_iff_getElem.1 hx
    exact hok i _ es[i] (List.getElem?_eq_getElem hi) (List.getElem?_eq_getElem (by omega))
theorem open_boolseq {b0 : Nat} {t e : TypeId} {v : Value} {d : DataW H} {ps : List MemPlace} (ht : P.underlying t = some (.slice e)) (he : P.underlying e = some .bool) (hc : P.cellsOf e = 1)
    (hval : Value.okWide P w .any b0 t v) (hd : DataW.Trod enc P w base spare held t v d ps) :
    ∃ A c, ∃ l : List Bool, v = .slice A l.length c ∧ l.length ≤ c ∧ c ≤ maxLen ∧ Reads (· < w.heap.size) w 1 A l.length (l.map (.bool ·)) ∧ l.length ≤ Rows.uptoBulk d := by
  obtain ⟨A, c, l, h1, h2, h3, h4, h5, h6⟩ := open_rows (α := Bool) (fun x => [.bool x]) 1 (fun _ => rfl) (by omega) (fun _ _ => True) ht hc (fun fuel cs x h => by
    obtain ⟨n, rfl, _⟩ := DataW.trod_bool he h
    exact ⟨n, rfl, trivial⟩) hval hd
  exact ⟨A, c, l, h1, h2, h3, by rw [← flat_map1]; exact h4, h5⟩
/-- bytes -/
theorem open_byteseq {b0 : Nat} {t e : TypeId} {v : Value} {d : DataW H} {ps : List MemPlace} (ht : P.underlying t = some (.slice e)) (he : P.underlying e = some (.int .u8)) (hc : P.cellsOf e = 1)
    (hval : Value.okWide P w .any b0 t v) (hd : DataW.Trod enc P w base spare held t v d ps) :
    ∃ A c, ∃ l : List UInt8, v = .slice A l.length c ∧ l.length ≤ c ∧ c ≤ maxLen ∧ Reads (· < w.heap.size) w 1 A l.length (l.map fun c => .int .u8 (c.toNat : Int)) ∧ l.length ≤ Rows.uptoBulk d := by
  obtain ⟨A, c, l, h1, h2, h3, h4, h5, h6⟩ := open_rows (α := UInt8) (fun x => [.int .u8 (x.toNat : Int)]) 1 (fun _ => rfl) (by omega) (fun _ _ => True) ht hc (fun fuel cs x h => by
    obtain ⟨n, rfl, rfl, hw⟩ := DataW.trod_int he h
    have hb : 0 ≤ n ∧ n ≤ 255 := by simpa [Lit.wf, IntKind.min, IntKind.max, IntKind.signed, IntKind.bits] using hw
    refine ⟨UInt8.ofNat n.toNat, ?_, trivial⟩
    have : ((UInt8.ofNat n.toNat).toNat : Int) = n := by simp; omega
    rw [this]) hval hd
  exact ⟨A, c, l, h1, h2, h3, by rw [← flat_map1]; exact h4, h5⟩
end
end Go.Proofs.Ytoolpppbbphbjaa
