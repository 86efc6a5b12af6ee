/- Words for contracts: results told apart, the byte's own facts. -/
import Derived.Test.YtoolpppbbphbjaaBytesP
import Derived.Laws.IdiomStrings
import Derived.Laws.BytesArg
import Derived.WalkLawsBesides
import Derived.WalkSpells
import Derived.BigQuiet
import Derived.Deep.QuietTactic
import Derived.Deep.RegionHeld3
import Derived.Lib.Hide
import Derived.LoopTactic
namespace Go.Proofs.Ytoolpppbbphbjaa
open Go.ChangeShapes Go.WideShapes Go.ChangeAt Go.RowKit

theorem ret_int {k : IntKind} {a b : Int} (h : a = b) : Ending.returned (.int k a) = .returned (.int k b) := by rw [h]
theorem ret_bool {a b : Bool} (h : a = b) : Ending.returned (.bool a) = .returned (.bool b) := by rw [h]

theorem infoByte : (Try.prog.info? 5).map (fun i => (i.zero, i.size, i.bytes)) = some (some (.int .u8 0), 1, 1) := by kernel_rfl

theorem or_128_fin : ∀ c : Fin 256, bits .or .u8 ((c.val : Nat) : Int) 128 = ((c.val % 128 + 128 : Nat) : Int) := by decide +kernel
theorem or_128 (n : Nat) : bits .or .u8 ((n : Int) % 256) 128 = (n : Int) % 128 + 128 := by
  have h := or_128_fin ⟨n % 256, by omega⟩
  have e : (((n % 256 : Nat)) : Int) = (n : Int) % 256 := by omega
  simp only at h
  rw [← e, h]
  omega
/-- one byte in a new block -/
theorem reads_new (wr : World) (t : TypeId) (c : UInt8) (x : Int) (hx : x = (c.toNat : Int)) (H : Nat) (hH : wr.heap.size = H) : Reads (fun k => k = H) (wr.alloc (.cells #[.int .u8 x] t)) 1 (some ⟨H, 0, none⟩) 1 (bytesC [c]) := by
  subst hx
  subst hH
  refine ⟨by simp [bytesC], fun _ => ⟨_, rfl, rfl, fun j u hu => ?_⟩⟩
  match j, hu with
  | 0, hu => simp [bytesC] at hu; subst hu; simp [Addr.add]
  | j + 1, hu => simp [bytesC] at hu

theorem get_lt {α : Type} {l : List α} {k : Nat} (h : k < l.length) : ∃ x, l[k]? = some x := ⟨l[k], List.getElem?_eq_getElem h⟩
/-- the bytes a slice holds, as a string -/
theorem conv_reads {l : List UInt8} {D : Nat → Prop} {A : Option Addr} {c : Nat} {w : World} (hr : Reads D w 1 A l.length (bytesC l)) :
    (convert 26 9 (.slice A l.length c)).run Try.prog w = .ok (.string ⟨l.toArray⟩) w := by
  rcases Nat.eq_zero_or_pos l.length with h0 | h0
  · have : l = [] := List.length_eq_zero_iff.1 h0
    subst this
    rw [run_convert_bytes_string w 26 9 5 A _ c Try.underlying26 Try.underlying5 Try.underlying9]
    cases A with
    | none => simp [Conv.bytesToString]; rfl
    | some a =>
      have := run_convert_bytes_back (P := Try.prog) w 26 9 5 a c [] Try.underlying26 Try.underlying5 Try.underlying9 (fun j hj => by simp at hj)
      rw [run_convert_bytes_string w 26 9 5 (some a) _ c Try.underlying26 Try.underlying5 Try.underlying9] at this
      exact this
  · obtain ⟨ad, rfl, _, hc⟩ := hr.2 h0
    refine run_convert_bytes_back w 26 9 5 ad c l Try.underlying26 Try.underlying5 Try.underlying9 (fun j hj => ?_)
    exact hc j _ (by simp [bytesC, List.getElem?_eq_getElem hj])

end Go.Proofs.Ytoolpppbbphbjaa
