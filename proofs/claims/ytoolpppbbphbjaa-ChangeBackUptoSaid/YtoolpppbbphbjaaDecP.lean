/- The law: what reading a change's bytes tells: a machine of numbers and texts, up to the first fault. -/
import Derived.Test.YtoolpppbbphbjaaReader2C
import Derived.Test.YtoolpppbbphbjaaIds
namespace Go.Proofs.Ytoolpppbbphbjaa
open Go.ChangeShapes Go.WideShapes Go.ChangeAt Go.RowKit

/-- a text read -/
def rdText (l : List UInt8) (most at_ : Nat) (bad : Bool) : List UInt8 × Nat × Bool :=
  match rdNum l most at_ bad with
  | (n, a, b) => if b = true ∨ l.length - a < n then ([], a, true) else ((l.drop a).take n, a + n, false)
theorem rdText_no {l : List UInt8} {most at_ n a : Nat} {bad b : Bool} (h : rdNum l most at_ bad = (n, a, b)) (hc : b = true ∨ l.length - a < n) : rdText l most at_ bad = ([], a, true) := by
  unfold rdText; rw [h]; exact if_pos hc
theorem rdText_ok {l : List UInt8} {most at_ n a : Nat} {bad : Bool} (h : rdNum l most at_ bad = (n, a, false)) (hc : n ≤ l.length - a) : rdText l most at_ bad = ((l.drop a).take n, a + n, false) := by
  unfold rdText; rw [h]; exact if_neg (by simp; omega)
/-- two numbers read -/
def rdPair (l : List UInt8) (m1 m2 : Nat) (s : Nat × Bool) : Rf × (Nat × Bool) :=
  let x := rdNum l m1 s.1 s.2
  let y := rdNum l m2 x.2.1 x.2.2
  (((x.1 : Int), (y.1 : Int)), y.2)
theorem rdPair_of {l : List UInt8} {m1 m2 at_ n1 a1 n2 a2 : Nat} {bad b1 b2 : Bool} (h1 : rdNum l m1 at_ bad = (n1, a1, b1)) (h2 : rdNum l m2 a1 b1 = (n2, a2, b2)) : rdPair l m1 m2 (at_, bad) = (((n1 : Int), (n2 : Int)), (a2, b2)) := by
  simp only [rdPair, h1, h2]
def rdPairs (l : List UInt8) (m1 m2 : Nat) (s : Nat × Bool) : Nat → List Rf × (Nat × Bool)
  | 0 => ([], s)
  | n + 1 =>
    let r := rdPairs l m1 m2 s n
    let p := rdPair l m1 m2 r.2
    (r.1 ++ [p.1], p.2)
theorem rdPairs_next {l : List UInt8} {m1 m2 n a a' : Nat} {s : Nat × Bool} {L : List Rf} {b b' : Bool} {r : Rf} (h : rdPairs l m1 m2 s n = (L, (a, b))) (h1 : rdPair l m1 m2 (a, b) = (r, (a', b'))) : rdPairs l m1 m2 s (n + 1) = (L ++ [r], (a', b')) := by
  rw [rdPairs, h]
  simp only [h1]
def rdOp (l : List UInt8) (s : Nat × Bool) : OpD × (Nat × Bool) :=
  let k := rdNum l 4 s.1 s.2
  let ob := rdPair l 1000000 99 k.2
  let key := rdText l 20 ob.2.1 ob.2.2
  let el := rdPair l 1000000 99 key.2
  let ins := rdNum l 1 el.2.1 el.2.2
  let vk := rdNum l 6 ins.2.1 ins.2.2
  let vn := rdInt l vk.2.1 vk.2.2
  let vt := rdText l 60 vn.2.1 vn.2.2
  let m := rdNum l 12 vt.2.1 vt.2.2
  let ps := rdPairs l 1000000 99 m.2 m.1
  (⟨k.1, ob.1.1, ob.1.2, ⟨key.1.toArray⟩, el.1.1, el.1.2, ins.1 == 1, vk.1, vn.1, ⟨vt.1.toArray⟩, 0, 0, none, 0, ps.1⟩, ps.2)
def rdOps (l : List UInt8) (s : Nat × Bool) : Nat → List OpD × (Nat × Bool)
  | 0 => ([], s)
  | n + 1 =>
    let r := rdOps l s n
    let p := rdOp l r.2
    (r.1 ++ [p.1], p.2)
theorem rdOps_next {l : List UInt8} {n a a' : Nat} {s : Nat × Bool} {L : List OpD} {b b' : Bool} {r : OpD} (h : rdOps l s n = (L, (a, b))) (h1 : rdOp l (a, b) = (r, (a', b'))) : rdOps l s (n + 1) = (L ++ [r], (a', b')) := by
  rw [rdOps, h]
  simp only [h1]
theorem rdOp_of {l : List UInt8} {at_ k ak on ao oa aoa akey en aen ea aea ins ain vk avk avn avt m am aps : Nat} {bad bk bo boa bkey ben bea bin bvk bvn bvt bm bps : Bool} {vn : Int} {key vt : List UInt8} {ps : List Rf}
    (h1 : rdNum l 4 at_ bad = (k, ak, bk)) (h2 : rdNum l 1000000 ak bk = (on, ao, bo)) (h3 : rdNum l 99 ao bo = (oa, aoa, boa)) (h4 : rdText l 20 aoa boa = (key, akey, bkey))
    (h5 : rdNum l 1000000 akey bkey = (en, aen, ben)) (h6 : rdNum l 99 aen ben = (ea, aea, bea)) (h7 : rdNum l 1 aea bea = (ins, ain, bin)) (h8 : rdNum l 6 ain bin = (vk, avk, bvk))
    (h9 : rdInt l avk bvk = (vn, avn, bvn)) (h10 : rdText l 60 avn bvn = (vt, avt, bvt)) (h11 : rdNum l 12 avt bvt = (m, am, bm)) (h12 : rdPairs l 1000000 99 (am, bm) m = (ps, (aps, bps))) :
    rdOp l (at_, bad) = (⟨k, on, oa, ⟨key.toArray⟩, en, ea, ins == 1, vk, vn, ⟨vt.toArray⟩, 0, 0, none, 0, ps⟩, (aps, bps)) := by
  simp only [rdOp, rdPair, h1, h2, h3, h4, h5, h6, h7, h8, h9, h10, h11, h12]
theorem rdOp_of2 {l : List UInt8} {at_ k ak ao akey ae ins ain vk avk avn avt m am aps : Nat} {bad bk bo bkey be bin bvk bvn bvt bm bps : Bool} {on oa en ea vn : Int} {key vt : List UInt8} {ps : List Rf}
    (h1 : rdNum l 4 at_ bad = (k, ak, bk)) (h2 : rdPair l 1000000 99 (ak, bk) = ((on, oa), (ao, bo))) (h4 : rdText l 20 ao bo = (key, akey, bkey))
    (h5 : rdPair l 1000000 99 (akey, bkey) = ((en, ea), (ae, be))) (h7 : rdNum l 1 ae be = (ins, ain, bin)) (h8 : rdNum l 6 ain bin = (vk, avk, bvk))
    (h9 : rdInt l avk bvk = (vn, avn, bvn)) (h10 : rdText l 60 avn bvn = (vt, avt, bvt)) (h11 : rdNum l 12 avt bvt = (m, am, bm)) (h12 : rdPairs l 1000000 99 (am, bm) m = (ps, (aps, bps))) :
    rdOp l (at_, bad) = (⟨k, on, oa, ⟨key.toArray⟩, en, ea, ins == 1, vk, vn, ⟨vt.toArray⟩, 0, 0, none, 0, ps⟩, (aps, bps)) := by
  simp only [rdOp, h1, h2, h4, h5, h7, h8, h9, h10, h11, h12]
/-- an op without its place in memory -/
def base (o : OpD) : OpD := { o with A := none, c := 0 }
theorem ops_base {a b : List OpD} (h : a.map base = b) : b.map base = b := by
  subst h
  rw [List.map_map]; rfl
theorem opsE_base : ∀ {a b : List OpD}, a.map base = b.map base → opsE a = opsE b
  | [], [], _ => rfl
  | [], _ :: _, h => by simp at h
  | _ :: _, [], h => by simp at h
  | x :: a, y :: b, h => by
    simp only [List.map_cons, List.cons.injEq] at h
    have e : opE' x = opE' y := by
      have h1 : opE' x = opE' (base x) := rfl
      have h2 : opE' y = opE' (base y) := rfl
      rw [h1, h2, h.1]
    rw [opsE, opsE, e, opsE_base h.2]
theorem map_base_len {a b : List OpD} (h : a.map base = b.map base) : a.length = b.length := by
  have := congrArg List.length h
  simpa using this
theorem chgE_base {a s st : Int} {deps : List Rf} {x y : List OpD} (h : x.map base = y.map base) : chgE a s st deps x = chgE a s st deps y := by
  unfold chgE
  rw [opsE_base h, map_base_len h]
theorem opB_base : ∀ {a b : List OpD}, a.map base = b.map base → a.flatMap opB = b.flatMap opB
  | [], [], _ => rfl
  | [], _ :: _, h => by simp at h
  | _ :: _, [], h => by simp at h
  | x :: a, y :: b, h => by
    simp only [List.map_cons, List.cons.injEq] at h
    have e : opB x = opB y := by
      have h1 : opB x = opB (base x) := rfl
      have h2 : opB y = opB (base y) := rfl
      rw [h1, h2, h.1]
    rw [List.flatMap_cons, List.flatMap_cons, e, opB_base h.2]
theorem encL_base {a s st : Int} {deps : List Rf} {x y : List OpD} (h : x.map base = y.map base) : encL a s st deps x = encL a s st deps y := by
  unfold encL
  rw [opB_base h, map_base_len h]
/-- what a change's bytes tell, faults and all -/
structure Rd where
  a : Nat
  s : Nat
  st : Nat
  deps : List Rf
  ops : List OpD
  at_ : Nat
  bad : Bool
def rdAll (l : List UInt8) : Rd :=
  let a := rdNum l 99 0 false
  let s := rdNum l 1000000 a.2.1 a.2.2
  let st := rdNum l 1000000 s.2.1 s.2.2
  let n := rdNum l 12 st.2.1 st.2.2
  let d := rdPairs l 99 1000000 n.2 n.1
  let m := rdNum l 40 d.2.1 d.2.2
  let o := rdOps l m.2 m.1
  ⟨a.1, s.1, st.1, d.1, o.1, o.2.1, o.2.2⟩
theorem rdAll_of {l : List UInt8} {a aa s as_ st ast n an ad m am ao : Nat} {ba bs bst bn bd bm bo : Bool} {deps : List Rf} {ops : List OpD}
    (h1 : rdNum l 99 0 false = (a, aa, ba)) (h2 : rdNum l 1000000 aa ba = (s, as_, bs)) (h3 : rdNum l 1000000 as_ bs = (st, ast, bst)) (h4 : rdNum l 12 ast bst = (n, an, bn)) (h5 : rdPairs l 99 1000000 (an, bn) n = (deps, (ad, bd)))
    (h6 : rdNum l 40 ad bd = (m, am, bm)) (h7 : rdOps l (am, bm) m = (ops, (ao, bo))) : rdAll l = ⟨a, s, st, deps, ops, ao, bo⟩ := by
  simp only [rdAll, h1, h2, h3, h4, h5, h6, h7]
end Go.Proofs.Ytoolpppbbphbjaa
