/- The program's writer, in the words of a growing row. -/
import Derived.Test.YtclgfcjcpbiadaaGreatDoorRefEnc
import Derived.Lib.Strings
import Derived.Test.YtclgfcjcpbiadaaGreatDoorM1
import Derived.Test.YtclgfcjcpbiadaaGreatDoorEncP
set_option linter.unusedVariables false
set_option linter.unusedSimpArgs false
namespace Go.Proofs.YtclgfcjcpbiadaaGreatDoor
open Go.ChangeShapes Go.WideShapes Go.ChangeAt Go.RowKit

end Go.Proofs.YtclgfcjcpbiadaaGreatDoor

namespace Go.Proofs.YtclgfcjcpbiadaaGreatDoor
open Go.ChangeShapes Go.WideShapes Go.ChangeAt Go.RowKit

end Go.Proofs.YtclgfcjcpbiadaaGreatDoor

namespace Go.Proofs.YtclgfcjcpbiadaaGreatDoor
open Go.ChangeShapes Go.WideShapes Go.ChangeAt Go.RowKit

theorem infoId : (Tryz.prog.info? 82).map (fun i => (i.zero, i.size, i.bytes)) = some (some (.agg #[.int .i64 0, .int .i64 0]), 2, 16) := by kernel_rfl
theorem ite_zero {c : Prop} [Decidable c] {a b : Nat} (h : (if c then a else b) = 0) (ha : a ≠ 0) : ¬ c ∧ b = 0 := by
  by_cases hc : c
  · rw [if_pos hc] at h; exact absurd h ha
  · rw [if_neg hc] at h; exact ⟨hc, h⟩
theorem id_nat {a b : Int} (h : idB a b = true) : NatI a ∧ NatI b := by
  simp only [idB, rootB, realB, numB, actorB, Bool.or_eq_true, Bool.and_eq_true, decide_eq_true_eq] at h
  unfold NatI
  omega
theorem real_nat {a b : Int} (h : realB a b = true) : NatI a ∧ NatI b := id_nat (by rw [idB, h, Bool.or_true])
theorem value_good {k n : Int} {t : ByteArray} {a b : Int} (h : valueB k n t a b = true) : NatI k ∧ t.size ≤ 60 := by
  have he : ∀ t : ByteArray, t.toList.isEmpty = true → t.size ≤ 60 := fun t ht => by
    rw [Lib.toList_data] at ht
    have h0 : t.data.toList = [] := by simpa using ht
    have : t.data.toList.length = 0 := by rw [h0]; rfl
    rw [Array.length_toList] at this
    rw [ByteArray.size]; omega
  unfold valueB at h
  split at h
  · subst_vars; exact ⟨⟨by omega, by omega⟩, he t (by simp [bareB] at h ⊢; exact h.1.1)⟩
  split at h
  · subst_vars; exact ⟨⟨by omega, by omega⟩, he t (by simp [bareB] at h ⊢; exact h.1.1)⟩
  split at h
  · rename_i hk; exact ⟨⟨by omega, by omega⟩, he t (by simp [bareB] at h ⊢; exact h.1)⟩
  split at h
  · subst_vars; exact ⟨⟨by omega, by omega⟩, by simp at h; exact h.2⟩
  split at h
  · rename_i hk; exact ⟨⟨by omega, by omega⟩, he t (by simp at h ⊢; exact h.1.2)⟩
  · cases h
theorem tail_value {k : Int} {kn root ins pe v kb : Bool} (h : tailE k kn root ins pe v kb = 0) : v = true := by
  unfold tailE at h
  have h1 := (ite_zero h (by omega)).2
  have h2 := (ite_zero h1 (by omega)).1
  simpa using h2
theorem op_good {o : OpD} (h : opE' o = 0) (hv : (Lit.int .i64 o.vn).wf = true) : OpG o := by
  unfold opE' opE at h
  obtain ⟨h1, h⟩ := ite_zero h (by omega)
  obtain ⟨h2, h⟩ := ite_zero h (by omega)
  obtain ⟨h3, h⟩ := ite_zero h (by omega)
  by_cases h4 : idsE o.l ≠ 0
  · rw [if_pos h4] at h; exact absurd h h4
  rw [if_neg h4] at h
  have hI : idB o.on o.oa = true := by
    cases hx : idB o.on o.oa
    · exact absurd (Or.inr (Or.inr (Or.inl hx))) h1
    · rfl
  have hJ : idB o.en o.ea = true := by
    cases hx : idB o.en o.ea
    · exact absurd (Or.inr (Or.inr (Or.inr hx))) h1
    · rfl
  have hV := value_good (tail_value h)
  have hL : o.l.length ≤ 12 := by
    have : idsE o.l = 0 := by omega
    unfold idsE at this
    have := (ite_zero this (by omega)).1
    omega
  refine ⟨?_, (id_nat hI).1, (id_nat hI).2, by omega, (id_nat hJ).1, (id_nat hJ).2, hV.1, hv, hV.2, hL, fun r hr => ?_⟩
  · have : ¬ o.k < 1 ∧ ¬ 4 < o.k := ⟨fun hx => h1 (Or.inl hx), fun hx => h1 (Or.inr (Or.inl hx))⟩
    exact ⟨by omega, by omega⟩
  · have : o.l.all (fun r => realB r.1 r.2) = true := by simpa using h2
    exact real_nat (List.all_eq_true.1 this r hr)
theorem ops_good : ∀ {l : List OpD}, opsE l = 0 → (∀ o ∈ l, (Lit.int .i64 o.vn).wf = true) → ∀ o ∈ l, OpG o
  | [], _, _, _, h => by cases h
  | x :: l, h, hv, o, ho => by
    have hx : opE' x = 0 := by
      by_cases h0 : opE' x = 0
      · exact h0
      · simp only [opsE, if_neg h0] at h; exact absurd h h0
    have hr : opsE l = 0 := by simp only [opsE, if_pos hx] at h; exact h
    rcases List.mem_cons.1 ho with rfl | ho
    · exact op_good hx (hv _ (by simp))
    · exact ops_good hr (fun o ho => hv o (by simp [ho])) o ho
theorem refs_good : ∀ {l : List Rf} {p : Int}, refsE p l = 0 → ∀ r ∈ l, NatI r.1 ∧ NatI r.2
  | [], _, _, _, h => by cases h
  | x :: l, p, h, r, hr => by
    simp only [refsE] at h
    obtain ⟨h1, h⟩ := ite_zero h (by omega)
    obtain ⟨_, h⟩ := ite_zero h (by omega)
    rcases List.mem_cons.1 hr with rfl | hr
    · have : isRef r = true := by simpa using h1
      simp only [isRef, Bool.and_eq_true, decide_eq_true_eq] at this
      unfold NatI
      omega
    · exact refs_good h r hr
theorem chg_good {a s st : Int} {deps : List Rf} {ops : List OpD} (h : chgE a s st deps ops = 0) (hv : ∀ o ∈ ops, (Lit.int .i64 o.vn).wf = true) : EncG a s st deps ops ∧ 1 ≤ st ∧ st ≤ 1000000 := by
  unfold chgE at h
  obtain ⟨h1, h⟩ := ite_zero h (by omega)
  obtain ⟨h2, h⟩ := ite_zero h (by omega)
  by_cases h3 : refsE 0 deps ≠ 0
  · rw [if_pos h3] at h; exact absurd h h3
  rw [if_neg h3] at h
  obtain ⟨h4, h⟩ := ite_zero h (by omega)
  obtain ⟨h5, h⟩ := ite_zero h (by omega)
  have hr : isRef (a, s) = true := by
    cases hx : isRef (a, s)
    · exact absurd (Or.inl hx) h1
    · rfl
  simp only [isRef, Bool.and_eq_true, decide_eq_true_eq] at hr
  have hs : ¬ st < 1 ∧ ¬ 1000000 < st := ⟨fun hx => h1 (Or.inr (Or.inl hx)), fun hx => h1 (Or.inr (Or.inr hx))⟩
  refine ⟨⟨⟨by omega, by omega⟩, ⟨by omega, by omega⟩, ⟨by omega, by omega⟩, by omega, refs_good (p := 0) (by omega), by omega, ops_good h hv⟩, by omega, by omega⟩
end Go.Proofs.YtclgfcjcpbiadaaGreatDoor

namespace Go.Proofs.YtclgfcjcpbiadaaGreatDoor
open Go.ChangeShapes Go.WideShapes Go.ChangeAt Go.RowKit

/-- a text read -/
def rdText (l : List UInt8) (most at_ : Nat) (bad : Bool) : List UInt8 × Nat × Bool :=
  match rdNum l most at_ bad with
  | (n, a, b) => if b = true ∨ l.length - a < n then ([], a, true) else ((l.drop a).take n, a + n, false)
theorem rdText_no {l : List UInt8} {most at_ n a : Nat} {bad b : Bool} (h : rdNum l most at_ bad = (n, a, b)) (hc : b = true ∨ l.length - a < n) : rdText l most at_ bad = ([], a, true) := by
  unfold rdText; rw [h]; exact if_pos hc
theorem rdText_ok {l : List UInt8} {most at_ n a : Nat} {bad : Bool} (h : rdNum l most at_ bad = (n, a, false)) (hc : n ≤ l.length - a) : rdText l most at_ bad = ((l.drop a).take n, a + n, false) := by
  unfold rdText; rw [h]; exact if_neg (by simp; omega)
/-- two numbers read -/
def rdPair (l : List UInt8) (m1 m2 : Nat) (s : Nat × Bool) : Rf × (Nat × Bool) :=
  let x := rdNum l m1 s.1 s.2
  let y := rdNum l m2 x.2.1 x.2.2
  (((x.1 : Int), (y.1 : Int)), y.2)
theorem rdPair_of {l : List UInt8} {m1 m2 at_ n1 a1 n2 a2 : Nat} {bad b1 b2 : Bool} (h1 : rdNum l m1 at_ bad = (n1, a1, b1)) (h2 : rdNum l m2 a1 b1 = (n2, a2, b2)) : rdPair l m1 m2 (at_, bad) = (((n1 : Int), (n2 : Int)), (a2, b2)) := by
  simp only [rdPair, h1, h2]
def rdPairs (l : List UInt8) (m1 m2 : Nat) (s : Nat × Bool) : Nat → List Rf × (Nat × Bool)
  | 0 => ([], s)
  | n + 1 =>
    let r := rdPairs l m1 m2 s n
    let p := rdPair l m1 m2 r.2
    (r.1 ++ [p.1], p.2)
theorem rdPairs_next {l : List UInt8} {m1 m2 n a a' : Nat} {s : Nat × Bool} {L : List Rf} {b b' : Bool} {r : Rf} (h : rdPairs l m1 m2 s n = (L, (a, b))) (h1 : rdPair l m1 m2 (a, b) = (r, (a', b'))) : rdPairs l m1 m2 s (n + 1) = (L ++ [r], (a', b')) := by
  rw [rdPairs, h]
  simp only [h1]
def rdOp (l : List UInt8) (s : Nat × Bool) : OpD × (Nat × Bool) :=
  let k := rdNum l 4 s.1 s.2
  let ob := rdPair l 1000000 99 k.2
  let key := rdText l 20 ob.2.1 ob.2.2
  let el := rdPair l 1000000 99 key.2
  let ins := rdNum l 1 el.2.1 el.2.2
  let vk := rdNum l 6 ins.2.1 ins.2.2
  let vn := rdInt l vk.2.1 vk.2.2
  let vt := rdText l 60 vn.2.1 vn.2.2
  let m := rdNum l 12 vt.2.1 vt.2.2
  let ps := rdPairs l 1000000 99 m.2 m.1
  (⟨k.1, ob.1.1, ob.1.2, ⟨key.1.toArray⟩, el.1.1, el.1.2, ins.1 == 1, vk.1, vn.1, ⟨vt.1.toArray⟩, 0, 0, none, 0, ps.1⟩, ps.2)
def rdOps (l : List UInt8) (s : Nat × Bool) : Nat → List OpD × (Nat × Bool)
  | 0 => ([], s)
  | n + 1 =>
    let r := rdOps l s n
    let p := rdOp l r.2
    (r.1 ++ [p.1], p.2)
theorem rdOps_next {l : List UInt8} {n a a' : Nat} {s : Nat × Bool} {L : List OpD} {b b' : Bool} {r : OpD} (h : rdOps l s n = (L, (a, b))) (h1 : rdOp l (a, b) = (r, (a', b'))) : rdOps l s (n + 1) = (L ++ [r], (a', b')) := by
  rw [rdOps, h]
  simp only [h1]
theorem rdOp_of2 {l : List UInt8} {at_ k ak ao akey ae ins ain vk avk avn avt m am aps : Nat} {bad bk bo bkey be bin bvk bvn bvt bm bps : Bool} {on oa en ea vn : Int} {key vt : List UInt8} {ps : List Rf}
    (h1 : rdNum l 4 at_ bad = (k, ak, bk)) (h2 : rdPair l 1000000 99 (ak, bk) = ((on, oa), (ao, bo))) (h4 : rdText l 20 ao bo = (key, akey, bkey))
    (h5 : rdPair l 1000000 99 (akey, bkey) = ((en, ea), (ae, be))) (h7 : rdNum l 1 ae be = (ins, ain, bin)) (h8 : rdNum l 6 ain bin = (vk, avk, bvk))
    (h9 : rdInt l avk bvk = (vn, avn, bvn)) (h10 : rdText l 60 avn bvn = (vt, avt, bvt)) (h11 : rdNum l 12 avt bvt = (m, am, bm)) (h12 : rdPairs l 1000000 99 (am, bm) m = (ps, (aps, bps))) :
    rdOp l (at_, bad) = (⟨k, on, oa, ⟨key.toArray⟩, en, ea, ins == 1, vk, vn, ⟨vt.toArray⟩, 0, 0, none, 0, ps⟩, (aps, bps)) := by
  simp only [rdOp, h1, h2, h4, h5, h7, h8, h9, h10, h11, h12]
/-- an op without its place in memory -/
def base (o : OpD) : OpD := { o with A := none, c := 0 }
theorem ops_base {a b : List OpD} (h : a.map base = b) : b.map base = b := by
  subst h
  rw [List.map_map]; rfl
theorem opsE_base : ∀ {a b : List OpD}, a.map base = b.map base → opsE a = opsE b
  | [], [], _ => rfl
  | [], _ :: _, h => by simp at h
  | _ :: _, [], h => by simp at h
  | x :: a, y :: b, h => by
    simp only [List.map_cons, List.cons.injEq] at h
    have e : opE' x = opE' y := by
      have h1 : opE' x = opE' (base x) := rfl
      have h2 : opE' y = opE' (base y) := rfl
      rw [h1, h2, h.1]
    rw [opsE, opsE, e, opsE_base h.2]
theorem map_base_len {a b : List OpD} (h : a.map base = b.map base) : a.length = b.length := by
  have := congrArg List.length h
  simpa using this
theorem chgE_base {a s st : Int} {deps : List Rf} {x y : List OpD} (h : x.map base = y.map base) : chgE a s st deps x = chgE a s st deps y := by
  unfold chgE
  rw [opsE_base h, map_base_len h]
theorem opB_base : ∀ {a b : List OpD}, a.map base = b.map base → a.flatMap opB = b.flatMap opB
  | [], [], _ => rfl
  | [], _ :: _, h => by simp at h
  | _ :: _, [], h => by simp at h
  | x :: a, y :: b, h => by
    simp only [List.map_cons, List.cons.injEq] at h
    have e : opB x = opB y := by
      have h1 : opB x = opB (base x) := rfl
      have h2 : opB y = opB (base y) := rfl
      rw [h1, h2, h.1]
    rw [List.flatMap_cons, List.flatMap_cons, e, opB_base h.2]
theorem encL_base {a s st : Int} {deps : List Rf} {x y : List OpD} (h : x.map base = y.map base) : encL a s st deps x = encL a s st deps y := by
  unfold encL
  rw [opB_base h, map_base_len h]
/-- what a change's bytes tell, faults and all -/
structure Rd where
  a : Nat
  s : Nat
  st : Nat
  deps : List Rf
  ops : List OpD
  at_ : Nat
  bad : Bool
def rdAll (l : List UInt8) : Rd :=
  let a := rdNum l 99 0 false
  let s := rdNum l 1000000 a.2.1 a.2.2
  let st := rdNum l 1000000 s.2.1 s.2.2
  let n := rdNum l 12 st.2.1 st.2.2
  let d := rdPairs l 99 1000000 n.2 n.1
  let m := rdNum l 40 d.2.1 d.2.2
  let o := rdOps l m.2 m.1
  ⟨a.1, s.1, st.1, d.1, o.1, o.2.1, o.2.2⟩
theorem rdAll_of {l : List UInt8} {a aa s as_ st ast n an ad m am ao : Nat} {ba bs bst bn bd bm bo : Bool} {deps : List Rf} {ops : List OpD}
    (h1 : rdNum l 99 0 false = (a, aa, ba)) (h2 : rdNum l 1000000 aa ba = (s, as_, bs)) (h3 : rdNum l 1000000 as_ bs = (st, ast, bst)) (h4 : rdNum l 12 ast bst = (n, an, bn)) (h5 : rdPairs l 99 1000000 (an, bn) n = (deps, (ad, bd)))
    (h6 : rdNum l 40 ad bd = (m, am, bm)) (h7 : rdOps l (am, bm) m = (ops, (ao, bo))) : rdAll l = ⟨a, s, st, deps, ops, ao, bo⟩ := by
  simp only [rdAll, h1, h2, h3, h4, h5, h6, h7]
end Go.Proofs.YtclgfcjcpbiadaaGreatDoor

namespace Go.Proofs.YtclgfcjcpbiadaaGreatDoor
open Go.RowKit

/-- a change, and where its rows lie -/
structure ChD where
  a : Int
  s : Int
  st : Int
  deps : List Rf
  DA : Option Addr
  DC : Nat
  ops : List OpD
  OA : Option Addr
  OC : Nat
def ChD.rf (c : ChD) : Rf := (c.a, c.s)
def ChD.err (c : ChD) : Nat := chgE c.a c.s c.st c.deps c.ops
def ChD.enc (c : ChD) : List UInt8 := encL c.a c.s c.st c.deps c.ops
/-- .. without where they lie -/
def ChD.base (c : ChD) : ChD := { c with DA := none, DC := 0, ops := c.ops.map Go.Proofs.YtclgfcjcpbiadaaGreatDoor.base, OA := none, OC := 0 }
/-- an op and its id -/
abbrev OpI := OpD × Rf
def idsFrom (a : Int) : Int → List OpD → List OpI
  | _, [] => []
  | st, o :: l => (o, (st, a)) :: idsFrom a (st + 1) l
def ChD.opsI (c : ChD) : List OpI := idsFrom c.a c.st c.ops
def refsOf (L : List ChD) : List Rf := L.map ChD.rf
def aheadR (r q : Rf) : Bool := decide (r.1 < q.1 ∨ r.1 = q.1 ∧ r.2 < q.2)
def putR (l : List Rf) (r : Rf) : List Rf := if r ∈ l then l else l.takeWhile (fun x => aheadR x r) ++ r :: l.dropWhile (fun x => aheadR x r)
def AscR (l : List Rf) : Prop := l.Pairwise fun x y => aheadR x y = true
/-- what hangs behind: the latest change first -/
def back : List ChD → List Rf → List Rf
  | [], _ => []
  | c :: L, w => if c.rf ∈ w then c.rf :: back L (w ++ c.deps) else back L w
def behindP (L : List ChD) (hs : List Rf) : List Rf := back L.reverse hs
def knownP (L : List ChD) (R : List Rf) : List OpI := (L.filter fun c => decide (c.rf ∈ R)).flatMap ChD.opsI
def lookP (l : List OpI) (n : Rf) : Option OpI := l.find? fun x => decide (x.2 = n)
def objP (x : OpI) : Rf := (x.1.on, x.1.oa)
def elP (x : OpI) : Rf := (x.1.en, x.1.ea)
def elemP (x : OpI) : Rf := if x.1.ins then x.2 else elP x
def placeP (x y : OpI) : Bool := decide (objP x = objP y) && decide (x.1.key = y.1.key) && decide (elemP x = elemP y)
def kindP (x : OpI) (known : List OpI) : Option Int :=
  if objP x = (0, 0) then some 5 else match lookP known (objP x) with
  | some y => if y.1.k = 2 then some y.1.vk else none
  | none => none
def keyOkP (x : OpI) (kd : Int) : Bool := !(decide (kd = 5) && decide (x.1.key = ⟨#[]⟩) || decide (kd = 6) && decide (x.1.key ≠ ⟨#[]⟩))
def elemOkP (x : OpI) (known : List OpI) : Bool :=
  if elP x = (0, 0) then true else match lookP known (elP x) with
  | some y => y.1.ins && decide (objP y = objP x)
  | none => false
def predOkP (x : OpI) (known : List OpI) (p : Rf) : Bool :=
  match lookP known p with
  | some y => !decide (2 < y.1.k) && placeP y x && !(decide (x.1.k = 4) && (decide (y.1.k ≠ 1) || decide (y.1.vk ≠ 4)))
  | none => false
def mayP (x : OpI) (known : List OpI) : Bool :=
  match kindP x known with
  | some kd => keyOkP x kd && elemOkP x known && x.1.l.all (predOkP x known)
  | none => false
def fitOps : List OpI → List OpI → Bool
  | [], _ => true
  | x :: l, known => mayP x known && fitOps l (known ++ [x])
def seqOkP (c : ChD) (B : List Rf) : Bool := B.all fun r => !(decide (r.1 = c.a) && decide (c.s ≤ r.2))
def prevOkP (c : ChD) (B : List Rf) : Bool := !(decide (1 < c.s) && !B.any fun r => decide (r.1 = c.a) && decide (r.2 = c.s - 1))
def fitsIn (L : List ChD) (c : ChD) (B : List Rf) : Bool := seqOkP c B && prevOkP c B && (knownP L B).all (fun x => decide (x.2.1 < c.st)) && fitOps c.opsI (knownP L B)
def fitsP (L : List ChD) (c : ChD) : Bool := fitsIn L c (behindP L c.deps)
def readyP (L : List ChD) (c : ChD) : Bool := c.deps.all fun d => decide (d ∈ refsOf L)
/-- the least of those that may be taken: its index -/
def leastGo (p : ChD → Bool) : List ChD → Nat → Option (Nat × Rf) → Option (Nat × Rf)
  | [], _, best => best
  | c :: W, i, best => leastGo p W (i + 1) (if p c && (match best with | none => true | some b => aheadR c.rf b.2) then some (i, c.rf) else best)
def leastAt (p : ChD → Bool) (W : List ChD) : Option (Nat × Rf) := leastGo p W 0 none
def settle : Nat → List ChD → List ChD → List ChD × List ChD
  | 0, L, W => (L, W)
  | n + 1, L, W => match leastAt (readyP L) W with
    | none => (L, W)
    | some (i, _) => match W[i]? with
      | none => (L, W)
      | some x => if fitsP L x then settle n (L ++ [x]) (W.eraseIdx i) else settle n L (W.eraseIdx i)
def findC (L : List ChD) (r : Rf) : Option ChD := L.find? fun c => decide (c.rf = r)
def sameE (c d : ChD) : Nat := if c.enc = d.enc then 0 else 8
/-- the fault of a change, that is taken if there is none -/
def takeP (L W : List ChD) (c : ChD) : (List ChD × List ChD) × Nat :=
  if c.err ≠ 0 then ((L, W), c.err) else
  match findC L c.rf with
  | some d => ((L, W), sameE d c)
  | none => match findC W c.rf with
    | some d => ((L, W), sameE d c)
    | none => if 120 ≤ L.length + W.length then ((L, W), 4)
      else if readyP L c = false then ((L, W ++ [c]), 0)
      else if fitsP L c = false then ((L, W), 7)
      else (settle W.length (L ++ [c]) W, 0)
def nextP (L out : List ChD) (c : ChD) : Bool := !decide (c.rf ∈ refsOf out) && c.deps.all fun d => decide (d ∈ refsOf out)
def allGo (L : List ChD) : Nat → List ChD → List ChD
  | 0, out => out
  | n + 1, out => match leastAt (nextP L out) L with
    | none => out
    | some (i, _) => match L[i]? with
      | none => out
      | some c => allGo L n (out ++ [c])
def allP (L : List ChD) : List ChD := allGo L L.length []
def refsP (L : List ChD) : List Rf := L.foldl (fun out c => putR out c.rf) []
/-- books as they come to be -/
inductive Bk : List ChD → Prop
  | nil : Bk []
  | snoc {L : List ChD} {c : ChD} : Bk L → c.err = 0 → (∀ o ∈ c.ops, (Lit.int .i64 o.vn).wf = true) → c.rf ∉ refsOf L → readyP L c = true → fitsP L c = true → Bk (L ++ [c])
end Go.Proofs.YtclgfcjcpbiadaaGreatDoor

namespace Go.Proofs.YtclgfcjcpbiadaaGreatDoor
open Go.RowKit

theorem back_congr : ∀ (L : List ChD) {w w' : List Rf}, (∀ r, r ∈ w ↔ r ∈ w') → back L w = back L w'
  | [], _, _, _ => rfl
  | c :: L, w, w', h => by
    have h2 : ∀ r, r ∈ w ++ c.deps ↔ r ∈ w' ++ c.deps := fun r => by rw [List.mem_append, List.mem_append, h]
    simp only [back, h, back_congr L h2, back_congr L h]
theorem back_sub : ∀ {L : List ChD} {w : List Rf} {r : Rf}, r ∈ back L w → r ∈ refsOf L
  | [], _, _, h => by simp [back] at h
  | c :: L, w, r, h => by
    simp only [refsOf, List.map_cons, List.mem_cons]
    rw [back] at h
    split at h
    · rcases List.mem_cons.1 h with h | h
      · exact .inl h
      · exact .inr (back_sub h)
    · exact .inr (back_sub h)
theorem back_union : ∀ (L : List ChD) (u v : List Rf) (r : Rf), r ∈ back L (u ++ v) ↔ r ∈ back L u ∨ r ∈ back L v
  | [], u, v, r => by simp [back]
  | c :: L, u, v, r => by
    have e : ∀ {a b : List Rf}, (∀ r, r ∈ a ↔ r ∈ b) → back L a = back L b := fun h => back_congr L h
    by_cases hu : c.rf ∈ u <;> by_cases hv : c.rf ∈ v
    · rw [back, back, back, if_pos (by simp [hu]), if_pos hu, if_pos hv, e (b := (u ++ c.deps) ++ (v ++ c.deps)) (by intro r; simp only [List.mem_append]; grind)]
      rw [List.mem_cons, List.mem_cons, List.mem_cons, back_union L]
      constructor
      · rintro (h | h | h)
        · exact .inl (.inl h)
        · exact .inl (.inr h)
        · exact .inr (.inr h)
      · rintro ((h | h) | (h | h))
        · exact .inl h
        · exact .inr (.inl h)
        · exact .inl h
        · exact .inr (.inr h)
    · rw [back, back, back, if_pos (by simp [hu]), if_pos hu, if_neg hv, e (b := (u ++ c.deps) ++ v) (by intro r; simp only [List.mem_append]; grind)]
      rw [List.mem_cons, List.mem_cons, back_union L, or_assoc]
    · rw [back, back, back, if_pos (by simp [hv]), if_neg hu, if_pos hv, e (b := u ++ (v ++ c.deps)) (by intro r; simp only [List.mem_append]; grind)]
      rw [List.mem_cons, List.mem_cons, back_union L]
      constructor
      · rintro (h | h | h)
        · exact .inr (.inl h)
        · exact .inl h
        · exact .inr (.inr h)
      · rintro (h | h | h)
        · exact .inr (.inl h)
        · exact .inl h
        · exact .inr (.inr h)
    · rw [back, back, back, if_neg (by simp [hu, hv]), if_neg hu, if_neg hv, back_union L]
theorem back_nil : ∀ (L : List ChD), back L [] = []
  | [] => rfl
  | c :: L => by rw [back, if_neg (by simp), back_nil L]
theorem back_each (L : List ChD) (r : Rf) : ∀ (w : List Rf), r ∈ back L w ↔ ∃ h ∈ w, r ∈ back L [h]
  | [] => by simp [back_nil]
  | x :: w => by
    rw [show x :: w = [x] ++ w from rfl, back_union, back_each L r w]
    simp
theorem back_head : ∀ {L : List ChD} {w : List Rf} {r : Rf}, r ∈ w → r ∈ refsOf L → r ∈ back L w
  | [], _, _, _, h => by simp [refsOf] at h
  | c :: L, w, r, hw, h => by
    rw [back]
    simp only [refsOf, List.map_cons, List.mem_cons] at h
    split
    · rcases h with h | h
      · rw [h]; exact List.mem_cons_self ..
      · exact List.mem_cons_of_mem _ (back_head (List.mem_append_left _ hw) h)
    · rename_i hc
      rcases h with h | h
      · rw [h] at hw; exact absurd hw hc
      · exact back_head hw h
/-- the latest first; what each hangs on comes behind it -/
def TopR : List ChD → Prop
  | [] => True
  | c :: L => (∀ d ∈ c.deps, d ∈ refsOf L) ∧ c.rf ∉ refsOf L ∧ TopR L
theorem mem_refs {L : List ChD} {c : ChD} (h : c ∈ L) : c.rf ∈ refsOf L := List.mem_map_of_mem h
theorem back_closed : ∀ {L : List ChD} {w : List Rf}, TopR L → ∀ {c : ChD}, c ∈ L → c.rf ∈ back L w → ∀ {d : Rf}, d ∈ c.deps → d ∈ back L w
  | [], _, _, _, h, _, _, _ => by cases h
  | x :: L, w, ⟨h1, h2, h3⟩, c, hc, hb, d, hd => by
    rw [back] at hb ⊢
    by_cases hx : x.rf ∈ w
    · rw [if_pos hx] at hb ⊢
      rcases List.mem_cons.1 hc with e | hc
      · subst e
        exact List.mem_cons_of_mem _ (back_head (List.mem_append_right _ hd) (h1 d hd))
      · rcases List.mem_cons.1 hb with e | hb
        · exact absurd (e ▸ mem_refs hc) h2
        · exact List.mem_cons_of_mem _ (back_closed h3 hc hb hd)
    · rw [if_neg hx] at hb ⊢
      rcases List.mem_cons.1 hc with e | hc
      · subst e
        exact absurd (back_sub hb) h2
      · exact back_closed h3 hc hb hd
theorem back_least : ∀ {L : List ChD} {w : List Rf} (S : Rf → Prop), (∀ r ∈ w, r ∈ refsOf L → S r) → (∀ c ∈ L, S c.rf → ∀ d ∈ c.deps, d ∈ refsOf L → S d) → ∀ r ∈ back L w, S r
  | [], _, _, _, _, r, h => by simp [back] at h
  | x :: L, w, S, h1, h2, r, h => by
    have hr : ∀ {r}, r ∈ refsOf L → r ∈ refsOf (x :: L) := fun h => by simp only [refsOf, List.map_cons, List.mem_cons]; exact .inr h
    have h2' : ∀ c ∈ L, S c.rf → ∀ d ∈ c.deps, d ∈ refsOf L → S d := fun c hc hs d hd hm => h2 c (List.mem_cons_of_mem _ hc) hs d hd (hr hm)
    rw [back] at h
    split at h
    · rename_i hx
      have hSx : S x.rf := h1 _ hx (mem_refs (List.mem_cons_self ..))
      rcases List.mem_cons.1 h with h | h
      · rw [h]; exact hSx
      · refine back_least (L := L) S (fun r hr' hm => ?_) h2' r h
        rcases List.mem_append.1 hr' with h' | h'
        · exact h1 r h' (hr hm)
        · exact h2 x (List.mem_cons_self ..) hSx r h' (hr hm)
    · exact back_least (L := L) S (fun r hr' hm => h1 r hr' (hr hm)) h2' r h
/-- what is behind what is behind, is behind -/
theorem back_trans {L : List ChD} {w : List Rf} (ht : TopR L) {q : Rf} (hq : q ∈ back L w) {r : Rf} (hr : r ∈ back L [q]) : r ∈ back L w := by
  refine back_least (fun r => r ∈ back L w) (fun x hx _ => ?_) (fun c hc hs d hd _ => back_closed ht hc hs hd) r hr
  rw [List.mem_singleton.1 hx]; exact hq
theorem refsOf_append (A B : List ChD) : refsOf (A ++ B) = refsOf A ++ refsOf B := by simp [refsOf]
theorem refsOf_reverse (A : List ChD) : refsOf A.reverse = (refsOf A).reverse := by simp [refsOf]
theorem ready_mem {L : List ChD} {c : ChD} (h : readyP L c = true) : ∀ d ∈ c.deps, d ∈ refsOf L := fun d hd => by
  have := List.all_eq_true.1 h d hd
  simpa using this
theorem Bk.top {L : List ChD} (h : Bk L) : TopR L.reverse := by
  induction h with
  | nil => trivial
  | @snoc L c hb _ _ hn hr _ ih =>
    rw [List.reverse_append]
    show TopR (c :: L.reverse)
    exact ⟨fun d hd => by rw [refsOf_reverse]; exact List.mem_reverse.2 (ready_mem hr d hd), by rw [refsOf_reverse]; exact fun h => hn (List.mem_reverse.1 h), ih⟩
theorem Bk.nodup {L : List ChD} (h : Bk L) : (refsOf L).Nodup := by
  induction h with
  | nil => simp [refsOf]
  | @snoc L c hb _ _ hn hr _ ih =>
    rw [refsOf_append, List.nodup_append]
    refine ⟨ih, by simp [refsOf], fun a ha b hb' e => ?_⟩
    simp [refsOf] at hb'
    exact hn (by rw [← hb', ← e]; exact ha)
theorem Bk.err {L : List ChD} (h : Bk L) : ∀ c ∈ L, c.err = 0 ∧ ∀ o ∈ c.ops, (Lit.int .i64 o.vn).wf = true := by
  induction h with
  | nil => intro c hc; cases hc
  | @snoc L c hb he hw hn hr _ ih =>
    intro x hx
    rcases List.mem_append.1 hx with hx | hx
    · exact ih x hx
    · rw [List.mem_singleton.1 hx]; exact ⟨he, hw⟩
theorem behind_snoc (L : List ChD) (c : ChD) (hs : List Rf) : behindP (L ++ [c]) hs = if c.rf ∈ hs then c.rf :: behindP L (hs ++ c.deps) else behindP L hs := by
  unfold behindP; rw [List.reverse_append]; rfl
theorem behind_sub {L : List ChD} {hs : List Rf} {r : Rf} (h : r ∈ behindP L hs) : r ∈ refsOf L := by
  have := back_sub h; rw [refsOf_reverse] at this; exact List.mem_reverse.1 this
theorem behind_head {L : List ChD} {hs : List Rf} {r : Rf} (h : r ∈ hs) (hm : r ∈ refsOf L) : r ∈ behindP L hs := back_head h (by rw [refsOf_reverse]; exact List.mem_reverse.2 hm)
theorem Bk.deps {L : List ChD} (h : Bk L) : ∀ c ∈ L, ∀ d ∈ c.deps, d ∈ refsOf L := by
  induction h with
  | nil => intro c hc; cases hc
  | @snoc L c hb he hw hn hr _ ih =>
    intro x hx d hd
    rw [refsOf_append]
    rcases List.mem_append.1 hx with hx | hx
    · exact List.mem_append_left _ (ih x hx d hd)
    · rw [List.mem_singleton.1 hx] at hd; exact List.mem_append_left _ (ready_mem hr d hd)
/-- of one actor an earlier one is behind each later one -/
theorem Bk.chain {L : List ChD} (h : Bk L) : ∀ c ∈ L, ∀ s, 1 ≤ s → s < c.s → (c.a, s) ∈ behindP L c.deps := by
  induction h with
  | nil => intro c hc; cases hc
  | @snoc L c hb he hw hn hr hf ih =>
    intro x hx s h1 hs
    have hnot : ∀ {hs : List Rf}, (∀ r ∈ hs, r ∈ refsOf L) → behindP (L ++ [c]) hs = behindP L hs := fun hh => by rw [behind_snoc, if_neg (fun e => hn (hh _ e))]
    rcases List.mem_append.1 hx with hx | hx
    · rw [hnot (hb.deps x hx)]; exact ih x hx s h1 hs
    · obtain rfl : x = c := List.mem_singleton.1 hx
      rw [hnot (ready_mem hr)]
      have hp : prevOkP x (behindP L x.deps) = true := by
        simp only [fitsP, fitsIn, Bool.and_eq_true] at hf; exact hf.1.1.2
      have h1s : 1 < x.s := by omega
      have hq : (x.a, x.s - 1) ∈ behindP L x.deps := by
        simp only [prevOkP, h1s, decide_true, Bool.true_and, Bool.not_not, List.any_eq_true, Bool.and_eq_true, decide_eq_true_eq] at hp
        obtain ⟨r, hr', e1, e2⟩ := hp
        have : r = (x.a, x.s - 1) := by rw [← e1, ← e2]
        rw [← this]; exact hr'
      by_cases e : s = x.s - 1
      · rw [e]; exact hq
      · obtain ⟨y, hy, ey⟩ := List.mem_map.1 (behind_sub hq)
        have ea : y.a = x.a := congrArg Prod.fst ey
        have es : y.s = x.s - 1 := congrArg Prod.snd ey
        have h2 := ih y hy s h1 (by omega)
        rw [ea] at h2
        have h3 : (x.a, s) ∈ back L.reverse [y.rf] := by
          obtain ⟨d, hd, h4⟩ := (back_each L.reverse _ _).1 h2
          exact back_trans hb.top (back_closed hb.top (List.mem_reverse.2 hy) (back_head (by simp) (by rw [refsOf_reverse]; exact List.mem_reverse.2 (mem_refs hy))) hd) h4
        exact back_trans hb.top hq (by rw [← ey]; exact h3)
theorem idsFrom_mem {a : Int} : ∀ {l : List OpD} {st : Int} {x : OpI}, x ∈ idsFrom a st l → x.2.2 = a ∧ st ≤ x.2.1 ∧ x.2.1 < st + l.length ∧ x.1 ∈ l
  | [], _, _, h => by cases h
  | o :: l, st, x, h => by
    rcases List.mem_cons.1 h with rfl | h
    · exact ⟨rfl, Int.le_refl _, by simp only [List.length_cons]; omega, List.mem_cons_self ..⟩
    · obtain ⟨h1, h2, h3, h4⟩ := idsFrom_mem h
      exact ⟨h1, by omega, by simp only [List.length_cons]; omega, List.mem_cons_of_mem _ h4⟩
theorem idsFrom_nodup (a : Int) : ∀ (l : List OpD) (st : Int), ((idsFrom a st l).map Prod.snd).Nodup
  | [], _ => by simp [idsFrom]
  | o :: l, st => by
    rw [idsFrom, List.map_cons, List.nodup_cons]
    refine ⟨fun h => ?_, idsFrom_nodup a l _⟩
    obtain ⟨x, hx, e⟩ := List.mem_map.1 h
    have := (idsFrom_mem hx).2.1
    rw [e] at this
    simp only at this
    omega
/-- the ops of what is behind have lesser numbers -/
theorem Bk.less {L : List ChD} (h : Bk L) : ∀ c ∈ L, ∀ b ∈ L, b.rf ∈ behindP L c.deps → ∀ x ∈ b.opsI, x.2.1 < c.st := by
  induction h with
  | nil => intro c hc; cases hc
  | @snoc L c hb he hw hn hr hf ih =>
    intro y hy b hbm hbb x hx
    have hnot : ∀ {hs : List Rf}, (∀ r ∈ hs, r ∈ refsOf L) → behindP (L ++ [c]) hs = behindP L hs := fun hh => by rw [behind_snoc, if_neg (fun e => hn (hh _ e))]
    have hd : ∀ d ∈ y.deps, d ∈ refsOf L := by
      rcases List.mem_append.1 hy with hy | hy
      · exact hb.deps y hy
      · rw [List.mem_singleton.1 hy]; exact ready_mem hr
    rw [hnot hd] at hbb
    have hbL : b ∈ L := by
      rcases List.mem_append.1 hbm with h | h
      · exact h
      · rw [List.mem_singleton.1 h] at hbb; exact absurd (behind_sub hbb) hn
    rcases List.mem_append.1 hy with hy | hy
    · exact ih y hy b hbL hbb x hx
    · rw [List.mem_singleton.1 hy] at hbb ⊢
      have h1 : (knownP L (behindP L c.deps)).all (fun x => decide (x.2.1 < c.st)) = true := by
        simp only [fitsP, fitsIn, Bool.and_eq_true] at hf; exact hf.1.2
      have h2 := List.all_eq_true.1 h1 x (List.mem_flatMap.2 ⟨b, List.mem_filter.2 ⟨hbL, by simpa using hbb⟩, hx⟩)
      simpa using h2
theorem err_rf {c : ChD} (h : c.err = 0) : isRef c.rf = true ∧ 1 ≤ c.st := by
  unfold ChD.err chgE at h
  obtain ⟨h1, h⟩ := ite_zero h (by omega)
  exact ⟨by cases hx : isRef c.rf; exact absurd (Or.inl hx) h1; rfl, by omega⟩
theorem isRef_bd {r : Rf} (h : isRef r = true) : (1 ≤ r.1 ∧ r.1 ≤ 99) ∧ 1 ≤ r.2 ∧ r.2 ≤ 1000000 := by
  simpa [isRef] using h
/-- no id stands twice -/
theorem Bk.ids {L : List ChD} (h : Bk L) : ((L.flatMap ChD.opsI).map Prod.snd).Nodup := by
  have key : ∀ c ∈ L, ∀ b ∈ L, b.a = c.a → b.s < c.s → ∀ x ∈ b.opsI, x.2.1 < c.st := fun c hc b hb' ea es x hx => by
    have h1 := (isRef_bd (err_rf (h.err b hb').1).1).2.1
    have h2 := h.chain c hc b.s h1 es
    rw [← ea] at h2
    exact h.less c hc b hb' h2 x hx
  have hn := h.nodup
  have : L.Pairwise fun b c => b.rf ≠ c.rf := by
    rw [refsOf, List.Nodup, List.pairwise_map] at hn; exact hn
  have h2 : L.Pairwise fun b c => b ∈ L ∧ c ∈ L ∧ b.rf ≠ c.rf := this.imp_of_mem fun hb hc hne => ⟨hb, hc, hne⟩
  rw [List.Nodup, List.pairwise_map, List.pairwise_flatMap]
  refine ⟨fun c hc => ?_, h2.imp fun {b c} ⟨hb, hc, hne⟩ x hx y hy e => ?_⟩
  · have := idsFrom_nodup c.a c.ops c.st
    rw [List.Nodup, List.pairwise_map] at this
    exact this
  · have h3 := idsFrom_mem hx
    have h4 := idsFrom_mem hy
    have ea : b.a = c.a := by rw [← h3.1, ← h4.1, e]
    have en : x.2.1 = y.2.1 := by rw [e]
    rcases Int.lt_trichotomy b.s c.s with hs | hs | hs
    · have := key c hc b hb ea hs x hx; omega
    · exact hne (by unfold ChD.rf; rw [ea, hs])
    · have := key b hb c hc ea.symm hs y hy; omega

/-! ### the least of those that may be taken -/
theorem aheadR_trans {a b c : Rf} (h1 : aheadR a b = true) (h2 : aheadR b c = true) : aheadR a c = true := by
  simp only [aheadR, decide_eq_true_eq] at *; omega
theorem aheadR_irrefl (a : Rf) : aheadR a a = false := by simp only [aheadR, decide_eq_false_iff_not]; omega
theorem aheadR_total {a b : Rf} (h : a ≠ b) : aheadR a b = true ∨ aheadR b a = true := by
  obtain ⟨a1, a2⟩ := a
  obtain ⟨b1, b2⟩ := b
  simp only [aheadR, decide_eq_true_eq, ne_eq, Prod.mk.injEq] at *; omega
def LeastOf (p : ChD → Bool) (W : List ChD) (best : Option (Nat × Rf)) : Prop :=
  match best with
  | none => ∀ c ∈ W, p c = false
  | some (i, r) => ∃ c, W[i]? = some c ∧ c.rf = r ∧ p c = true ∧ ∀ d ∈ W, p d = true → aheadR d.rf r = false
theorem leastGo_of (p : ChD → Bool) : ∀ (W V : List ChD) (best : Option (Nat × Rf)), LeastOf p V best → LeastOf p (V ++ W) (leastGo p W V.length best)
  | [], V, best, h => by simpa [leastGo] using h
  | c :: W, V, best, h => by
    unfold leastGo
    have e : V ++ c :: W = (V ++ [c]) ++ W := by simp
    have el : V.length + 1 = (V ++ [c]).length := by simp
    rw [e, el]
    refine leastGo_of p W (V ++ [c]) _ ?_
    cases hp : p c with
    | false =>
      simp only [Bool.false_and, Bool.false_eq_true, if_false]
      cases best with
      | none =>
        intro d hd
        rcases List.mem_append.1 hd with hd | hd
        · exact h d hd
        · rw [List.mem_singleton.1 hd]; exact hp
      | some b =>
        obtain ⟨i, r⟩ := b
        obtain ⟨x, h1, h2, h3, h4⟩ := h
        refine ⟨x, by rw [List.getElem?_append_left (List.getElem?_eq_some_iff.1 h1).1]; exact h1, h2, h3, fun d hd hpd => ?_⟩
        rcases List.mem_append.1 hd with hd | hd
        · exact h4 d hd hpd
        · rw [List.mem_singleton.1 hd, hp] at hpd; cases hpd
    | true =>
      cases best with
      | none =>
        simp only [Bool.and_self, if_true]
        refine ⟨c, by simp, rfl, hp, fun d hd hpd => ?_⟩
        rcases List.mem_append.1 hd with hd | hd
        · rw [h d hd] at hpd; cases hpd
        · rw [List.mem_singleton.1 hd]; exact aheadR_irrefl _
      | some b =>
        obtain ⟨i, r⟩ := b
        obtain ⟨x, h1, h2, h3, h4⟩ := h
        simp only [Bool.true_and]
        cases ha : aheadR c.rf r with
        | true =>
          rw [if_pos rfl]
          refine ⟨c, by simp, rfl, hp, fun d hd hpd => ?_⟩
          rcases List.mem_append.1 hd with hd | hd
          · cases hx : aheadR d.rf c.rf with
            | false => rfl
            | true => have := aheadR_trans hx ha; rw [h4 d hd hpd] at this; cases this
          · rw [List.mem_singleton.1 hd]; exact aheadR_irrefl _
        | false =>
          rw [if_neg (by simp)]
          refine ⟨x, by rw [List.getElem?_append_left (List.getElem?_eq_some_iff.1 h1).1]; exact h1, h2, h3, fun d hd hpd => ?_⟩
          rcases List.mem_append.1 hd with hd | hd
          · exact h4 d hd hpd
          · rw [List.mem_singleton.1 hd]; exact ha
theorem leastAt_of (p : ChD → Bool) (W : List ChD) : LeastOf p W (leastAt p W) := by
  have := leastGo_of p W [] none (fun c hc => by cases hc)
  simpa [leastAt] using this
theorem leastAt_none {p : ChD → Bool} {W : List ChD} (h : leastAt p W = none) : ∀ c ∈ W, p c = false := by
  have := leastAt_of p W; rw [h] at this; exact this
theorem leastAt_some {p : ChD → Bool} {W : List ChD} {i : Nat} {r : Rf} (h : leastAt p W = some (i, r)) : ∃ c, W[i]? = some c ∧ c.rf = r ∧ p c = true ∧ ∀ d ∈ W, p d = true → aheadR d.rf r = false := by
  have := leastAt_of p W; rw [h] at this; exact this
/-- it is the least one: with no ref twice there is no other -/
theorem leastAt_is {p : ChD → Bool} {W : List ChD} (hn : (refsOf W).Nodup) {i : Nat} {c : ChD} (hi : W[i]? = some c) (hp : p c = true) (hl : ∀ d ∈ W, p d = true → aheadR d.rf c.rf = false) : leastAt p W = some (i, c.rf) := by
  cases h : leastAt p W with
  | none => have := leastAt_none h c (List.mem_of_getElem? hi); rw [hp] at this; cases this
  | some b =>
    obtain ⟨j, r⟩ := b
    obtain ⟨d, h1, h2, h3, h4⟩ := leastAt_some h
    have e : d.rf = c.rf := by
      by_cases e : d.rf = c.rf
      · exact e
      · rcases aheadR_total e with h | h
        · rw [hl d (List.mem_of_getElem? h1) h3] at h; cases h
        · rw [← h2] at h4; rw [h4 c (List.mem_of_getElem? hi) hp] at h; cases h
    have hij : i = j := by
      have e1 : (refsOf W)[i]? = some c.rf := by simp [refsOf, hi]
      have e2 : (refsOf W)[j]? = some c.rf := by simp [refsOf, h1, e]
      obtain ⟨l1, e1⟩ := List.getElem?_eq_some_iff.1 e1
      obtain ⟨l2, e2⟩ := List.getElem?_eq_some_iff.1 e2
      exact (List.getElem_inj hn).1 (e1.trans e2.symm)
    rw [hij, ← h2, e]

/-! ### what a book keeps to -/
structure Inv (L W : List ChD) : Prop where
  bk : Bk L
  good : ∀ c ∈ W, c.err = 0 ∧ ∀ o ∈ c.ops, (Lit.int .i64 o.vn).wf = true
  nd : (refsOf W).Nodup
  apart : ∀ c ∈ W, c.rf ∉ refsOf L
  most : L.length + W.length ≤ 120
theorem Inv.nil : Inv [] [] := ⟨.nil, by simp, by simp [refsOf], by simp, by simp⟩
theorem findC_none {L : List ChD} {r : Rf} : findC L r = none ↔ r ∉ refsOf L := by
  unfold findC refsOf
  rw [List.find?_eq_none]
  constructor
  · intro h hm
    obtain ⟨c, hc, e⟩ := List.mem_map.1 hm
    exact h c hc (by simpa using e)
  · intro h c hc e
    exact h (List.mem_map.2 ⟨c, hc, by simpa using e⟩)
theorem findC_some {L : List ChD} {r : Rf} {c : ChD} (h : findC L r = some c) : c ∈ L ∧ c.rf = r := ⟨List.mem_of_find?_eq_some h, by simpa using List.find?_some h⟩
theorem mem_eraseIdx_of {α : Type} {l : List α} {i : Nat} {x : α} (h : x ∈ l.eraseIdx i) : x ∈ l := (List.eraseIdx_sublist _ _).subset h
theorem eraseIdx_refs (W : List ChD) (i : Nat) : refsOf (W.eraseIdx i) = (refsOf W).eraseIdx i := by
  unfold refsOf
  induction W generalizing i with
  | nil => rfl
  | cons x W ih => cases i with
    | zero => rfl
    | succ i => simp only [List.eraseIdx_cons_succ, List.map_cons, ih]
theorem erased_not {W : List ChD} (hn : (refsOf W).Nodup) {i : Nat} {x : ChD} (hi : W[i]? = some x) : ∀ c ∈ W.eraseIdx i, c.rf ≠ x.rf := by
  intro c hc e
  obtain ⟨j, hne, hj⟩ := List.mem_eraseIdx_iff_getElem?.1 hc
  have e1 : (refsOf W)[i]? = some x.rf := by simp [refsOf, hi]
  have e2 : (refsOf W)[j]? = some x.rf := by simp [refsOf, hj, e]
  obtain ⟨l1, e1⟩ := List.getElem?_eq_some_iff.1 e1
  obtain ⟨l2, e2⟩ := List.getElem?_eq_some_iff.1 e2
  exact hne ((List.getElem_inj hn).1 (e2.trans e1.symm))
theorem Inv.drop {L W : List ChD} (h : Inv L W) (i : Nat) : Inv L (W.eraseIdx i) :=
  ⟨h.bk, fun c hc => h.good c (mem_eraseIdx_of hc), by rw [eraseIdx_refs]; exact h.nd.sublist (List.eraseIdx_sublist _ _), fun c hc => h.apart c (mem_eraseIdx_of hc), by
    have := h.most; have := List.length_eraseIdx_le W i; omega⟩
theorem Inv.move {L W : List ChD} (h : Inv L W) {i : Nat} {x : ChD} (hi : W[i]? = some x) (hr : readyP L x = true) (hf : fitsP L x = true) : Inv (L ++ [x]) (W.eraseIdx i) := by
  have hx := List.mem_of_getElem? hi
  have hd := h.drop i
  refine ⟨.snoc h.bk (h.good x hx).1 (h.good x hx).2 (h.apart x hx) hr hf, hd.good, hd.nd, fun c hc => ?_, ?_⟩
  · rw [refsOf_append]
    intro hm
    rcases List.mem_append.1 hm with hm | hm
    · exact hd.apart c hc hm
    · exact erased_not h.nd hi c hc (by simpa [refsOf] using hm)
  · have := h.most
    have h1 := (List.getElem?_eq_some_iff.1 hi).1
    have h2 := List.length_eraseIdx_of_lt h1
    rw [List.length_append, h2]
    simp only [List.length_cons, List.length_nil]
    omega
theorem settle_inv : ∀ (n : Nat) {L W : List ChD}, Inv L W → Inv (settle n L W).1 (settle n L W).2
  | 0, _, _, h => h
  | n + 1, L, W, h => by
    rw [settle]
    cases hl : leastAt (readyP L) W with
    | none => exact h
    | some b =>
      obtain ⟨i, r⟩ := b
      obtain ⟨x, hi, _, hr, _⟩ := leastAt_some hl
      simp only [hi]
      cases hf : fitsP L x with
      | true => rw [if_pos rfl]; exact settle_inv n (h.move hi hr hf)
      | false => rw [if_neg (by simp)]; exact settle_inv n (h.drop i)
theorem takeP_inv {L W : List ChD} (h : Inv L W) {c : ChD} (hw : ∀ o ∈ c.ops, (Lit.int .i64 o.vn).wf = true) : Inv (takeP L W c).1.1 (takeP L W c).1.2 := by
  unfold takeP
  by_cases he : c.err ≠ 0
  · rw [if_pos he]; exact h
  rw [if_neg he]
  cases h1 : findC L c.rf with
  | some d => exact h
  | none =>
    simp only
    cases h2 : findC W c.rf with
    | some d => exact h
    | none =>
      simp only
      by_cases h3 : 120 ≤ L.length + W.length
      · rw [if_pos h3]; exact h
      rw [if_neg h3]
      have n1 := findC_none.1 h1
      have n2 := findC_none.1 h2
      have he' : c.err = 0 := by omega
      cases hr : readyP L c with
      | false =>
        rw [if_pos rfl]
        refine ⟨h.bk, fun x hx => ?_, ?_, fun x hx => ?_, by simp; omega⟩
        · rcases List.mem_append.1 hx with hx | hx
          · exact h.good x hx
          · rw [List.mem_singleton.1 hx]; exact ⟨he', hw⟩
        · rw [refsOf_append, List.nodup_append]
          refine ⟨h.nd, by simp [refsOf], fun a ha b hb e => ?_⟩
          simp [refsOf] at hb
          exact n2 (by rw [← hb, ← e]; exact ha)
        · rcases List.mem_append.1 hx with hx | hx
          · exact h.apart x hx
          · rw [List.mem_singleton.1 hx]; exact n1
      | true =>
        rw [if_neg (by simp)]
        cases hf : fitsP L c with
        | false => rw [if_pos rfl]; exact h
        | true =>
          rw [if_neg (by simp)]
          refine settle_inv _ ⟨.snoc h.bk he' hw n1 hr hf, h.good, h.nd, fun x hx => ?_, by simp; omega⟩
          rw [refsOf_append]
          intro hm
          rcases List.mem_append.1 hm with hm | hm
          · exact h.apart x hx hm
          · simp [refsOf] at hm
            exact n2 (by rw [← hm]; exact mem_refs hx)
end Go.Proofs.YtclgfcjcpbiadaaGreatDoor

namespace Go.Proofs.YtclgfcjcpbiadaaGreatDoor
open Go.RowKit

/-- the bytes from i to j -/
def Tak (l : List UInt8) (i j : Nat) (bs : List UInt8) : Prop := l.drop i = bs ++ l.drop j ∧ j = i + bs.length
theorem Tak.app {l a b : List UInt8} {i j : Nat} : Tak l i j (a ++ b) ↔ ∃ k, Tak l i k a ∧ Tak l k j b := by
  constructor
  · rintro ⟨h1, h2⟩
    rw [List.append_assoc] at h1
    have h3 : l.drop (i + a.length) = b ++ l.drop j := by rw [← List.drop_drop, h1, List.drop_left]
    rw [List.length_append] at h2
    exact ⟨i + a.length, ⟨by rw [h3]; exact h1, rfl⟩, h3, by omega⟩
  · rintro ⟨k, ⟨h1, h2⟩, h3, h4⟩
    exact ⟨by rw [h1, h3, List.append_assoc], by rw [List.length_append]; omega⟩
theorem Tak.nil {l : List UInt8} {i j : Nat} : Tak l i j [] ↔ j = i := by
  constructor
  · rintro ⟨_, h⟩; simpa using h
  · rintro rfl; exact ⟨rfl, rfl⟩
theorem Tak.len {l a : List UInt8} {i j : Nat} (h : Tak l i j a) (hi : i ≤ l.length) : j ≤ l.length := by
  have := congrArg List.length h.1
  have h2 := h.2
  simp only [List.length_drop, List.length_append] at this
  by_cases h0 : a.length = 0
  · omega
  · omega
theorem num_tak {l : List UInt8} {most i j n : Nat} {b : Bool} (hm : most < 2 ^ 64) : rdNum l most i b = (n, j, false) ↔ b = false ∧ n ≤ most ∧ Tak l i j (putN n) := by
  cases b with
  | true => simp [rdNum]
  | false =>
    simp only [rdNum, Bool.false_eq_true, if_false, true_and]
    constructor
    · intro h
      cases hg : getN (l.drop i) with
      | none => rw [hg] at h; simp at h
      | some x =>
        obtain ⟨m, k⟩ := x
        rw [hg] at h
        simp only at h
        split at h
        · rename_i hm
          simp only [Prod.mk.injEq, and_true] at h
          obtain ⟨rfl, rfl⟩ := h
          have hk := (getN_at hg).2
          have ht := putN_getN hg
          refine ⟨hm, ?_, ?_⟩
          · rw [← ht, ← List.drop_drop, List.take_append_drop]
          · rw [← ht, List.length_take]; omega
        · simp at h
    · rintro ⟨h1, h2, h3⟩
      rw [h2, getN_putN n _ (by omega)]
      simp only [if_pos h1, h3]
theorem int_tak {l : List UInt8} {i j : Nat} {x : Int} {b : Bool} : rdInt l i b = (x, j, false) ↔ b = false ∧ (-9223372036854775808 ≤ x ∧ x ≤ 9223372036854775807) ∧ Tak l i j (putS x) := by
  cases b with
  | true => simp [rdInt]
  | false =>
    constructor
    · intro h
      have hb := rdInt_bd (l := l) (at_ := i) (bad := false)
      rw [h] at hb
      refine ⟨rfl, hb, ?_⟩
      simp only [rdInt, Bool.false_eq_true, if_false] at h
      unfold getS at h
      cases hg : getN (l.drop i) with
      | none => rw [hg] at h; simp at h
      | some y =>
        obtain ⟨m, k⟩ := y
        rw [hg] at h
        simp only [Option.map_some, Prod.mk.injEq, and_true] at h
        obtain ⟨rfl, rfl⟩ := h
        have hk := (getN_at hg).2
        have ht := putN_getN hg
        rw [putS, zz_unzz]
        refine ⟨?_, ?_⟩
        · rw [← ht, ← List.drop_drop, List.take_append_drop]
        · rw [← ht, List.length_take]; omega
    · rintro ⟨_, hb, h2, h3⟩
      simp only [rdInt, Bool.false_eq_true, if_false, getS]
      rw [h2, putS, getN_putN _ _ (zz_lt hb)]
      simp only [Option.map_some, unzz_zz]
      rw [h3, putS]
theorem text_tak {l t : List UInt8} {most i j : Nat} {b : Bool} (hm : most < 2 ^ 64) : rdText l most i b = (t, j, false) ↔ b = false ∧ t.length ≤ most ∧ Tak l i j (putN t.length ++ t) := by
  obtain ⟨n, a, b', hn⟩ : ∃ n a b', rdNum l most i b = (n, a, b') := ⟨_, _, _, rfl⟩
  constructor
  · intro h
    by_cases hc : b' = true ∨ l.length - a < n
    · rw [rdText_no hn hc] at h; simp at h
    · have hb : b' = false := by cases b' <;> simp_all
      subst hb
      rw [rdText_ok hn (by omega)] at h
      simp only [Prod.mk.injEq, and_true] at h
      obtain ⟨rfl, rfl⟩ := h
      have hl : ((l.drop a).take n).length = n := by rw [List.length_take, List.length_drop]; omega
      obtain ⟨h1, h2, h3⟩ := (num_tak hm).1 hn
      rw [hl]
      refine ⟨h1, h2, Tak.app.2 ⟨a, h3, ?_, by rw [hl]⟩⟩
      rw [← List.drop_drop, List.take_append_drop]
  · rintro ⟨h1, h2, h3⟩
    obtain ⟨k, h4, h5⟩ := Tak.app.1 h3
    have h6 := (num_tak (l := l) hm).2 ⟨h1, h2, h4⟩
    have h7 := congrArg List.length h5.1
    simp only [List.length_drop, List.length_append] at h7
    rw [rdText_ok h6 (by omega), h5.1, List.take_left, ← h5.2]
def pairR (m1 m2 : Nat) (r : Rf) : Prop := 0 ≤ r.1 ∧ r.1 ≤ m1 ∧ 0 ≤ r.2 ∧ r.2 ≤ m2
theorem numsL_cons (x : Int) (l : List Int) : numsL (x :: l) = putN x.toNat ++ numsL l := by simp [numsL]
theorem numsL_nil : numsL [] = [] := rfl
theorem pair_tak {l : List UInt8} {m1 m2 i j : Nat} {b : Bool} {r : Rf} (h1 : m1 < 2 ^ 64) (h2 : m2 < 2 ^ 64) : rdPair l m1 m2 (i, b) = (r, (j, false)) ↔ b = false ∧ pairR m1 m2 r ∧ Tak l i j (pairB r) := by
  obtain ⟨n1, a1, b1, e1⟩ : ∃ n a b', rdNum l m1 i b = (n, a, b') := ⟨_, _, _, rfl⟩
  obtain ⟨n2, a2, b2, e2⟩ : ∃ n a b', rdNum l m2 a1 b1 = (n, a, b') := ⟨_, _, _, rfl⟩
  obtain ⟨x, y⟩ := r
  simp only [pairB, numsL_cons, numsL_nil, List.append_nil]
  constructor
  · intro h
    rw [rdPair_of e1 e2] at h
    simp only [Prod.mk.injEq] at h
    obtain ⟨⟨rfl, rfl⟩, rfl, rfl⟩ := h
    obtain ⟨rfl, k1, k2⟩ := (num_tak h2).1 e2
    obtain ⟨k3, k4, k5⟩ := (num_tak h1).1 e1
    exact ⟨k3, ⟨by simp, by simpa using k4, by simp, by simpa using k1⟩, Tak.app.2 ⟨a1, by simpa using k5, by simpa using k2⟩⟩
  · rintro ⟨k1, ⟨k2, k3, k4, k5⟩, k6⟩
    simp only at k2 k3 k4 k5
    obtain ⟨a, k7, k8⟩ := Tak.app.1 k6
    have e1 := (num_tak (l := l) h1).2 ⟨k1, by omega, k7⟩
    have e2 := (num_tak (l := l) (b := false) h2).2 ⟨rfl, by omega, k8⟩
    rw [rdPair_of e1 e2, Int.toNat_of_nonneg k2, Int.toNat_of_nonneg k4]
theorem pairs_tak {l : List UInt8} {m1 m2 : Nat} (h1 : m1 < 2 ^ 64) (h2 : m2 < 2 ^ 64) : ∀ (n i j : Nat) (b : Bool) (L : List Rf), rdPairs l m1 m2 (i, b) n = (L, (j, false)) ↔ b = false ∧ L.length = n ∧ (∀ r ∈ L, pairR m1 m2 r) ∧ Tak l i j (L.flatMap pairB)
  | 0, i, j, b, L => by
    simp only [rdPairs]
    constructor
    · intro h
      simp only [Prod.mk.injEq] at h
      obtain ⟨rfl, rfl, rfl⟩ := h
      exact ⟨rfl, rfl, by simp, Tak.nil.2 rfl⟩
    · rintro ⟨rfl, k2, _, k4⟩
      obtain rfl : L = [] := List.length_eq_zero_iff.1 k2
      obtain rfl := Tak.nil.1 k4
      rfl
  | n + 1, i, j, b, L => by
    obtain ⟨L', a', b', e1⟩ : ∃ L a b', rdPairs l m1 m2 (i, b) n = (L, (a, b')) := ⟨_, _, _, rfl⟩
    obtain ⟨r, a2, b2, e2⟩ : ∃ r a b2, rdPair l m1 m2 (a', b') = (r, (a, b2)) := ⟨_, _, _, rfl⟩
    constructor
    · intro h
      rw [rdPairs_next e1 e2] at h
      simp only [Prod.mk.injEq] at h
      obtain ⟨rfl, rfl, rfl⟩ := h
      obtain ⟨rfl, k1, k2⟩ := (pair_tak h1 h2).1 e2
      obtain ⟨k3, k4, k5, k6⟩ := (pairs_tak h1 h2 n _ _ _ _).1 e1
      refine ⟨k3, by simp [k4], fun x hx => ?_, ?_⟩
      · rcases List.mem_append.1 hx with hx | hx
        · exact k5 x hx
        · obtain rfl : x = r := by simpa using hx
          exact k1
      · rw [List.flatMap_append]
        exact Tak.app.2 ⟨a', k6, by simpa using k2⟩
    · rintro ⟨k1, k2, k3, k4⟩
      rcases List.eq_nil_or_concat L with rfl | ⟨L1, x, rfl⟩
      · simp at k2
      · rw [List.concat_eq_append] at k2 k3 k4 ⊢
        rw [List.flatMap_append] at k4
        obtain ⟨a, k5, k6⟩ := Tak.app.1 k4
        have f1 := (pairs_tak h1 h2 n i a b L1).2 ⟨k1, by simpa using k2, fun r hr => k3 r (by simp [hr]), k5⟩
        have f2 := (pair_tak (l := l) (i := a) (j := j) (b := false) (r := x) h1 h2).2 ⟨rfl, k3 x (by simp), by simpa using k6⟩
        exact rdPairs_next f1 f2
/-- an op as it is read -/
structure OpR (o : OpD) : Prop where
  k : 0 ≤ o.k ∧ o.k ≤ 4
  ob : pairR 1000000 99 (o.on, o.oa)
  key : o.key.size ≤ 20
  el : pairR 1000000 99 (o.en, o.ea)
  vk : 0 ≤ o.vk ∧ o.vk ≤ 6
  vn : -9223372036854775808 ≤ o.vn ∧ o.vn ≤ 9223372036854775807
  vt : o.vt.size ≤ 60
  v : o.va = 0 ∧ o.vb = 0
  ll : o.l.length ≤ 12
  l : ∀ r ∈ o.l, pairR 1000000 99 r
  m : o.A = none ∧ o.c = 0
theorem size_data (s : ByteArray) : s.data.toList.length = s.size := by rw [ByteArray.size, Array.length_toList]
theorem bytes_eta (s : ByteArray) : (⟨s.data.toList.toArray⟩ : ByteArray) = s := by cases s; simp
theorem opB_split (o : OpD) : opB o = putN o.k.toNat ++ (pairB (o.on, o.oa) ++ ((putN o.key.data.toList.length ++ o.key.data.toList) ++ (pairB (o.en, o.ea) ++ (putN (inI o.ins).toNat ++ (putN o.vk.toNat ++ (putS o.vn ++ ((putN o.vt.data.toList.length ++ o.vt.data.toList) ++ (putN o.l.length ++ o.l.flatMap pairB)))))))) := by
  simp only [opB, pairB, numsL_cons, numsL_nil, List.append_nil, List.append_assoc, size_data, Int.toNat_natCast]
theorem op_tak {l : List UInt8} {i j : Nat} {b : Bool} {o : OpD} : rdOp l (i, b) = (o, (j, false)) ↔ b = false ∧ OpR o ∧ Tak l i j (opB o) := by
  rw [opB_split]
  constructor
  · intro h
    obtain ⟨n1, a1, b1, e1⟩ : ∃ n a b', rdNum l 4 i b = (n, a, b') := ⟨_, _, _, rfl⟩
    obtain ⟨⟨x2, y2⟩, a2, b2, e2⟩ : ∃ n a b', rdPair l 1000000 99 (a1, b1) = (n, (a, b')) := ⟨_, _, _, rfl⟩
    obtain ⟨t3, a3, b3, e3⟩ : ∃ n a b', rdText l 20 a2 b2 = (n, a, b') := ⟨_, _, _, rfl⟩
    obtain ⟨⟨x4, y4⟩, a4, b4, e4⟩ : ∃ n a b', rdPair l 1000000 99 (a3, b3) = (n, (a, b')) := ⟨_, _, _, rfl⟩
    obtain ⟨n5, a5, b5, e5⟩ : ∃ n a b', rdNum l 1 a4 b4 = (n, a, b') := ⟨_, _, _, rfl⟩
    obtain ⟨n6, a6, b6, e6⟩ : ∃ n a b', rdNum l 6 a5 b5 = (n, a, b') := ⟨_, _, _, rfl⟩
    obtain ⟨x7, a7, b7, e7⟩ : ∃ n a b', rdInt l a6 b6 = (n, a, b') := ⟨_, _, _, rfl⟩
    obtain ⟨t8, a8, b8, e8⟩ : ∃ n a b', rdText l 60 a7 b7 = (n, a, b') := ⟨_, _, _, rfl⟩
    obtain ⟨n9, a9, b9, e9⟩ : ∃ n a b', rdNum l 12 a8 b8 = (n, a, b') := ⟨_, _, _, rfl⟩
    obtain ⟨ps, a0, b0, e0⟩ : ∃ n a b', rdPairs l 1000000 99 (a9, b9) n9 = (n, (a, b')) := ⟨_, _, _, rfl⟩
    rw [rdOp_of2 e1 e2 e3 e4 e5 e6 e7 e8 e9 e0] at h
    simp only [Prod.mk.injEq] at h
    obtain ⟨rfl, rfl, rfl⟩ := h
    obtain ⟨rfl, f0, g0, h0⟩ := (pairs_tak (by decide) (by decide) _ _ _ _ _).1 e0
    obtain ⟨rfl, f9, g9⟩ := (num_tak (by decide)).1 e9
    obtain ⟨rfl, f8, g8⟩ := (text_tak (by decide)).1 e8
    obtain ⟨rfl, f7, g7⟩ := int_tak.1 e7
    obtain ⟨rfl, f6, g6⟩ := (num_tak (by decide)).1 e6
    obtain ⟨rfl, f5, g5⟩ := (num_tak (by decide)).1 e5
    obtain ⟨rfl, f4, g4⟩ := (pair_tak (by decide) (by decide)).1 e4
    obtain ⟨rfl, f3, g3⟩ := (text_tak (by decide)).1 e3
    obtain ⟨rfl, f2, g2⟩ := (pair_tak (by decide) (by decide)).1 e2
    obtain ⟨k, f1, g1⟩ := (num_tak (by decide)).1 e1
    have hin : (inI (n5 == 1)).toNat = n5 := by
      have : n5 = 0 ∨ n5 = 1 := by omega
      rcases this with rfl | rfl <;> rfl
    refine ⟨k, ⟨⟨by simp, by simp; omega⟩, f2, ?_, f4, ⟨by simp, by simp; omega⟩, f7, ?_, ⟨rfl, rfl⟩, by simp only; omega, g0, rfl, rfl⟩, ?_⟩
    · simp only [ByteArray.size, List.size_toArray]; exact f3
    · simp only [ByteArray.size, List.size_toArray]; exact f8
    · simp only [Int.toNat_natCast, hin, f0]
      exact Tak.app.2 ⟨_, g1, Tak.app.2 ⟨_, g2, Tak.app.2 ⟨_, g3, Tak.app.2 ⟨_, g4, Tak.app.2 ⟨_, g5, Tak.app.2 ⟨_, g6, Tak.app.2 ⟨_, g7, Tak.app.2 ⟨_, g8, Tak.app.2 ⟨_, g9, h0⟩⟩⟩⟩⟩⟩⟩⟩⟩
  · rintro ⟨rfl, hR, h⟩
    obtain ⟨a1, g1, h⟩ := Tak.app.1 h
    obtain ⟨a2, g2, h⟩ := Tak.app.1 h
    obtain ⟨a3, g3, h⟩ := Tak.app.1 h
    obtain ⟨a4, g4, h⟩ := Tak.app.1 h
    obtain ⟨a5, g5, h⟩ := Tak.app.1 h
    obtain ⟨a6, g6, h⟩ := Tak.app.1 h
    obtain ⟨a7, g7, h⟩ := Tak.app.1 h
    obtain ⟨a8, g8, h⟩ := Tak.app.1 h
    obtain ⟨a9, g9, h⟩ := Tak.app.1 h
    have e1 := (num_tak (l := l) (most := 4) (b := false) (by decide)).2 ⟨rfl, by have := hR.k; omega, g1⟩
    have e2 := (pair_tak (l := l) (b := false) (by decide) (by decide)).2 ⟨rfl, hR.ob, g2⟩
    have e3 := (text_tak (l := l) (most := 20) (b := false) (by decide)).2 ⟨rfl, by rw [size_data]; exact hR.key, g3⟩
    have e4 := (pair_tak (l := l) (b := false) (by decide) (by decide)).2 ⟨rfl, hR.el, g4⟩
    have e5 := (num_tak (l := l) (most := 1) (b := false) (by decide)).2 ⟨rfl, by cases o.ins <;> decide, g5⟩
    have e6 := (num_tak (l := l) (most := 6) (b := false) (by decide)).2 ⟨rfl, by have := hR.vk; omega, g6⟩
    have e7 := (int_tak (l := l) (b := false)).2 ⟨rfl, hR.vn, g7⟩
    have e8 := (text_tak (l := l) (most := 60) (b := false) (by decide)).2 ⟨rfl, by rw [size_data]; exact hR.vt, g8⟩
    have e9 := (num_tak (l := l) (most := 12) (b := false) (by decide)).2 ⟨rfl, hR.ll, g9⟩
    have e0 := (pairs_tak (l := l) (m1 := 1000000) (m2 := 99) (by decide) (by decide) o.l.length a9 j false o.l).2 ⟨rfl, rfl, hR.l, h⟩
    rw [rdOp_of2 e1 e2 e3 e4 e5 e6 e7 e8 e9 e0]
    obtain ⟨k, on, oa, key, en, ea, ins, vk, vn, vt, va, vb, A, c, ps⟩ := o
    obtain ⟨v1, v2⟩ := hR.v
    obtain ⟨m1, m2⟩ := hR.m
    have k1 := hR.k
    have k6 := hR.vk
    simp only at v1 v2 m1 m2 k1 k6
    subst v1 v2 m1 m2
    have hin : ((inI ins).toNat == 1) = ins := by cases ins <;> rfl
    simp only [bytes_eta, hin, Int.toNat_of_nonneg k1.1, Int.toNat_of_nonneg k6.1]
theorem ops_tak {l : List UInt8} : ∀ (n i j : Nat) (b : Bool) (L : List OpD), rdOps l (i, b) n = (L, (j, false)) ↔ b = false ∧ L.length = n ∧ (∀ r ∈ L, OpR r) ∧ Tak l i j (L.flatMap opB)
  | 0, i, j, b, L => by
    simp only [rdOps]
    constructor
    · intro h
      simp only [Prod.mk.injEq] at h
      obtain ⟨rfl, rfl, rfl⟩ := h
      exact ⟨rfl, rfl, by simp, Tak.nil.2 rfl⟩
    · rintro ⟨rfl, k2, _, k4⟩
      obtain rfl : L = [] := List.length_eq_zero_iff.1 k2
      obtain rfl := Tak.nil.1 k4
      rfl
  | n + 1, i, j, b, L => by
    obtain ⟨L', a', b', e1⟩ : ∃ L a b', rdOps l (i, b) n = (L, (a, b')) := ⟨_, _, _, rfl⟩
    obtain ⟨r, a2, b2, e2⟩ : ∃ r a b2, rdOp l (a', b') = (r, (a, b2)) := ⟨_, _, _, rfl⟩
    constructor
    · intro h
      rw [rdOps_next e1 e2] at h
      simp only [Prod.mk.injEq] at h
      obtain ⟨rfl, rfl, rfl⟩ := h
      obtain ⟨rfl, k1, k2⟩ := op_tak.1 e2
      obtain ⟨k3, k4, k5, k6⟩ := (ops_tak n _ _ _ _).1 e1
      refine ⟨k3, by simp [k4], fun x hx => ?_, ?_⟩
      · rcases List.mem_append.1 hx with hx | hx
        · exact k5 x hx
        · obtain rfl : x = r := by simpa using hx
          exact k1
      · rw [List.flatMap_append]
        exact Tak.app.2 ⟨a', k6, by simpa using k2⟩
    · rintro ⟨k1, k2, k3, k4⟩
      rcases List.eq_nil_or_concat L with rfl | ⟨L1, x, rfl⟩
      · simp at k2
      · rw [List.concat_eq_append] at k2 k3 k4 ⊢
        rw [List.flatMap_append] at k4
        obtain ⟨a, k5, k6⟩ := Tak.app.1 k4
        have f1 := (ops_tak n i a b L1).2 ⟨k1, by simpa using k2, fun r hr => k3 r (by simp [hr]), k5⟩
        have f2 := (op_tak (l := l) (i := a) (j := j) (b := false) (o := x)).2 ⟨rfl, k3 x (by simp), by simpa using k6⟩
        exact rdOps_next f1 f2
/-- a change as it is read -/
structure RdR (r : Rd) : Prop where
  a : r.a ≤ 99
  s : r.s ≤ 1000000
  st : r.st ≤ 1000000
  dl : r.deps.length ≤ 12
  d : ∀ x ∈ r.deps, pairR 99 1000000 x
  ol : r.ops.length ≤ 40
  o : ∀ o ∈ r.ops, OpR o
theorem encL_split (a s st : Nat) (deps : List Rf) (ops : List OpD) : encL a s st deps ops = putN a ++ (putN s ++ (putN st ++ (putN deps.length ++ (deps.flatMap pairB ++ (putN ops.length ++ ops.flatMap opB))))) := by
  simp only [encL, numsL_cons, numsL_nil, List.append_nil, List.append_assoc, Int.toNat_natCast]
theorem all_tak {l : List UInt8} {r : Rd} (hb : r.bad = false) : rdAll l = r ↔ RdR r ∧ Tak l 0 r.at_ (encL r.a r.s r.st r.deps r.ops) := by
  obtain ⟨a, s, st, deps, ops, at_, bad⟩ := r
  simp only at hb
  subst hb
  simp only [encL_split]
  constructor
  · intro h
    obtain ⟨n1, a1, b1, e1⟩ : ∃ n a b', rdNum l 99 0 false = (n, a, b') := ⟨_, _, _, rfl⟩
    obtain ⟨n2, a2, b2, e2⟩ : ∃ n a b', rdNum l 1000000 a1 b1 = (n, a, b') := ⟨_, _, _, rfl⟩
    obtain ⟨n3, a3, b3, e3⟩ : ∃ n a b', rdNum l 1000000 a2 b2 = (n, a, b') := ⟨_, _, _, rfl⟩
    obtain ⟨n4, a4, b4, e4⟩ : ∃ n a b', rdNum l 12 a3 b3 = (n, a, b') := ⟨_, _, _, rfl⟩
    obtain ⟨d5, a5, b5, e5⟩ : ∃ n a b', rdPairs l 99 1000000 (a4, b4) n4 = (n, (a, b')) := ⟨_, _, _, rfl⟩
    obtain ⟨n6, a6, b6, e6⟩ : ∃ n a b', rdNum l 40 a5 b5 = (n, a, b') := ⟨_, _, _, rfl⟩
    obtain ⟨o7, a7, b7, e7⟩ : ∃ n a b', rdOps l (a6, b6) n6 = (n, (a, b')) := ⟨_, _, _, rfl⟩
    rw [rdAll_of e1 e2 e3 e4 e5 e6 e7] at h
    simp only [Rd.mk.injEq] at h
    obtain ⟨rfl, rfl, rfl, rfl, rfl, rfl, rfl⟩ := h
    obtain ⟨rfl, f7, g7, h7⟩ := (ops_tak _ _ _ _ _).1 e7
    obtain ⟨rfl, f6, g6⟩ := (num_tak (by decide)).1 e6
    obtain ⟨rfl, f5, g5, h5⟩ := (pairs_tak (by decide) (by decide) _ _ _ _ _).1 e5
    obtain ⟨rfl, f4, g4⟩ := (num_tak (by decide)).1 e4
    obtain ⟨rfl, f3, g3⟩ := (num_tak (by decide)).1 e3
    obtain ⟨rfl, f2, g2⟩ := (num_tak (by decide)).1 e2
    obtain ⟨_, f1, g1⟩ := (num_tak (by decide)).1 e1
    rw [f5, f7]
    exact ⟨⟨f1, f2, f3, by simp only; omega, g5, by simp only; omega, g7⟩, Tak.app.2 ⟨_, g1, Tak.app.2 ⟨_, g2, Tak.app.2 ⟨_, g3, Tak.app.2 ⟨_, g4, Tak.app.2 ⟨_, h5, Tak.app.2 ⟨_, g6, h7⟩⟩⟩⟩⟩⟩⟩
  · rintro ⟨hR, h⟩
    obtain ⟨a1, g1, h⟩ := Tak.app.1 h
    obtain ⟨a2, g2, h⟩ := Tak.app.1 h
    obtain ⟨a3, g3, h⟩ := Tak.app.1 h
    obtain ⟨a4, g4, h⟩ := Tak.app.1 h
    obtain ⟨a5, g5, h⟩ := Tak.app.1 h
    obtain ⟨a6, g6, h⟩ := Tak.app.1 h
    have e1 := (num_tak (l := l) (most := 99) (b := false) (by decide)).2 ⟨rfl, hR.a, g1⟩
    have e2 := (num_tak (l := l) (most := 1000000) (b := false) (by decide)).2 ⟨rfl, hR.s, g2⟩
    have e3 := (num_tak (l := l) (most := 1000000) (b := false) (by decide)).2 ⟨rfl, hR.st, g3⟩
    have e4 := (num_tak (l := l) (most := 12) (b := false) (by decide)).2 ⟨rfl, hR.dl, g4⟩
    have e5 := (pairs_tak (l := l) (m1 := 99) (m2 := 1000000) (by decide) (by decide) _ a4 a5 false deps).2 ⟨rfl, rfl, hR.d, g5⟩
    have e6 := (num_tak (l := l) (most := 40) (b := false) (by decide)).2 ⟨rfl, hR.ol, g6⟩
    have e7 := (ops_tak (l := l) _ a6 at_ false ops).2 ⟨rfl, rfl, hR.o, h⟩
    exact rdAll_of e1 e2 e3 e4 e5 e6 e7
/-- what a good change's fields are -/
theorem real_pairR {a b : Int} (h : realB a b = true) : pairR 1000000 99 (a, b) := by
  simp only [realB, numB, actorB, Bool.and_eq_true, decide_eq_true_eq] at h
  unfold pairR; simp only; omega
theorem id_pairR {a b : Int} (h : idB a b = true) : pairR 1000000 99 (a, b) := by
  simp only [idB, rootB, realB, numB, actorB, Bool.or_eq_true, Bool.and_eq_true, decide_eq_true_eq] at h
  unfold pairR; simp only; omega
theorem tail_kind {k : Int} {kn root ins pe v kb : Bool} (h : tailE k kn root ins pe v kb = 0) : v = true ∧ kb = true := by
  unfold tailE at h
  have h1 := (ite_zero h (by omega)).2
  obtain ⟨h2, h3⟩ := ite_zero h1 (by omega)
  have h4 := (ite_zero h3 (by omega)).1
  exact ⟨by simpa using h2, by simpa using h4⟩
theorem value_root {k vk n : Int} {t : ByteArray} {a b : Int} (hk : 1 ≤ k ∧ k ≤ 4) (h : valueB vk n t a b = true) (h2 : kindB k vk a b = true) : a = 0 ∧ b = 0 ∧ 0 ≤ vk ∧ vk ≤ 6 := by
  have key : ∀ x : Bool, (bareB t a b && x) = true → a = 0 ∧ b = 0 := fun x h => by
    simp only [bareB, rootB, Bool.and_eq_true, decide_eq_true_eq] at h
    exact h.1.2
  have key2 : bareB t a b = true → a = 0 ∧ b = 0 := fun h => key true (by rw [h]; rfl)
  unfold valueB at h
  split at h
  · have := key _ h; omega
  split at h
  · have := key _ h; omega
  split at h
  · have := key2 h; omega
  split at h
  · simp only [rootB, Bool.and_eq_true, decide_eq_true_eq] at h; omega
  split at h
  · rename_i h5
    have ho : objectB vk = true := by unfold objectB; rcases h5 with rfl | rfl <;> rfl
    unfold kindB at h2
    split at h2
    · rw [ho] at h2; cases h2
    split at h2
    · simp only [rootB, Bool.and_eq_true, decide_eq_true_eq] at h2; omega
    split at h2
    · have : vk = 0 := by simpa using h2
      omega
    · have : vk = 2 := by simpa using h2
      omega
  · cases h
theorem op_read {o : OpD} (h : opE' o = 0) (hv : (Lit.int .i64 o.vn).wf = true) : OpR (base o) := by
  have hG := op_good h hv
  unfold opE' opE at h
  obtain ⟨h1, h⟩ := ite_zero h (by omega)
  obtain ⟨h2, h⟩ := ite_zero h (by omega)
  obtain ⟨h3, h⟩ := ite_zero h (by omega)
  by_cases h4 : idsE o.l ≠ 0
  · rw [if_pos h4] at h; exact absurd h h4
  rw [if_neg h4] at h
  have hI : idB o.on o.oa = true := by
    cases hx : idB o.on o.oa
    · exact absurd (Or.inr (Or.inr (Or.inl hx))) h1
    · rfl
  have hJ : idB o.en o.ea = true := by
    cases hx : idB o.en o.ea
    · exact absurd (Or.inr (Or.inr (Or.inr hx))) h1
    · rfl
  have hk : ¬ o.k < 1 ∧ ¬ 4 < o.k := ⟨fun hx => h1 (Or.inl hx), fun hx => h1 (Or.inr (Or.inl hx))⟩
  obtain ⟨hv1, hv2⟩ := tail_kind h
  obtain ⟨r1, r2, r3, r4⟩ := value_root ⟨by omega, by omega⟩ hv1 hv2
  have hw : -9223372036854775808 ≤ o.vn ∧ o.vn ≤ 9223372036854775807 := by
    simpa [Lit.wf, IntKind.min, IntKind.max, IntKind.signed, IntKind.bits] using hv
  refine ⟨⟨by show 0 ≤ o.k; omega, by show o.k ≤ 4; omega⟩, id_pairR hI, hG.key, id_pairR hJ, ⟨r3, r4⟩, hw, hG.vt, ⟨r1, r2⟩, hG.ll, fun r hr => ?_, rfl, rfl⟩
  have : o.l.all (fun r => realB r.1 r.2) = true := by simpa using h2
  exact real_pairR (List.all_eq_true.1 this r hr)
theorem ops_read : ∀ {l : List OpD}, opsE l = 0 → (∀ o ∈ l, (Lit.int .i64 o.vn).wf = true) → ∀ o ∈ l.map base, OpR o
  | [], _, _, _, h => by cases h
  | x :: l, h, hv, o, ho => by
    have hx : opE' x = 0 := by
      by_cases h0 : opE' x = 0
      · exact h0
      · simp only [opsE, if_neg h0] at h; exact absurd h h0
    have hr : opsE l = 0 := by simp only [opsE, if_pos hx] at h; exact h
    rw [List.map_cons] at ho
    rcases List.mem_cons.1 ho with rfl | ho
    · exact op_read hx (hv _ (by simp))
    · exact ops_read hr (fun o ho => hv o (by simp [ho])) o ho
theorem refs_read : ∀ {l : List Rf} {p : Int}, refsE p l = 0 → ∀ r ∈ l, pairR 99 1000000 r
  | [], _, _, _, h => by cases h
  | x :: l, p, h, r, hr => by
    simp only [refsE] at h
    obtain ⟨h1, h⟩ := ite_zero h (by omega)
    obtain ⟨_, h⟩ := ite_zero h (by omega)
    rcases List.mem_cons.1 hr with rfl | hr
    · have : isRef r = true := by simpa using h1
      simp only [isRef, Bool.and_eq_true, decide_eq_true_eq] at this
      unfold pairR
      omega
    · exact refs_read h r hr
theorem chg_read {a s st : Int} {deps : List Rf} {ops : List OpD} (h : chgE a s st deps ops = 0) (hv : ∀ o ∈ ops, (Lit.int .i64 o.vn).wf = true) (at_ : Nat) :
    RdR ⟨a.toNat, s.toNat, st.toNat, deps, ops.map base, at_, false⟩ ∧ 0 ≤ a ∧ 0 ≤ s ∧ 0 ≤ st := by
  unfold chgE at h
  obtain ⟨h1, h⟩ := ite_zero h (by omega)
  obtain ⟨h2, h⟩ := ite_zero h (by omega)
  by_cases h3 : refsE 0 deps ≠ 0
  · rw [if_pos h3] at h; exact absurd h h3
  rw [if_neg h3] at h
  obtain ⟨h4, h⟩ := ite_zero h (by omega)
  obtain ⟨h5, h⟩ := ite_zero h (by omega)
  have hr : isRef (a, s) = true := by
    cases hx : isRef (a, s)
    · exact absurd (Or.inl hx) h1
    · rfl
  simp only [isRef, Bool.and_eq_true, decide_eq_true_eq] at hr
  have hs : ¬ st < 1 ∧ ¬ 1000000 < st := ⟨fun hx => h1 (Or.inr (Or.inl hx)), fun hx => h1 (Or.inr (Or.inr hx))⟩
  have h3' : refsE 0 deps = 0 := by omega
  exact ⟨⟨by simp only; omega, by simp only; omega, by simp only; omega, by simp only; omega, refs_read (p := 0) h3', by simp only [List.length_map]; omega, ops_read h hv⟩, by omega, by omega, by omega⟩
theorem base_base (l : List OpD) : (l.map base).map base = l.map base := ops_base rfl
/-- (i) what is written is read, whatever stands behind -/
theorem read_back {a s st : Int} {deps : List Rf} {ops : List OpD} (h : chgE a s st deps ops = 0) (hv : ∀ o ∈ ops, (Lit.int .i64 o.vn).wf = true) (more : List UInt8) :
    rdAll (encL a s st deps ops ++ more) = ⟨a.toNat, s.toNat, st.toNat, deps, ops.map base, (encL a s st deps ops).length, false⟩ := by
  obtain ⟨hR, h1, h2, h3⟩ := chg_read h hv (encL a s st deps ops).length
  refine (all_tak rfl).2 ⟨hR, ?_⟩
  have e : encL ((a.toNat : Nat) : Int) ((s.toNat : Nat) : Int) ((st.toNat : Nat) : Int) deps (ops.map base) = encL a s st deps ops := by
    rw [Int.toNat_of_nonneg h1, Int.toNat_of_nonneg h2, Int.toNat_of_nonneg h3]
    exact encL_base (base_base ops)
  simp only [e]
  exact ⟨by rw [List.drop_zero, List.drop_left], by simp⟩
end Go.Proofs.YtclgfcjcpbiadaaGreatDoor

namespace Go.Proofs.YtclgfcjcpbiadaaGreatDoor
open Go.ChangeShapes Go.WideShapes Go.ChangeAt Go.RowKit

set_option maxHeartbeats 4000000 in
set_option maxRecDepth 20000 in
theorem same_change (a s st : Int) (e1 : List Rf) (DA1 : Option Addr) (n1 DC1 : Nat) (o1 : List OpD) (OA1 : Option Addr) (m1 OC1 : Nat) (e2 : List Rf) (DA2 : Option Addr) (n2 DC2 : Nat) (o2 : List OpD) (OA2 : Option Addr) (m2 OC2 : Nat) (w : World)
    (h1 : ChM w e1 DA1 o1 OA1) (h2 : ChM w e2 DA2 o2 OA2) (hn1 : e1.length = n1) (hm1 : o1.length = m1) (hn2 : e2.length = n2) (hm2 : o2.length = m2) (g1 : EncG a s st e1 o1) (g2 : EncG a s st e2 o2) (he : encL a s st e1 o1 = encL a s st e2 o2) :
    Calls Tryz.prog 14 #[.agg #[.int .i64 a, .int .i64 s, .int .i64 st, .slice DA1 n1 DC1, .slice OA1 m1 OC1], .agg #[.int .i64 a, .int .i64 s, .int .i64 st, .slice DA2 n2 DC2, .slice OA2 m2 OC2]] w
      fun e w' => e = .returned (.bool true) ∧ Below w.heap.size w w' := by
  have HB0 := Lib.hid (((Below.refl _ w).alloc (Nat.le_refl _) (.cells #[.int .i64 a, .int .i64 s, .int .i64 st, .slice DA1 n1 DC1, .slice OA1 m1 OC1] 34)).alloc (by simp) (.cells #[.int .i64 a, .int .i64 s, .int .i64 st, .slice DA2 n2 DC2, .slice OA2 m2 OC2] 34))
  have HBB : Hid (Blk ((w.alloc (.cells #[.int .i64 a, .int .i64 s, .int .i64 st, .slice DA1 n1 DC1, .slice OA1 m1 OC1] 34)).alloc (.cells #[.int .i64 a, .int .i64 s, .int .i64 st, .slice DA2 n2 DC2, .slice OA2 m2 OC2] 34)) (w.heap.size + 1) 34 #[.int .i64 a, .int .i64 s, .int .i64 st, .slice DA2 n2 DC2, .slice OA2 m2 OC2]) := by
    have := Blk.new (w.alloc (.cells #[.int .i64 a, .int .i64 s, .int .i64 st, .slice DA1 n1 DC1, .slice OA1 m1 OC1] 34)) 34 #[.int .i64 a, .int .i64 s, .int .i64 st, .slice DA2 n2 DC2, .slice OA2 m2 OC2]
    rw [World.size_alloc] at this
    exact this
  have R1 := refEnc_any a s st e1 DA1 n1 DC1 o1 OA1 m1 OC1 _ (h1.keep HB0.out) hn1 hm1 g1
  have H2 := Lib.hid h2
  have HN2 := Lib.hid hn2
  have HM2 := Lib.hid hm2
  have HG2 := Lib.hid g2
  rw [he] at R1
  generalize hbs : encL a s st e2 o2 = bs at R1
  have HBS := Lib.hid hbs
  clear h1 h2 hn1 hm1 hn2 hm2 g1 g2 he hbs
  go_enter Tryz.func14, Tryz.ntmps14
  go_wp2_with fail
  go_at_call 42
  refine R1.mono ?_
  rintro e w1 ⟨v1, rfl, ho, hb⟩
  obtain ⟨A1, C1, hv1, _, _, hr1⟩ := Reads.of_own ho
  subst hv1
  have HR1 : Hid (Reads (fun x => x < w1.heap.size) w1 1 A1 bs.length (bytesC bs)) := hr1.more fun x hx => (own_lt ho hx).2
  have HB1 := Lib.hid (HB0.out.trans (hb.mono HB0.out.size))
  have HBB1 := HBB.out.keep (hb.block _ HBB.out.lt)
  have d0 : w1.cell? ⟨w.heap.size + 1, 0, none⟩ = some (.int .i64 a) := HBB1.cell 0
  have d1 : w1.cell? ⟨w.heap.size + 1, 1, none⟩ = some (.int .i64 s) := HBB1.cell 1
  have d2 : w1.cell? ⟨w.heap.size + 1, 2, none⟩ = some (.int .i64 st) := HBB1.cell 2
  have d3 : w1.cell? ⟨w.heap.size + 1, 3, none⟩ = some (.slice DA2 n2 DC2) := HBB1.cell 3
  have d4 : w1.cell? ⟨w.heap.size + 1, 4, none⟩ = some (.slice OA2 m2 OC2) := HBB1.cell 4
  clear R1 ho hr1 hb HBB1
  have R2 := refEnc_any a s st e2 DA2 n2 DC2 o2 OA2 m2 OC2 w1 (H2.out.keep HB1.out) HN2.out HM2.out HG2.out
  rw [HBS.out] at R2
  go_wp2_with fail
  go_at_call 42
  refine R2.mono ?_
  rintro e w2 ⟨v2, rfl, ho, hb⟩
  obtain ⟨A2, C2, hv2, _, _, hr2⟩ := Reads.of_own ho
  subst hv2
  have cv1 : (convert 71 9 (.slice A1 bs.length C1)).run Tryz.prog w2 = .ok (.string ⟨bs.toArray⟩) w2 := conv_reads (reads_below HR1.out hb)
  have cv2 : (convert 71 9 (.slice A2 bs.length C2)).run Tryz.prog w2 = .ok (.string ⟨bs.toArray⟩) w2 := conv_reads hr2
  have HB2 : Hid (Below w.heap.size w w2) := HB1.out.trans (hb.mono HB1.out.size)
  clear R2 ho hr2 hb HR1
  go_wp2_with fail
  go_ret
  exact ⟨rfl, HB2.out⟩
end Go.Proofs.YtclgfcjcpbiadaaGreatDoor
