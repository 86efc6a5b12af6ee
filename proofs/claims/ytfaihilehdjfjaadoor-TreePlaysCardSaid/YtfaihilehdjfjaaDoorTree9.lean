/- Contracts: package tree: the way down to an index. -/
import Derived.Test.YtfaihilehdjfjaaDoorTree8
namespace Go.Proofs.YtfaihilehdjfjaaDoor
open Go.ChangeShapes Go.WideShapes Go.ChangeAt Go.RowKit

namespace T
/-- the place and the thing at an index -/
def getT : T → Nat → Nat × Int × Int
  | nil, _ => (0, 0, 0)
  | node l g x y r, i => if i < cnt l then getT l i else if cnt l < i then getT r (i - cnt l - 1) else (g, x, y)
theorem getT_toL : ∀ (t : T) (i : Nat), i < cnt t → (toL t)[i]? = some (getT t i).2
  | nil, i, h => by simp [cnt] at h
  | node l g x y r, i, h => by
    have hl := cnt_toL l
    simp only [cnt] at h
    simp only [toL, getT]
    by_cases h1 : i < cnt l
    · rw [if_pos h1, List.getElem?_append_left (by omega), getT_toL l i h1]
    · by_cases h2 : cnt l < i
      · have e : i - (toL l).length = (i - cnt l - 1) + 1 := by omega
        rw [if_neg h1, if_pos h2, List.getElem?_append_right (by omega), e, List.getElem?_cons_succ, getT_toL r _ (by omega)]
      · have e : i - (toL l).length = 0 := by omega
        rw [if_neg h1, if_neg h2, List.getElem?_append_right (by omega), e, List.getElem?_cons_zero]
theorem getT_mem : ∀ (t : T) (i : Nat), i < cnt t → (getT t i).1 ∈ ads t
  | nil, i, h => by simp [cnt] at h
  | node l g x y r, i, h => by
    simp only [cnt] at h
    simp only [ads, getT]
    by_cases h1 : i < cnt l
    · rw [if_pos h1]; simp [getT_mem l i h1]
    · by_cases h2 : cnt l < i
      · rw [if_neg h1, if_pos h2]; simp [getT_mem r (i - cnt l - 1) (by omega)]
      · rw [if_neg h1, if_neg h2]; simp
end T
theorem TreeAt.raw {w : World} : ∀ {t : T} {i : Nat}, TreeAt w t → i < t.cnt → ∃ l r h m s, RawN w (t.getT i).1 l r (t.getT i).2.1 (t.getT i).2.2 h m s
  | .nil, i, _, h => by simp [T.cnt] at h
  | .node l g x y r, i, hT, h => by
    simp only [T.cnt] at h
    simp only [T.getT]
    by_cases h1 : i < l.cnt
    · rw [if_pos h1]; exact TreeAt.raw hT.2.1 h1
    · by_cases h2 : l.cnt < i
      · rw [if_neg h1, if_pos h2]; exact TreeAt.raw hT.2.2 (by omega)
      · rw [if_neg h1, if_neg h2]; exact ⟨_, _, _, _, _, hT.1⟩
theorem nothing_any (v : Value) (w : World) : Calls Tryd.prog 68 #[v] w fun e w' => e = .returned (.tuple #[]) ∧ w' = w := by
  go_enter Tryd.func68, Tryd.ntmps68
  go_wp2
  go_end0
  exact ⟨rfl, rfl⟩

set_option maxHeartbeats 2000000 in
set_option maxRecDepth 20000 in
theorem way_any : ∀ (t : T) (at_ : Nat) (b : Nat) (root : Value) (work : Nat) (w : World), RowAt w b root work → work + t.ht ≤ 999999990 → TreeAt w t → at_ < t.cnt → t.cnt ≤ 199000 →
    Calls Tryd.prog 67 #[.pointer (some ⟨b, 0, none⟩), t.ptr, .int .i64 at_, .func (.func 68) #[] #[]] w fun e w' =>
      e = .returned (.pointer (some ⟨(t.getT at_).1, 0, none⟩)) ∧ TreeAt w' t ∧ Lk w' b root work t.ht ∧ Chg (fun i => i = b) w w'
  | .nil, at_, b, root, work, w, hR, hwk, hT, hp, hn => by simp [T.cnt] at hp
  | .node l g x y r, at_, b, root, work, w, hR, hwk, hT, hp, hn => by
    have hbg : b ≠ g := Blk.ne_ hR hT.1 (by decide)
    have hbl : b ∉ T.ads l := TreeAt.no_row hR hT.2.1
    have hbr : b ∉ T.ads r := TreeAt.no_row hR hT.2.2
    have H : Hid (RowAt w b root work ∧ TreeAt w (.node l g x y r)) := ⟨hR, hT⟩
    have hwk' : work + 1 + max l.ht r.ht ≤ 999999990 := by simp only [T.ht] at hwk; omega
    have hp' : at_ < 1 + l.cnt + r.cnt := by simpa only [T.cnt] using hp
    have hn' : 1 + l.cnt + r.cnt ≤ 199000 := by simpa only [T.cnt] using hn
    have IH1 := way_any l at_ b root (work + 1)
    have IH2 := way_any r (at_ - l.cnt - 1) b root (work + 1)
    clear hR hT hn hwk hp
    change Calls _ _ #[_, .pointer (some ⟨g, 0, none⟩), _, _] _ _
    go_enter Tryd.func67, Tryd.ntmps67
    go_wp2_with fail
    go_at_call 71
    refine (look_any b root work w H.out.1 (by omega)).mono ?_
    rintro e w1 ⟨rfl, hR1, hC1⟩
    have H1 : Hid (RowAt w1 b root (work + 1) ∧ RawN w1 g l r x y _ _ _ ∧ TreeAt w1 l ∧ TreeAt w1 r ∧ Chg (fun j => j = b) w w1) :=
      ⟨hR1, H.out.2.1.keep hC1 (fun e => hbg e.symm), H.out.2.2.1.chg hC1 (fun i hi e => hbl (e ▸ hi)), H.out.2.2.2.chg hC1 (fun i hi e => hbr (e ▸ hi)), hC1⟩
    clear hR1 hC1
    have c0 : w1.cell? ⟨g, 0, none⟩ = some l.ptr := H1.out.2.1.cell 0
    have c1 : w1.cell? ⟨g, 1, none⟩ = some r.ptr := H1.out.2.1.cell 1
    go_wp2_with fail
    go_at_call 73
    refine (count_any l _ H1.out.2.2.1).mono ?_
    rintro e w2 ⟨rfl, e1⟩
    rw [e1]
    clear e1 w2
    by_cases hlt : at_ < l.cnt
    · have he : T.getT (.node l g x y r) at_ = T.getT l at_ := by simp only [T.getT, hlt, ↓reduceIte]
      go_wp2_with fail
      go_at_call 67
      refine (IH1 w1 H1.out.1 (by omega) H1.out.2.2.1 hlt (by omega)).mono ?_
      rintro e w3 ⟨rfl, hT3, ⟨k3, hR3, hk3, hk3'⟩, hC3⟩
      go_wp2_with fail
      go_at_call 68
      refine (nothing_any _ w3).mono ?_
      rintro e w4 ⟨rfl, e1⟩
      rw [e1]
      clear e1 w4
      go_wp2_with fail
      go_ret
      exact ⟨by rw [he]; rfl, ⟨H1.out.2.1.keep hC3 (fun e => hbg e.symm), hT3, H1.out.2.2.2.1.chg hC3 (fun i hi e => hbr (e ▸ hi))⟩, ⟨k3, hR3, by omega, by simp only [T.ht]; omega⟩, H1.out.2.2.2.2.trans hC3 (fun i _ e => e)⟩
    · by_cases hgt : l.cnt < at_
      · have he : T.getT (.node l g x y r) at_ = T.getT r (at_ - l.cnt - 1) := by simp only [T.getT, hlt, hgt, ↓reduceIte]
        have he2 : ((at_ - l.cnt - 1 : Nat) : Int) = (at_ : Int) - l.cnt - 1 := by omega
        rw [he2] at IH2
        go_wp2_with fail
        go_at_call 67
        refine (IH2 w1 H1.out.1 (by omega) H1.out.2.2.2.1 (by omega) (by omega)).mono ?_
        rintro e w3 ⟨rfl, hT3, ⟨k3, hR3, hk3, hk3'⟩, hC3⟩
        go_wp2_with fail
        go_at_call 68
        refine (nothing_any _ w3).mono ?_
        rintro e w4 ⟨rfl, e1⟩
        rw [e1]
        clear e1 w4
        go_wp2_with fail
        go_ret
        exact ⟨by rw [he]; rfl, ⟨H1.out.2.1.keep hC3 (fun e => hbg e.symm), H1.out.2.2.1.chg hC3 (fun i hi e => hbl (e ▸ hi)), hT3⟩, ⟨k3, hR3, by omega, by simp only [T.ht]; omega⟩, H1.out.2.2.2.2.trans hC3 (fun i _ e => e)⟩
      · have he : T.getT (.node l g x y r) at_ = (g, x, y) := by simp only [T.getT, hlt, hgt, ↓reduceIte]
        go_wp2_with fail
        go_at_call 68
        refine (nothing_any _ w1).mono ?_
        rintro e w4 ⟨rfl, e1⟩
        rw [e1]
        clear e1 w4
        go_wp2_with fail
        go_ret
        exact ⟨by rw [he]; rfl, ⟨H1.out.2.1, H1.out.2.2.1, H1.out.2.2.2.1⟩, ⟨_, H1.out.1, by omega, by simp only [T.ht]; omega⟩, H1.out.2.2.2.2⟩
end Go.Proofs.YtfaihilehdjfjaaDoor
