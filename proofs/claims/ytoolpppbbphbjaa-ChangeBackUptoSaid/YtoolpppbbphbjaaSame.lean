/- Contracts: booksame.Change: two changes of the same bytes are the same. -/
import Derived.Test.YtoolpppbbphbjaaRefEnc
import Derived.Test.YtoolpppbbphbjaaDecP
namespace Go.Proofs.Ytoolpppbbphbjaa
open Go.ChangeShapes Go.WideShapes Go.ChangeAt Go.RowKit

set_option maxHeartbeats 4000000 in
set_option maxRecDepth 20000 in
theorem same_change (a s st : Int) (e1 : List Rf) (DA1 : Option Addr) (n1 DC1 : Nat) (o1 : List OpD) (OA1 : Option Addr) (m1 OC1 : Nat) (e2 : List Rf) (DA2 : Option Addr) (n2 DC2 : Nat) (o2 : List OpD) (OA2 : Option Addr) (m2 OC2 : Nat) (w : World)
    (h1 : ChM w e1 DA1 o1 OA1) (h2 : ChM w e2 DA2 o2 OA2) (hn1 : e1.length = n1) (hm1 : o1.length = m1) (hn2 : e2.length = n2) (hm2 : o2.length = m2) (g1 : EncG a s st e1 o1) (g2 : EncG a s st e2 o2) (he : encL a s st e1 o1 = encL a s st e2 o2) :
    Calls Try.prog 6 #[.agg #[.int .i64 a, .int .i64 s, .int .i64 st, .slice DA1 n1 DC1, .slice OA1 m1 OC1], .agg #[.int .i64 a, .int .i64 s, .int .i64 st, .slice DA2 n2 DC2, .slice OA2 m2 OC2]] w
      fun e w' => e = .returned (.bool true) ∧ Below w.heap.size w w' := by
  have HB0 := Lib.hid (((Below.refl _ w).alloc (Nat.le_refl _) (.cells #[.int .i64 a, .int .i64 s, .int .i64 st, .slice DA1 n1 DC1, .slice OA1 m1 OC1] 25)).alloc (by simp) (.cells #[.int .i64 a, .int .i64 s, .int .i64 st, .slice DA2 n2 DC2, .slice OA2 m2 OC2] 25))
  have HBB : Hid (Blk ((w.alloc (.cells #[.int .i64 a, .int .i64 s, .int .i64 st, .slice DA1 n1 DC1, .slice OA1 m1 OC1] 25)).alloc (.cells #[.int .i64 a, .int .i64 s, .int .i64 st, .slice DA2 n2 DC2, .slice OA2 m2 OC2] 25)) (w.heap.size + 1) 25 #[.int .i64 a, .int .i64 s, .int .i64 st, .slice DA2 n2 DC2, .slice OA2 m2 OC2]) := by
    have := Blk.new (w.alloc (.cells #[.int .i64 a, .int .i64 s, .int .i64 st, .slice DA1 n1 DC1, .slice OA1 m1 OC1] 25)) 25 #[.int .i64 a, .int .i64 s, .int .i64 st, .slice DA2 n2 DC2, .slice OA2 m2 OC2]
    rw [World.size_alloc] at this
    exact this
  have R1 := refEnc_any a s st e1 DA1 n1 DC1 o1 OA1 m1 OC1 _ (h1.keep HB0.out) hn1 hm1 g1
  have H2 := Lib.hid h2
  have HN2 := Lib.hid hn2
  have HM2 := Lib.hid hm2
  have HG2 := Lib.hid g2
  rw [he] at R1
  generalize hbs : encL a s st e2 o2 = bs at R1
  have HBS := Lib.hid hbs
  clear h1 h2 hn1 hm1 hn2 hm2 g1 g2 he hbs
  go_enter Try.func6, Try.ntmps6
  go_wp2_with fail
  go_at_call 15
  refine R1.mono ?_
  rintro e w1 ⟨v1, rfl, ho, hb⟩
  obtain ⟨A1, C1, hv1, _, _, hr1⟩ := Reads.of_own ho
  subst hv1
  have HR1 : Hid (Reads (fun x => x < w1.heap.size) w1 1 A1 bs.length (bytesC bs)) := hr1.more fun x hx => (own_lt ho hx).2
  have HB1 := Lib.hid (HB0.out.trans (hb.mono HB0.out.size))
  have HBB1 := HBB.out.keep (hb.block _ HBB.out.lt)
  have d0 : w1.cell? ⟨w.heap.size + 1, 0, none⟩ = some (.int .i64 a) := HBB1.cell 0
  have d1 : w1.cell? ⟨w.heap.size + 1, 1, none⟩ = some (.int .i64 s) := HBB1.cell 1
  have d2 : w1.cell? ⟨w.heap.size + 1, 2, none⟩ = some (.int .i64 st) := HBB1.cell 2
  have d3 : w1.cell? ⟨w.heap.size + 1, 3, none⟩ = some (.slice DA2 n2 DC2) := HBB1.cell 3
  have d4 : w1.cell? ⟨w.heap.size + 1, 4, none⟩ = some (.slice OA2 m2 OC2) := HBB1.cell 4
  clear R1 ho hr1 hb HBB1
  have R2 := refEnc_any a s st e2 DA2 n2 DC2 o2 OA2 m2 OC2 w1 (H2.out.keep HB1.out) HN2.out HM2.out HG2.out
  rw [HBS.out] at R2
  go_wp2_with fail
  go_at_call 15
  refine R2.mono ?_
  rintro e w2 ⟨v2, rfl, ho, hb⟩
  obtain ⟨A2, C2, hv2, _, _, hr2⟩ := Reads.of_own ho
  subst hv2
  have cv1 : (convert 26 9 (.slice A1 bs.length C1)).run Try.prog w2 = .ok (.string ⟨bs.toArray⟩) w2 := conv_reads (reads_below HR1.out hb)
  have cv2 : (convert 26 9 (.slice A2 bs.length C2)).run Try.prog w2 = .ok (.string ⟨bs.toArray⟩) w2 := conv_reads hr2
  have HB2 : Hid (Below w.heap.size w w2) := HB1.out.trans (hb.mono HB1.out.size)
  clear R2 ho hr2 hb HR1
  go_wp2_with fail
  go_ret
  exact ⟨rfl, HB2.out⟩
end Go.Proofs.Ytoolpppbbphbjaa
