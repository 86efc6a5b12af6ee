/- Contracts: the document's own words on ids and values (package bookref1): Root, Real, Id, Value, Less, Compare. -/
import Derived.Test.YtmpkejflgpodkaaGreatDoorP4
import Derived.Test.YtmpkejflgpodkaaGreatDoorP0
set_option linter.unusedVariables false
set_option linter.unusedSimpArgs false
namespace Go.Proofs.YtmpkejflgpodkaaGreatDoor
open Go.ChangeShapes Go.WideShapes Go.ChangeAt Go.RowKit
theorem refRoot_any (a b : Int) (w : World) : Calls Tryz.prog 30 #[.agg #[.int .i64 a,.int .i64 b]] w fun e w'=>e=.returned (.bool (rootB a b))∧Below w.heap.size w w':=by
 by_cases h1 : a=0
 all_goals
  go_enter Tryz.func30,Tryz.ntmps30
  go_wp2
  all_goals
   go_ret
   exact ⟨ret_bool (by first | (simp_all [rootB];done) | (simp_all [rootB];rfl)),by repeat (first | exact Below.refl _ _ | refine Below.drew ?_ | refine Below.alloc ?_ (by first | (simp;done) | (simp;omega)) _ | refine Below.trans ?_ (hb.mono (by simp)) | refine Below.trans ?_ (hb2.mono (by simp)))⟩
theorem refReal_any (a b : Int) (w : World) : Calls Tryz.prog 119 #[.agg #[.int .i64 a,.int .i64 b]] w fun e w'=>e=.returned (.bool (realB a b))∧Below w.heap.size w w':=by
 by_cases h1 : 1≤a
 case neg =>
  have d1 : decide (1≤a)=false:=decide_eq_false h1
  have HV : Hid (realB a b=false):=by show realB a b=false;simp [realB,numB,h1]
  go_enter Tryz.func119,Tryz.ntmps119
  go_wp2_with fail
  go_ret
  exact ⟨ret_bool HV.out.symm,by repeat (first | exact Below.refl _ _ | refine Below.drew ?_ | refine Below.alloc ?_ (by first | (simp;done) | (simp;omega)) _ | refine Below.trans ?_ (hb.mono (by simp)) | refine Below.trans ?_ (hb2.mono (by simp)))⟩
 have d1 : decide (1≤a)=true:=decide_eq_true h1
 by_cases h2 : a≤1000000
 case neg =>
  have d2 : decide (a≤1000000)=false:=decide_eq_false h2
  have HV : Hid (realB a b=false):=by show realB a b=false;simp [realB,numB,h2]
  go_enter Tryz.func119,Tryz.ntmps119
  go_wp2_with fail
  go_ret
  exact ⟨ret_bool HV.out.symm,by repeat (first | exact Below.refl _ _ | refine Below.drew ?_ | refine Below.alloc ?_ (by first | (simp;done) | (simp;omega)) _ | refine Below.trans ?_ (hb.mono (by simp)) | refine Below.trans ?_ (hb2.mono (by simp)))⟩
 have d2 : decide (a≤1000000)=true:=decide_eq_true h2
 by_cases h3 : 1≤b
 case neg =>
  have d3 : decide (1≤b)=false:=decide_eq_false h3
  have HV : Hid (realB a b=false):=by show realB a b=false;simp [realB,actorB,h3]
  go_enter Tryz.func119,Tryz.ntmps119
  go_wp2_with fail
  go_ret
  exact ⟨ret_bool HV.out.symm,by repeat (first | exact Below.refl _ _ | refine Below.drew ?_ | refine Below.alloc ?_ (by first | (simp;done) | (simp;omega)) _ | refine Below.trans ?_ (hb.mono (by simp)) | refine Below.trans ?_ (hb2.mono (by simp)))⟩
 have d3 : decide (1≤b)=true:=decide_eq_true h3
 have HV : Hid (realB a b=decide (b≤99)):=by show realB a b=_;simp [realB,numB,actorB,h1,h2,h3]
 go_enter Tryz.func119,Tryz.ntmps119
 go_wp2_with fail
 go_ret
 exact ⟨ret_bool HV.out.symm,by repeat (first | exact Below.refl _ _ | refine Below.drew ?_ | refine Below.alloc ?_ (by first | (simp;done) | (simp;omega)) _ | refine Below.trans ?_ (hb.mono (by simp)) | refine Below.trans ?_ (hb2.mono (by simp)))⟩
theorem refId_any (a b : Int) (w : World) : Calls Tryz.prog 118 #[.agg #[.int .i64 a,.int .i64 b]] w fun e w'=>e=.returned (.bool (idB a b))∧Below w.heap.size w w':=by
 have R1:=refRoot_any a b
 have R2:=refReal_any a b
 have HV : Hid (idB a b=(rootB a b || realB a b)):=rfl
 generalize rootB a b=x at *
 generalize realB a b=y at *
 have hlt : w.heap.size < (w.alloc (.cells #[.int .i64 a,.int .i64 b] 24)).heap.size:=by simp
 cases x with
 | true =>
   go_enter Tryz.func118,Tryz.ntmps118
   go_wp2_with fail
   go_at_call 30
   refine (R1 _).mono ?_
   rintro e w1 ⟨rfl,hb⟩
   go_wp2_with fail
   go_ret
   exact ⟨ret_bool (by rw [HV.out];rfl),by repeat (first | exact Below.refl _ _ | refine Below.drew ?_ | refine Below.alloc ?_ (by first | (simp;done) | (simp;omega)) _ | refine Below.trans ?_ (hb.mono (by simp)) | refine Below.trans ?_ (hb2.mono (by simp)))⟩
 | false =>
   go_enter Tryz.func118,Tryz.ntmps118
   go_wp2_with fail
   go_at_call 30
   refine (R1 _).mono ?_
   rintro e w1 ⟨rfl,hb⟩
   have hbk:=(Blk.new w 24 #[.int .i64 a,.int .i64 b]).keep (hb.block _ hlt)
   have c0 : w1.cell? ⟨w.heap.size,0,none⟩=some (.int .i64 a):=hbk.cell 0
   have c1 : w1.cell? ⟨w.heap.size,1,none⟩=some (.int .i64 b):=hbk.cell 1
   have hb' : Below w.heap.size w w1:=((Below.refl _ w).alloc (Nat.le_refl _) _).trans (hb.mono (by simp))
   clear hbk hb
   go_wp2_with fail
   go_at_call 119
   refine (R2 _).mono ?_
   rintro e w2 ⟨rfl,hb2⟩
   go_wp2_with fail
   go_ret
   exact ⟨ret_bool (by rw [HV.out];rfl),hb'.trans (hb2.mono hb'.size)⟩
theorem refValue_0 (n a b : Int) (t : ByteArray) (w : World) :
 Calls Tryz.prog 120 #[.agg #[.int .i64 0,.int .i64 n,.string t,.int .i64 a,.int .i64 b]] w fun e w'=>e=.returned (.bool (valueB 0 n t a b))∧Below w.heap.size w w':=by
 have R1:=refRoot_any a b
 have RI:=refId_any a b
 have hlt : w.heap.size < (w.alloc (.cells #[.int .i64 0,.int .i64 n,.string t,.int .i64 a,.int .i64 b] 50)).heap.size:=by simp
 cases ht : t.toList.isEmpty with
 | false =>
   have HV : Hid (valueB 0 n t a b=false):=by show valueB 0 n t a b=false;simp [valueB,bareB,ht]
   clear R1 RI
   go_enter Tryz.func120,Tryz.ntmps120
   go_wp2_with fail
   go_ret
   exact ⟨ret_bool HV.out.symm,(Below.refl _ w).alloc (Nat.le_refl _) _⟩
 | true =>
   cases hz : rootB a b with
   | true =>
     by_cases hn : n=0
     · subst hn
       have HV : Hid (valueB 0 0 t a b=true):=by show valueB 0 0 t a b=true;simp [valueB,bareB,ht,hz]
       rw [hz] at R1
       clear RI
       clear hz
       go_enter Tryz.func120,Tryz.ntmps120
       go_wp2_with fail
       go_at_call 30
       refine (R1 _).mono ?_
       rintro e w1 ⟨rfl,hb⟩
       have bk1:=(Blk.new w 50 #[.int .i64 0,.int .i64 0,.string t,.int .i64 a,.int .i64 b]).keep (hb.block _ hlt)
       have HB1 : Hid (Below w.heap.size w w1∧w.heap.size < w1.heap.size):=⟨((Below.refl _ w).alloc (Nat.le_refl _) _).trans (hb.mono (by simp)),Nat.lt_of_lt_of_le hlt hb.size⟩
       have BK1:=Lib.hid bk1
       have c0 : w1.cell? ⟨w.heap.size,0,none⟩=some (.int .i64 0):=bk1.cell 0
       have c1 : w1.cell? ⟨w.heap.size,1,none⟩=some (.int .i64 0):=bk1.cell 1
       have c2 : w1.cell? ⟨w.heap.size,2,none⟩=some (.string t):=bk1.cell 2
       have c3 : w1.cell? ⟨w.heap.size,3,none⟩=some (.int .i64 a):=bk1.cell 3
       have c4 : w1.cell? ⟨w.heap.size,4,none⟩=some (.int .i64 b):=bk1.cell 4
       clear bk1 hb
       go_wp2_with fail
       go_ret
       exact ⟨ret_bool HV.out.symm,HB1.out.1⟩
     · have HV : Hid (valueB 0 n t a b=false):=by show valueB 0 n t a b=false;simp [valueB,bareB,hn]
       have dn : (n == 0)=false:=by simpa using hn
       rw [hz] at R1
       clear RI
       clear hz hn
       go_enter Tryz.func120,Tryz.ntmps120
       go_wp2_with fail
       go_at_call 30
       refine (R1 _).mono ?_
       rintro e w1 ⟨rfl,hb⟩
       have bk1:=(Blk.new w 50 #[.int .i64 0,.int .i64 n,.string t,.int .i64 a,.int .i64 b]).keep (hb.block _ hlt)
       have HB1 : Hid (Below w.heap.size w w1∧w.heap.size < w1.heap.size):=⟨((Below.refl _ w).alloc (Nat.le_refl _) _).trans (hb.mono (by simp)),Nat.lt_of_lt_of_le hlt hb.size⟩
       have BK1:=Lib.hid bk1
       have c0 : w1.cell? ⟨w.heap.size,0,none⟩=some (.int .i64 0):=bk1.cell 0
       have c1 : w1.cell? ⟨w.heap.size,1,none⟩=some (.int .i64 n):=bk1.cell 1
       have c2 : w1.cell? ⟨w.heap.size,2,none⟩=some (.string t):=bk1.cell 2
       have c3 : w1.cell? ⟨w.heap.size,3,none⟩=some (.int .i64 a):=bk1.cell 3
       have c4 : w1.cell? ⟨w.heap.size,4,none⟩=some (.int .i64 b):=bk1.cell 4
       clear bk1 hb
       go_wp2_with fail
       go_ret
       exact ⟨ret_bool HV.out.symm,HB1.out.1⟩
   | false =>
     have HV : Hid (valueB 0 n t a b=false):=by show valueB 0 n t a b=false;simp [valueB,bareB,ht,hz]
     rw [hz] at R1
     clear RI
     clear hz
     go_enter Tryz.func120,Tryz.ntmps120
     go_wp2_with fail
     go_at_call 30
     refine (R1 _).mono ?_
     rintro e w1 ⟨rfl,hb⟩
     have bk1:=(Blk.new w 50 #[.int .i64 0,.int .i64 n,.string t,.int .i64 a,.int .i64 b]).keep (hb.block _ hlt)
     have HB1 : Hid (Below w.heap.size w w1∧w.heap.size < w1.heap.size):=⟨((Below.refl _ w).alloc (Nat.le_refl _) _).trans (hb.mono (by simp)),Nat.lt_of_lt_of_le hlt hb.size⟩
     have BK1:=Lib.hid bk1
     have c0 : w1.cell? ⟨w.heap.size,0,none⟩=some (.int .i64 0):=bk1.cell 0
     have c1 : w1.cell? ⟨w.heap.size,1,none⟩=some (.int .i64 n):=bk1.cell 1
     have c2 : w1.cell? ⟨w.heap.size,2,none⟩=some (.string t):=bk1.cell 2
     have c3 : w1.cell? ⟨w.heap.size,3,none⟩=some (.int .i64 a):=bk1.cell 3
     have c4 : w1.cell? ⟨w.heap.size,4,none⟩=some (.int .i64 b):=bk1.cell 4
     clear bk1 hb
     go_wp2_with fail
     go_ret
     exact ⟨ret_bool HV.out.symm,HB1.out.1⟩
theorem refValue_1 (n a b : Int) (t : ByteArray) (w : World) :
 Calls Tryz.prog 120 #[.agg #[.int .i64 1,.int .i64 n,.string t,.int .i64 a,.int .i64 b]] w fun e w'=>e=.returned (.bool (valueB 1 n t a b))∧Below w.heap.size w w':=by
 have R1:=refRoot_any a b
 have RI:=refId_any a b
 have hlt : w.heap.size < (w.alloc (.cells #[.int .i64 1,.int .i64 n,.string t,.int .i64 a,.int .i64 b] 50)).heap.size:=by simp
 cases ht : t.toList.isEmpty with
 | false =>
   have HV : Hid (valueB 1 n t a b=false):=by show valueB 1 n t a b=false;simp [valueB,bareB,ht]
   clear R1 RI
   go_enter Tryz.func120,Tryz.ntmps120
   go_wp2_with fail
   go_ret
   exact ⟨ret_bool HV.out.symm,(Below.refl _ w).alloc (Nat.le_refl _) _⟩
 | true =>
   cases hz : rootB a b with
   | true =>
     by_cases hn : n=0
     · subst hn
       have HV : Hid (valueB 1 0 t a b=true):=by show valueB 1 0 t a b=true;simp [valueB,bareB,ht,hz]
       rw [hz] at R1
       clear RI
       clear hz
       go_enter Tryz.func120,Tryz.ntmps120
       go_wp2_with fail
       go_at_call 30
       refine (R1 _).mono ?_
       rintro e w1 ⟨rfl,hb⟩
       have bk1:=(Blk.new w 50 #[.int .i64 1,.int .i64 0,.string t,.int .i64 a,.int .i64 b]).keep (hb.block _ hlt)
       have HB1 : Hid (Below w.heap.size w w1∧w.heap.size < w1.heap.size):=⟨((Below.refl _ w).alloc (Nat.le_refl _) _).trans (hb.mono (by simp)),Nat.lt_of_lt_of_le hlt hb.size⟩
       have BK1:=Lib.hid bk1
       have c0 : w1.cell? ⟨w.heap.size,0,none⟩=some (.int .i64 1):=bk1.cell 0
       have c1 : w1.cell? ⟨w.heap.size,1,none⟩=some (.int .i64 0):=bk1.cell 1
       have c2 : w1.cell? ⟨w.heap.size,2,none⟩=some (.string t):=bk1.cell 2
       have c3 : w1.cell? ⟨w.heap.size,3,none⟩=some (.int .i64 a):=bk1.cell 3
       have c4 : w1.cell? ⟨w.heap.size,4,none⟩=some (.int .i64 b):=bk1.cell 4
       clear bk1 hb
       go_wp2_with fail
       go_ret
       exact ⟨ret_bool HV.out.symm,HB1.out.1⟩
     by_cases hn1 : n=1
     · subst hn1
       have HV : Hid (valueB 1 1 t a b=true):=by show valueB 1 1 t a b=true;simp [valueB,bareB,ht,hz]
       rw [hz] at R1
       clear RI
       clear hz hn
       go_enter Tryz.func120,Tryz.ntmps120
       go_wp2_with fail
       go_at_call 30
       refine (R1 _).mono ?_
       rintro e w1 ⟨rfl,hb⟩
       have bk1:=(Blk.new w 50 #[.int .i64 1,.int .i64 1,.string t,.int .i64 a,.int .i64 b]).keep (hb.block _ hlt)
       have HB1 : Hid (Below w.heap.size w w1∧w.heap.size < w1.heap.size):=⟨((Below.refl _ w).alloc (Nat.le_refl _) _).trans (hb.mono (by simp)),Nat.lt_of_lt_of_le hlt hb.size⟩
       have BK1:=Lib.hid bk1
       have c0 : w1.cell? ⟨w.heap.size,0,none⟩=some (.int .i64 1):=bk1.cell 0
       have c1 : w1.cell? ⟨w.heap.size,1,none⟩=some (.int .i64 1):=bk1.cell 1
       have c2 : w1.cell? ⟨w.heap.size,2,none⟩=some (.string t):=bk1.cell 2
       have c3 : w1.cell? ⟨w.heap.size,3,none⟩=some (.int .i64 a):=bk1.cell 3
       have c4 : w1.cell? ⟨w.heap.size,4,none⟩=some (.int .i64 b):=bk1.cell 4
       clear bk1 hb
       go_wp2_with fail
       go_ret
       exact ⟨ret_bool HV.out.symm,HB1.out.1⟩
     · have HV : Hid (valueB 1 n t a b=false):=by show valueB 1 n t a b=false;simp [valueB,bareB,hn,hn1]
       have dn : (n == 0)=false:=by simpa using hn
       have dn1 : (n == 1)=false:=by simpa using hn1
       rw [hz] at R1
       clear RI
       clear hz hn hn1
       go_enter Tryz.func120,Tryz.ntmps120
       go_wp2_with fail
       go_at_call 30
       refine (R1 _).mono ?_
       rintro e w1 ⟨rfl,hb⟩
       have bk1:=(Blk.new w 50 #[.int .i64 1,.int .i64 n,.string t,.int .i64 a,.int .i64 b]).keep (hb.block _ hlt)
       have HB1 : Hid (Below w.heap.size w w1∧w.heap.size < w1.heap.size):=⟨((Below.refl _ w).alloc (Nat.le_refl _) _).trans (hb.mono (by simp)),Nat.lt_of_lt_of_le hlt hb.size⟩
       have BK1:=Lib.hid bk1
       have c0 : w1.cell? ⟨w.heap.size,0,none⟩=some (.int .i64 1):=bk1.cell 0
       have c1 : w1.cell? ⟨w.heap.size,1,none⟩=some (.int .i64 n):=bk1.cell 1
       have c2 : w1.cell? ⟨w.heap.size,2,none⟩=some (.string t):=bk1.cell 2
       have c3 : w1.cell? ⟨w.heap.size,3,none⟩=some (.int .i64 a):=bk1.cell 3
       have c4 : w1.cell? ⟨w.heap.size,4,none⟩=some (.int .i64 b):=bk1.cell 4
       clear bk1 hb
       go_wp2_with fail
       go_ret
       exact ⟨ret_bool HV.out.symm,HB1.out.1⟩
   | false =>
     have HV : Hid (valueB 1 n t a b=false):=by show valueB 1 n t a b=false;simp [valueB,bareB,ht,hz]
     rw [hz] at R1
     clear RI
     clear hz
     go_enter Tryz.func120,Tryz.ntmps120
     go_wp2_with fail
     go_at_call 30
     refine (R1 _).mono ?_
     rintro e w1 ⟨rfl,hb⟩
     have bk1:=(Blk.new w 50 #[.int .i64 1,.int .i64 n,.string t,.int .i64 a,.int .i64 b]).keep (hb.block _ hlt)
     have HB1 : Hid (Below w.heap.size w w1∧w.heap.size < w1.heap.size):=⟨((Below.refl _ w).alloc (Nat.le_refl _) _).trans (hb.mono (by simp)),Nat.lt_of_lt_of_le hlt hb.size⟩
     have BK1:=Lib.hid bk1
     have c0 : w1.cell? ⟨w.heap.size,0,none⟩=some (.int .i64 1):=bk1.cell 0
     have c1 : w1.cell? ⟨w.heap.size,1,none⟩=some (.int .i64 n):=bk1.cell 1
     have c2 : w1.cell? ⟨w.heap.size,2,none⟩=some (.string t):=bk1.cell 2
     have c3 : w1.cell? ⟨w.heap.size,3,none⟩=some (.int .i64 a):=bk1.cell 3
     have c4 : w1.cell? ⟨w.heap.size,4,none⟩=some (.int .i64 b):=bk1.cell 4
     clear bk1 hb
     go_wp2_with fail
     go_ret
     exact ⟨ret_bool HV.out.symm,HB1.out.1⟩
theorem refValue_2 (n a b : Int) (t : ByteArray) (w : World) :
 Calls Tryz.prog 120 #[.agg #[.int .i64 2,.int .i64 n,.string t,.int .i64 a,.int .i64 b]] w fun e w'=>e=.returned (.bool (valueB 2 n t a b))∧Below w.heap.size w w':=by
 have R1:=refRoot_any a b
 have RI:=refId_any a b
 have hlt : w.heap.size < (w.alloc (.cells #[.int .i64 2,.int .i64 n,.string t,.int .i64 a,.int .i64 b] 50)).heap.size:=by simp
 cases ht : t.toList.isEmpty with
 | false =>
   have HV : Hid (valueB 2 n t a b=false):=by show valueB 2 n t a b=false;simp [valueB,bareB,ht]
   clear R1 RI
   go_enter Tryz.func120,Tryz.ntmps120
   go_wp2_with fail
   go_ret
   exact ⟨ret_bool HV.out.symm,(Below.refl _ w).alloc (Nat.le_refl _) _⟩
 | true =>
   cases hz : rootB a b with
   | true =>
     have HV : Hid (valueB 2 n t a b=true):=by show valueB 2 n t a b=true;simp [valueB,bareB,ht,hz]
     rw [hz] at R1
     clear RI
     clear hz
     go_enter Tryz.func120,Tryz.ntmps120
     go_wp2_with fail
     go_at_call 30
     refine (R1 _).mono ?_
     rintro e w1 ⟨rfl,hb⟩
     have bk1:=(Blk.new w 50 #[.int .i64 2,.int .i64 n,.string t,.int .i64 a,.int .i64 b]).keep (hb.block _ hlt)
     have HB1 : Hid (Below w.heap.size w w1∧w.heap.size < w1.heap.size):=⟨((Below.refl _ w).alloc (Nat.le_refl _) _).trans (hb.mono (by simp)),Nat.lt_of_lt_of_le hlt hb.size⟩
     have BK1:=Lib.hid bk1
     have c0 : w1.cell? ⟨w.heap.size,0,none⟩=some (.int .i64 2):=bk1.cell 0
     have c1 : w1.cell? ⟨w.heap.size,1,none⟩=some (.int .i64 n):=bk1.cell 1
     have c2 : w1.cell? ⟨w.heap.size,2,none⟩=some (.string t):=bk1.cell 2
     have c3 : w1.cell? ⟨w.heap.size,3,none⟩=some (.int .i64 a):=bk1.cell 3
     have c4 : w1.cell? ⟨w.heap.size,4,none⟩=some (.int .i64 b):=bk1.cell 4
     clear bk1 hb
     go_wp2_with fail
     go_ret
     exact ⟨ret_bool HV.out.symm,HB1.out.1⟩
   | false =>
     have HV : Hid (valueB 2 n t a b=false):=by show valueB 2 n t a b=false;simp [valueB,bareB,ht,hz]
     rw [hz] at R1
     clear RI
     clear hz
     go_enter Tryz.func120,Tryz.ntmps120
     go_wp2_with fail
     go_at_call 30
     refine (R1 _).mono ?_
     rintro e w1 ⟨rfl,hb⟩
     have bk1:=(Blk.new w 50 #[.int .i64 2,.int .i64 n,.string t,.int .i64 a,.int .i64 b]).keep (hb.block _ hlt)
     have HB1 : Hid (Below w.heap.size w w1∧w.heap.size < w1.heap.size):=⟨((Below.refl _ w).alloc (Nat.le_refl _) _).trans (hb.mono (by simp)),Nat.lt_of_lt_of_le hlt hb.size⟩
     have BK1:=Lib.hid bk1
     have c0 : w1.cell? ⟨w.heap.size,0,none⟩=some (.int .i64 2):=bk1.cell 0
     have c1 : w1.cell? ⟨w.heap.size,1,none⟩=some (.int .i64 n):=bk1.cell 1
     have c2 : w1.cell? ⟨w.heap.size,2,none⟩=some (.string t):=bk1.cell 2
     have c3 : w1.cell? ⟨w.heap.size,3,none⟩=some (.int .i64 a):=bk1.cell 3
     have c4 : w1.cell? ⟨w.heap.size,4,none⟩=some (.int .i64 b):=bk1.cell 4
     clear bk1 hb
     go_wp2_with fail
     go_ret
     exact ⟨ret_bool HV.out.symm,HB1.out.1⟩
theorem refValue_4 (n a b : Int) (t : ByteArray) (w : World) :
 Calls Tryz.prog 120 #[.agg #[.int .i64 4,.int .i64 n,.string t,.int .i64 a,.int .i64 b]] w fun e w'=>e=.returned (.bool (valueB 4 n t a b))∧Below w.heap.size w w':=by
 have R1:=refRoot_any a b
 have RI:=refId_any a b
 have hlt : w.heap.size < (w.alloc (.cells #[.int .i64 4,.int .i64 n,.string t,.int .i64 a,.int .i64 b] 50)).heap.size:=by simp
 cases ht : t.toList.isEmpty with
 | false =>
   have HV : Hid (valueB 4 n t a b=false):=by show valueB 4 n t a b=false;simp [valueB,bareB,ht]
   clear R1 RI
   go_enter Tryz.func120,Tryz.ntmps120
   go_wp2_with fail
   go_ret
   exact ⟨ret_bool HV.out.symm,(Below.refl _ w).alloc (Nat.le_refl _) _⟩
 | true =>
   cases hz : rootB a b with
   | true =>
     have HV : Hid (valueB 4 n t a b=true):=by show valueB 4 n t a b=true;simp [valueB,bareB,ht,hz]
     rw [hz] at R1
     clear RI
     clear hz
     go_enter Tryz.func120,Tryz.ntmps120
     go_wp2_with fail
     go_at_call 30
     refine (R1 _).mono ?_
     rintro e w1 ⟨rfl,hb⟩
     have bk1:=(Blk.new w 50 #[.int .i64 4,.int .i64 n,.string t,.int .i64 a,.int .i64 b]).keep (hb.block _ hlt)
     have HB1 : Hid (Below w.heap.size w w1∧w.heap.size < w1.heap.size):=⟨((Below.refl _ w).alloc (Nat.le_refl _) _).trans (hb.mono (by simp)),Nat.lt_of_lt_of_le hlt hb.size⟩
     have BK1:=Lib.hid bk1
     have c0 : w1.cell? ⟨w.heap.size,0,none⟩=some (.int .i64 4):=bk1.cell 0
     have c1 : w1.cell? ⟨w.heap.size,1,none⟩=some (.int .i64 n):=bk1.cell 1
     have c2 : w1.cell? ⟨w.heap.size,2,none⟩=some (.string t):=bk1.cell 2
     have c3 : w1.cell? ⟨w.heap.size,3,none⟩=some (.int .i64 a):=bk1.cell 3
     have c4 : w1.cell? ⟨w.heap.size,4,none⟩=some (.int .i64 b):=bk1.cell 4
     clear bk1 hb
     go_wp2_with fail
     go_ret
     exact ⟨ret_bool HV.out.symm,HB1.out.1⟩
   | false =>
     have HV : Hid (valueB 4 n t a b=false):=by show valueB 4 n t a b=false;simp [valueB,bareB,ht,hz]
     rw [hz] at R1
     clear RI
     clear hz
     go_enter Tryz.func120,Tryz.ntmps120
     go_wp2_with fail
     go_at_call 30
     refine (R1 _).mono ?_
     rintro e w1 ⟨rfl,hb⟩
     have bk1:=(Blk.new w 50 #[.int .i64 4,.int .i64 n,.string t,.int .i64 a,.int .i64 b]).keep (hb.block _ hlt)
     have HB1 : Hid (Below w.heap.size w w1∧w.heap.size < w1.heap.size):=⟨((Below.refl _ w).alloc (Nat.le_refl _) _).trans (hb.mono (by simp)),Nat.lt_of_lt_of_le hlt hb.size⟩
     have BK1:=Lib.hid bk1
     have c0 : w1.cell? ⟨w.heap.size,0,none⟩=some (.int .i64 4):=bk1.cell 0
     have c1 : w1.cell? ⟨w.heap.size,1,none⟩=some (.int .i64 n):=bk1.cell 1
     have c2 : w1.cell? ⟨w.heap.size,2,none⟩=some (.string t):=bk1.cell 2
     have c3 : w1.cell? ⟨w.heap.size,3,none⟩=some (.int .i64 a):=bk1.cell 3
     have c4 : w1.cell? ⟨w.heap.size,4,none⟩=some (.int .i64 b):=bk1.cell 4
     clear bk1 hb
     go_wp2_with fail
     go_ret
     exact ⟨ret_bool HV.out.symm,HB1.out.1⟩
theorem refValue_3 (n a b : Int) (t : ByteArray) (w : World) :
 Calls Tryz.prog 120 #[.agg #[.int .i64 3,.int .i64 n,.string t,.int .i64 a,.int .i64 b]] w fun e w'=>e=.returned (.bool (valueB 3 n t a b))∧Below w.heap.size w w':=by
 have R1:=refRoot_any a b
 have RI:=refId_any a b
 have hlt : w.heap.size < (w.alloc (.cells #[.int .i64 3,.int .i64 n,.string t,.int .i64 a,.int .i64 b] 50)).heap.size:=by simp
 cases ht : t.toList.isEmpty with
 | false =>
   by_cases hn : n=0
   · subst hn
     by_cases h60 : t.size≤60
     · have d60 : decide ((t.size : Int)≤60)=true:=decide_eq_true (by omega)
       cases hz : rootB a b with
       | true =>
         have HV : Hid (valueB 3 0 t a b=true):=by show valueB 3 0 t a b=true;simp [valueB,bareB,hz,h60]
         rw [hz] at R1
         clear RI h60
         go_enter Tryz.func120,Tryz.ntmps120
         go_wp2_with fail
         go_at_call 30
         refine (R1 _).mono ?_
         rintro e w1 ⟨rfl,hb⟩
         have bk1:=(Blk.new w 50 #[.int .i64 3,.int .i64 0,.string t,.int .i64 a,.int .i64 b]).keep (hb.block _ hlt)
         have HB1 : Hid (Below w.heap.size w w1∧w.heap.size < w1.heap.size):=⟨((Below.refl _ w).alloc (Nat.le_refl _) _).trans (hb.mono (by simp)),Nat.lt_of_lt_of_le hlt hb.size⟩
         have BK1:=Lib.hid bk1
         have c0 : w1.cell? ⟨w.heap.size,0,none⟩=some (.int .i64 3):=bk1.cell 0
         have c1 : w1.cell? ⟨w.heap.size,1,none⟩=some (.int .i64 0):=bk1.cell 1
         have c2 : w1.cell? ⟨w.heap.size,2,none⟩=some (.string t):=bk1.cell 2
         have c3 : w1.cell? ⟨w.heap.size,3,none⟩=some (.int .i64 a):=bk1.cell 3
         have c4 : w1.cell? ⟨w.heap.size,4,none⟩=some (.int .i64 b):=bk1.cell 4
         clear bk1 hb
         go_wp2_with fail
         go_ret
         exact ⟨ret_bool HV.out.symm,HB1.out.1⟩
       | false =>
         have HV : Hid (valueB 3 0 t a b=false):=by show valueB 3 0 t a b=false;simp [valueB,bareB,hz,h60]
         rw [hz] at R1
         clear RI h60
         go_enter Tryz.func120,Tryz.ntmps120
         go_wp2_with fail
         go_at_call 30
         refine (R1 _).mono ?_
         rintro e w1 ⟨rfl,hb⟩
         have bk1:=(Blk.new w 50 #[.int .i64 3,.int .i64 0,.string t,.int .i64 a,.int .i64 b]).keep (hb.block _ hlt)
         have HB1 : Hid (Below w.heap.size w w1∧w.heap.size < w1.heap.size):=⟨((Below.refl _ w).alloc (Nat.le_refl _) _).trans (hb.mono (by simp)),Nat.lt_of_lt_of_le hlt hb.size⟩
         have BK1:=Lib.hid bk1
         have c0 : w1.cell? ⟨w.heap.size,0,none⟩=some (.int .i64 3):=bk1.cell 0
         have c1 : w1.cell? ⟨w.heap.size,1,none⟩=some (.int .i64 0):=bk1.cell 1
         have c2 : w1.cell? ⟨w.heap.size,2,none⟩=some (.string t):=bk1.cell 2
         have c3 : w1.cell? ⟨w.heap.size,3,none⟩=some (.int .i64 a):=bk1.cell 3
         have c4 : w1.cell? ⟨w.heap.size,4,none⟩=some (.int .i64 b):=bk1.cell 4
         clear bk1 hb
         go_wp2_with fail
         go_ret
         exact ⟨ret_bool HV.out.symm,HB1.out.1⟩
     · have d60 : decide ((t.size : Int)≤60)=false:=decide_eq_false (by omega)
       cases hz : rootB a b with
       | true =>
         have HV : Hid (valueB 3 0 t a b=false):=by show valueB 3 0 t a b=false;simp [valueB,bareB,hz,h60]
         rw [hz] at R1
         clear RI h60
         go_enter Tryz.func120,Tryz.ntmps120
         go_wp2_with fail
         go_at_call 30
         refine (R1 _).mono ?_
         rintro e w1 ⟨rfl,hb⟩
         have bk1:=(Blk.new w 50 #[.int .i64 3,.int .i64 0,.string t,.int .i64 a,.int .i64 b]).keep (hb.block _ hlt)
         have HB1 : Hid (Below w.heap.size w w1∧w.heap.size < w1.heap.size):=⟨((Below.refl _ w).alloc (Nat.le_refl _) _).trans (hb.mono (by simp)),Nat.lt_of_lt_of_le hlt hb.size⟩
         have BK1:=Lib.hid bk1
         have c0 : w1.cell? ⟨w.heap.size,0,none⟩=some (.int .i64 3):=bk1.cell 0
         have c1 : w1.cell? ⟨w.heap.size,1,none⟩=some (.int .i64 0):=bk1.cell 1
         have c2 : w1.cell? ⟨w.heap.size,2,none⟩=some (.string t):=bk1.cell 2
         have c3 : w1.cell? ⟨w.heap.size,3,none⟩=some (.int .i64 a):=bk1.cell 3
         have c4 : w1.cell? ⟨w.heap.size,4,none⟩=some (.int .i64 b):=bk1.cell 4
         clear bk1 hb
         go_wp2_with fail
         go_ret
         exact ⟨ret_bool HV.out.symm,HB1.out.1⟩
       | false =>
         have HV : Hid (valueB 3 0 t a b=false):=by show valueB 3 0 t a b=false;simp [valueB,bareB,hz,h60]
         rw [hz] at R1
         clear RI h60
         go_enter Tryz.func120,Tryz.ntmps120
         go_wp2_with fail
         go_at_call 30
         refine (R1 _).mono ?_
         rintro e w1 ⟨rfl,hb⟩
         have bk1:=(Blk.new w 50 #[.int .i64 3,.int .i64 0,.string t,.int .i64 a,.int .i64 b]).keep (hb.block _ hlt)
         have HB1 : Hid (Below w.heap.size w w1∧w.heap.size < w1.heap.size):=⟨((Below.refl _ w).alloc (Nat.le_refl _) _).trans (hb.mono (by simp)),Nat.lt_of_lt_of_le hlt hb.size⟩
         have BK1:=Lib.hid bk1
         have c0 : w1.cell? ⟨w.heap.size,0,none⟩=some (.int .i64 3):=bk1.cell 0
         have c1 : w1.cell? ⟨w.heap.size,1,none⟩=some (.int .i64 0):=bk1.cell 1
         have c2 : w1.cell? ⟨w.heap.size,2,none⟩=some (.string t):=bk1.cell 2
         have c3 : w1.cell? ⟨w.heap.size,3,none⟩=some (.int .i64 a):=bk1.cell 3
         have c4 : w1.cell? ⟨w.heap.size,4,none⟩=some (.int .i64 b):=bk1.cell 4
         clear bk1 hb
         go_wp2_with fail
         go_ret
         exact ⟨ret_bool HV.out.symm,HB1.out.1⟩
   · have HV : Hid (valueB 3 n t a b=false):=by show valueB 3 n t a b=false;simp [valueB,bareB,hn]
     have dn : (n == 0)=false:=by simpa using hn
     clear R1 RI hn
     go_enter Tryz.func120,Tryz.ntmps120
     go_wp2_with fail
     go_ret
     exact ⟨ret_bool HV.out.symm,(Below.refl _ w).alloc (Nat.le_refl _) _⟩
 | true =>
   cases hz : rootB a b with
   | true =>
     by_cases hn : n=0
     · subst hn
       by_cases h60 : t.size≤60
       · have d60 : decide ((t.size : Int)≤60)=true:=decide_eq_true (by omega)
         have HV : Hid (valueB 3 0 t a b=true):=by show valueB 3 0 t a b=true;simp [valueB,bareB,hz,h60]
         rw [hz] at R1
         clear RI
         clear hz h60
         go_enter Tryz.func120,Tryz.ntmps120
         go_wp2_with fail
         go_at_call 30
         refine (R1 _).mono ?_
         rintro e w1 ⟨rfl,hb⟩
         have bk1:=(Blk.new w 50 #[.int .i64 3,.int .i64 0,.string t,.int .i64 a,.int .i64 b]).keep (hb.block _ hlt)
         have HB1 : Hid (Below w.heap.size w w1∧w.heap.size < w1.heap.size):=⟨((Below.refl _ w).alloc (Nat.le_refl _) _).trans (hb.mono (by simp)),Nat.lt_of_lt_of_le hlt hb.size⟩
         have BK1:=Lib.hid bk1
         have c0 : w1.cell? ⟨w.heap.size,0,none⟩=some (.int .i64 3):=bk1.cell 0
         have c1 : w1.cell? ⟨w.heap.size,1,none⟩=some (.int .i64 0):=bk1.cell 1
         have c2 : w1.cell? ⟨w.heap.size,2,none⟩=some (.string t):=bk1.cell 2
         have c3 : w1.cell? ⟨w.heap.size,3,none⟩=some (.int .i64 a):=bk1.cell 3
         have c4 : w1.cell? ⟨w.heap.size,4,none⟩=some (.int .i64 b):=bk1.cell 4
         clear bk1 hb
         go_wp2_with fail
         go_at_call 30
         refine (R1 _).mono ?_
         rintro e w2 ⟨rfl,hb⟩
         have bk2:=BK1.out.keep (hb.block _ HB1.out.2)
         have HB2 : Hid (Below w.heap.size w w2):=HB1.out.1.trans (hb.mono HB1.out.1.size)
         clear c0 c1 c2 c3 c4
         have c0 : w2.cell? ⟨w.heap.size,0,none⟩=some (.int .i64 3):=bk2.cell 0
         have c1 : w2.cell? ⟨w.heap.size,1,none⟩=some (.int .i64 0):=bk2.cell 1
         have c2 : w2.cell? ⟨w.heap.size,2,none⟩=some (.string t):=bk2.cell 2
         have c3 : w2.cell? ⟨w.heap.size,3,none⟩=some (.int .i64 a):=bk2.cell 3
         have c4 : w2.cell? ⟨w.heap.size,4,none⟩=some (.int .i64 b):=bk2.cell 4
         clear bk2 hb
         go_wp2_with fail
         go_ret
         exact ⟨ret_bool HV.out.symm,HB2.out⟩
       · have d60 : decide ((t.size : Int)≤60)=false:=decide_eq_false (by omega)
         have HV : Hid (valueB 3 0 t a b=false):=by show valueB 3 0 t a b=false;simp [valueB,bareB,hz,h60]
         rw [hz] at R1
         clear RI
         clear hz h60
         go_enter Tryz.func120,Tryz.ntmps120
         go_wp2_with fail
         go_at_call 30
         refine (R1 _).mono ?_
         rintro e w1 ⟨rfl,hb⟩
         have bk1:=(Blk.new w 50 #[.int .i64 3,.int .i64 0,.string t,.int .i64 a,.int .i64 b]).keep (hb.block _ hlt)
         have HB1 : Hid (Below w.heap.size w w1∧w.heap.size < w1.heap.size):=⟨((Below.refl _ w).alloc (Nat.le_refl _) _).trans (hb.mono (by simp)),Nat.lt_of_lt_of_le hlt hb.size⟩
         have BK1:=Lib.hid bk1
         have c0 : w1.cell? ⟨w.heap.size,0,none⟩=some (.int .i64 3):=bk1.cell 0
         have c1 : w1.cell? ⟨w.heap.size,1,none⟩=some (.int .i64 0):=bk1.cell 1
         have c2 : w1.cell? ⟨w.heap.size,2,none⟩=some (.string t):=bk1.cell 2
         have c3 : w1.cell? ⟨w.heap.size,3,none⟩=some (.int .i64 a):=bk1.cell 3
         have c4 : w1.cell? ⟨w.heap.size,4,none⟩=some (.int .i64 b):=bk1.cell 4
         clear bk1 hb
         go_wp2_with fail
         go_at_call 30
         refine (R1 _).mono ?_
         rintro e w2 ⟨rfl,hb⟩
         have bk2:=BK1.out.keep (hb.block _ HB1.out.2)
         have HB2 : Hid (Below w.heap.size w w2):=HB1.out.1.trans (hb.mono HB1.out.1.size)
         clear c0 c1 c2 c3 c4
         have c0 : w2.cell? ⟨w.heap.size,0,none⟩=some (.int .i64 3):=bk2.cell 0
         have c1 : w2.cell? ⟨w.heap.size,1,none⟩=some (.int .i64 0):=bk2.cell 1
         have c2 : w2.cell? ⟨w.heap.size,2,none⟩=some (.string t):=bk2.cell 2
         have c3 : w2.cell? ⟨w.heap.size,3,none⟩=some (.int .i64 a):=bk2.cell 3
         have c4 : w2.cell? ⟨w.heap.size,4,none⟩=some (.int .i64 b):=bk2.cell 4
         clear bk2 hb
         go_wp2_with fail
         go_ret
         exact ⟨ret_bool HV.out.symm,HB2.out⟩
     · have HV : Hid (valueB 3 n t a b=false):=by show valueB 3 n t a b=false;simp [valueB,bareB,hn]
       have dn : (n == 0)=false:=by simpa using hn
       rw [hz] at R1
       clear RI
       clear hz hn
       go_enter Tryz.func120,Tryz.ntmps120
       go_wp2_with fail
       go_at_call 30
       refine (R1 _).mono ?_
       rintro e w1 ⟨rfl,hb⟩
       have bk1:=(Blk.new w 50 #[.int .i64 3,.int .i64 n,.string t,.int .i64 a,.int .i64 b]).keep (hb.block _ hlt)
       have HB1 : Hid (Below w.heap.size w w1∧w.heap.size < w1.heap.size):=⟨((Below.refl _ w).alloc (Nat.le_refl _) _).trans (hb.mono (by simp)),Nat.lt_of_lt_of_le hlt hb.size⟩
       have BK1:=Lib.hid bk1
       have c0 : w1.cell? ⟨w.heap.size,0,none⟩=some (.int .i64 3):=bk1.cell 0
       have c1 : w1.cell? ⟨w.heap.size,1,none⟩=some (.int .i64 n):=bk1.cell 1
       have c2 : w1.cell? ⟨w.heap.size,2,none⟩=some (.string t):=bk1.cell 2
       have c3 : w1.cell? ⟨w.heap.size,3,none⟩=some (.int .i64 a):=bk1.cell 3
       have c4 : w1.cell? ⟨w.heap.size,4,none⟩=some (.int .i64 b):=bk1.cell 4
       clear bk1 hb
       go_wp2_with fail
       go_ret
       exact ⟨ret_bool HV.out.symm,HB1.out.1⟩
   | false =>
     by_cases hn : n=0
     · subst hn
       by_cases h60 : t.size≤60
       · have d60 : decide ((t.size : Int)≤60)=true:=decide_eq_true (by omega)
         have HV : Hid (valueB 3 0 t a b=false):=by show valueB 3 0 t a b=false;simp [valueB,bareB,hz,h60]
         rw [hz] at R1
         clear RI
         clear hz h60
         go_enter Tryz.func120,Tryz.ntmps120
         go_wp2_with fail
         go_at_call 30
         refine (R1 _).mono ?_
         rintro e w1 ⟨rfl,hb⟩
         have bk1:=(Blk.new w 50 #[.int .i64 3,.int .i64 0,.string t,.int .i64 a,.int .i64 b]).keep (hb.block _ hlt)
         have HB1 : Hid (Below w.heap.size w w1∧w.heap.size < w1.heap.size):=⟨((Below.refl _ w).alloc (Nat.le_refl _) _).trans (hb.mono (by simp)),Nat.lt_of_lt_of_le hlt hb.size⟩
         have BK1:=Lib.hid bk1
         have c0 : w1.cell? ⟨w.heap.size,0,none⟩=some (.int .i64 3):=bk1.cell 0
         have c1 : w1.cell? ⟨w.heap.size,1,none⟩=some (.int .i64 0):=bk1.cell 1
         have c2 : w1.cell? ⟨w.heap.size,2,none⟩=some (.string t):=bk1.cell 2
         have c3 : w1.cell? ⟨w.heap.size,3,none⟩=some (.int .i64 a):=bk1.cell 3
         have c4 : w1.cell? ⟨w.heap.size,4,none⟩=some (.int .i64 b):=bk1.cell 4
         clear bk1 hb
         go_wp2_with fail
         go_at_call 30
         refine (R1 _).mono ?_
         rintro e w2 ⟨rfl,hb⟩
         have bk2:=BK1.out.keep (hb.block _ HB1.out.2)
         have HB2 : Hid (Below w.heap.size w w2):=HB1.out.1.trans (hb.mono HB1.out.1.size)
         clear c0 c1 c2 c3 c4
         have c0 : w2.cell? ⟨w.heap.size,0,none⟩=some (.int .i64 3):=bk2.cell 0
         have c1 : w2.cell? ⟨w.heap.size,1,none⟩=some (.int .i64 0):=bk2.cell 1
         have c2 : w2.cell? ⟨w.heap.size,2,none⟩=some (.string t):=bk2.cell 2
         have c3 : w2.cell? ⟨w.heap.size,3,none⟩=some (.int .i64 a):=bk2.cell 3
         have c4 : w2.cell? ⟨w.heap.size,4,none⟩=some (.int .i64 b):=bk2.cell 4
         clear bk2 hb
         go_wp2_with fail
         go_ret
         exact ⟨ret_bool HV.out.symm,HB2.out⟩
       · have d60 : decide ((t.size : Int)≤60)=false:=decide_eq_false (by omega)
         have HV : Hid (valueB 3 0 t a b=false):=by show valueB 3 0 t a b=false;simp [valueB,bareB,hz,h60]
         rw [hz] at R1
         clear RI
         clear hz h60
         go_enter Tryz.func120,Tryz.ntmps120
         go_wp2_with fail
         go_at_call 30
         refine (R1 _).mono ?_
         rintro e w1 ⟨rfl,hb⟩
         have bk1:=(Blk.new w 50 #[.int .i64 3,.int .i64 0,.string t,.int .i64 a,.int .i64 b]).keep (hb.block _ hlt)
         have HB1 : Hid (Below w.heap.size w w1∧w.heap.size < w1.heap.size):=⟨((Below.refl _ w).alloc (Nat.le_refl _) _).trans (hb.mono (by simp)),Nat.lt_of_lt_of_le hlt hb.size⟩
         have BK1:=Lib.hid bk1
         have c0 : w1.cell? ⟨w.heap.size,0,none⟩=some (.int .i64 3):=bk1.cell 0
         have c1 : w1.cell? ⟨w.heap.size,1,none⟩=some (.int .i64 0):=bk1.cell 1
         have c2 : w1.cell? ⟨w.heap.size,2,none⟩=some (.string t):=bk1.cell 2
         have c3 : w1.cell? ⟨w.heap.size,3,none⟩=some (.int .i64 a):=bk1.cell 3
         have c4 : w1.cell? ⟨w.heap.size,4,none⟩=some (.int .i64 b):=bk1.cell 4
         clear bk1 hb
         go_wp2_with fail
         go_at_call 30
         refine (R1 _).mono ?_
         rintro e w2 ⟨rfl,hb⟩
         have bk2:=BK1.out.keep (hb.block _ HB1.out.2)
         have HB2 : Hid (Below w.heap.size w w2):=HB1.out.1.trans (hb.mono HB1.out.1.size)
         clear c0 c1 c2 c3 c4
         have c0 : w2.cell? ⟨w.heap.size,0,none⟩=some (.int .i64 3):=bk2.cell 0
         have c1 : w2.cell? ⟨w.heap.size,1,none⟩=some (.int .i64 0):=bk2.cell 1
         have c2 : w2.cell? ⟨w.heap.size,2,none⟩=some (.string t):=bk2.cell 2
         have c3 : w2.cell? ⟨w.heap.size,3,none⟩=some (.int .i64 a):=bk2.cell 3
         have c4 : w2.cell? ⟨w.heap.size,4,none⟩=some (.int .i64 b):=bk2.cell 4
         clear bk2 hb
         go_wp2_with fail
         go_ret
         exact ⟨ret_bool HV.out.symm,HB2.out⟩
     · have HV : Hid (valueB 3 n t a b=false):=by show valueB 3 n t a b=false;simp [valueB,bareB,hn]
       have dn : (n == 0)=false:=by simpa using hn
       rw [hz] at R1
       clear RI
       clear hz hn
       go_enter Tryz.func120,Tryz.ntmps120
       go_wp2_with fail
       go_at_call 30
       refine (R1 _).mono ?_
       rintro e w1 ⟨rfl,hb⟩
       have bk1:=(Blk.new w 50 #[.int .i64 3,.int .i64 n,.string t,.int .i64 a,.int .i64 b]).keep (hb.block _ hlt)
       have HB1 : Hid (Below w.heap.size w w1∧w.heap.size < w1.heap.size):=⟨((Below.refl _ w).alloc (Nat.le_refl _) _).trans (hb.mono (by simp)),Nat.lt_of_lt_of_le hlt hb.size⟩
       have BK1:=Lib.hid bk1
       have c0 : w1.cell? ⟨w.heap.size,0,none⟩=some (.int .i64 3):=bk1.cell 0
       have c1 : w1.cell? ⟨w.heap.size,1,none⟩=some (.int .i64 n):=bk1.cell 1
       have c2 : w1.cell? ⟨w.heap.size,2,none⟩=some (.string t):=bk1.cell 2
       have c3 : w1.cell? ⟨w.heap.size,3,none⟩=some (.int .i64 a):=bk1.cell 3
       have c4 : w1.cell? ⟨w.heap.size,4,none⟩=some (.int .i64 b):=bk1.cell 4
       clear bk1 hb
       go_wp2_with fail
       go_ret
       exact ⟨ret_bool HV.out.symm,HB1.out.1⟩
theorem refValue_5 (n a b : Int) (t : ByteArray) (w : World) :
 Calls Tryz.prog 120 #[.agg #[.int .i64 5,.int .i64 n,.string t,.int .i64 a,.int .i64 b]] w fun e w'=>e=.returned (.bool (valueB 5 n t a b))∧Below w.heap.size w w':=by
 have R1:=refRoot_any a b
 have RI:=refId_any a b
 have hlt : w.heap.size < (w.alloc (.cells #[.int .i64 5,.int .i64 n,.string t,.int .i64 a,.int .i64 b] 50)).heap.size:=by simp
 cases ht : t.toList.isEmpty with
 | false =>
   by_cases hn : n=0
   · subst hn
     have HV : Hid (valueB 5 0 t a b=false):=by show valueB 5 0 t a b=false;simp [valueB,bareB,ht]
     clear R1 RI
     go_enter Tryz.func120,Tryz.ntmps120
     go_wp2_with fail
     go_ret
     exact ⟨ret_bool HV.out.symm,(Below.refl _ w).alloc (Nat.le_refl _) _⟩
   · have HV : Hid (valueB 5 n t a b=false):=by show valueB 5 n t a b=false;simp [valueB,bareB,hn]
     have dn : (n == 0)=false:=by simpa using hn
     clear R1 RI hn
     go_enter Tryz.func120,Tryz.ntmps120
     go_wp2_with fail
     go_ret
     exact ⟨ret_bool HV.out.symm,(Below.refl _ w).alloc (Nat.le_refl _) _⟩
 | true =>
   by_cases hn : n=0
   · subst hn
     cases hz : rootB a b with
     | true =>
       have HV : Hid (valueB 5 0 t a b=idB a b):=by show valueB 5 0 t a b=idB a b;simp [valueB,bareB,ht]
       rw [hz] at R1
       generalize idB a b=i at RI HV
       clear hz
       go_enter Tryz.func120,Tryz.ntmps120
       go_wp2_with fail
       go_at_call 30
       refine (R1 _).mono ?_
       rintro e w1 ⟨rfl,hb⟩
       have bk1:=(Blk.new w 50 #[.int .i64 5,.int .i64 0,.string t,.int .i64 a,.int .i64 b]).keep (hb.block _ hlt)
       have HB1 : Hid (Below w.heap.size w w1∧w.heap.size < w1.heap.size):=⟨((Below.refl _ w).alloc (Nat.le_refl _) _).trans (hb.mono (by simp)),Nat.lt_of_lt_of_le hlt hb.size⟩
       have BK1:=Lib.hid bk1
       have c0 : w1.cell? ⟨w.heap.size,0,none⟩=some (.int .i64 5):=bk1.cell 0
       have c1 : w1.cell? ⟨w.heap.size,1,none⟩=some (.int .i64 0):=bk1.cell 1
       have c2 : w1.cell? ⟨w.heap.size,2,none⟩=some (.string t):=bk1.cell 2
       have c3 : w1.cell? ⟨w.heap.size,3,none⟩=some (.int .i64 a):=bk1.cell 3
       have c4 : w1.cell? ⟨w.heap.size,4,none⟩=some (.int .i64 b):=bk1.cell 4
       clear bk1 hb
       go_wp2_with fail
       go_at_call 118
       refine (RI _).mono ?_
       rintro e w2 ⟨rfl,hb⟩
       have HB2 : Hid (Below w.heap.size w w2):=HB1.out.1.trans (hb.mono HB1.out.1.size)
       clear hb
       go_wp2_with fail
       go_ret
       exact ⟨ret_bool HV.out.symm,HB2.out⟩
     | false =>
       have HV : Hid (valueB 5 0 t a b=idB a b):=by show valueB 5 0 t a b=idB a b;simp [valueB,bareB,ht]
       rw [hz] at R1
       generalize idB a b=i at RI HV
       clear hz
       go_enter Tryz.func120,Tryz.ntmps120
       go_wp2_with fail
       go_at_call 30
       refine (R1 _).mono ?_
       rintro e w1 ⟨rfl,hb⟩
       have bk1:=(Blk.new w 50 #[.int .i64 5,.int .i64 0,.string t,.int .i64 a,.int .i64 b]).keep (hb.block _ hlt)
       have HB1 : Hid (Below w.heap.size w w1∧w.heap.size < w1.heap.size):=⟨((Below.refl _ w).alloc (Nat.le_refl _) _).trans (hb.mono (by simp)),Nat.lt_of_lt_of_le hlt hb.size⟩
       have BK1:=Lib.hid bk1
       have c0 : w1.cell? ⟨w.heap.size,0,none⟩=some (.int .i64 5):=bk1.cell 0
       have c1 : w1.cell? ⟨w.heap.size,1,none⟩=some (.int .i64 0):=bk1.cell 1
       have c2 : w1.cell? ⟨w.heap.size,2,none⟩=some (.string t):=bk1.cell 2
       have c3 : w1.cell? ⟨w.heap.size,3,none⟩=some (.int .i64 a):=bk1.cell 3
       have c4 : w1.cell? ⟨w.heap.size,4,none⟩=some (.int .i64 b):=bk1.cell 4
       clear bk1 hb
       go_wp2_with fail
       go_at_call 118
       refine (RI _).mono ?_
       rintro e w2 ⟨rfl,hb⟩
       have HB2 : Hid (Below w.heap.size w w2):=HB1.out.1.trans (hb.mono HB1.out.1.size)
       clear hb
       go_wp2_with fail
       go_ret
       exact ⟨ret_bool HV.out.symm,HB2.out⟩
   · have HV : Hid (valueB 5 n t a b=false):=by show valueB 5 n t a b=false;simp [valueB,bareB,hn]
     have dn : (n == 0)=false:=by simpa using hn
     clear hn
     cases hz : rootB a b with
     | true =>
       rw [hz] at R1
       clear RI hz
       go_enter Tryz.func120,Tryz.ntmps120
       go_wp2_with fail
       go_at_call 30
       refine (R1 _).mono ?_
       rintro e w1 ⟨rfl,hb⟩
       have bk1:=(Blk.new w 50 #[.int .i64 5,.int .i64 n,.string t,.int .i64 a,.int .i64 b]).keep (hb.block _ hlt)
       have HB1 : Hid (Below w.heap.size w w1∧w.heap.size < w1.heap.size):=⟨((Below.refl _ w).alloc (Nat.le_refl _) _).trans (hb.mono (by simp)),Nat.lt_of_lt_of_le hlt hb.size⟩
       have BK1:=Lib.hid bk1
       have c0 : w1.cell? ⟨w.heap.size,0,none⟩=some (.int .i64 5):=bk1.cell 0
       have c1 : w1.cell? ⟨w.heap.size,1,none⟩=some (.int .i64 n):=bk1.cell 1
       have c2 : w1.cell? ⟨w.heap.size,2,none⟩=some (.string t):=bk1.cell 2
       have c3 : w1.cell? ⟨w.heap.size,3,none⟩=some (.int .i64 a):=bk1.cell 3
       have c4 : w1.cell? ⟨w.heap.size,4,none⟩=some (.int .i64 b):=bk1.cell 4
       clear bk1 hb
       go_wp2_with fail
       go_ret
       exact ⟨ret_bool HV.out.symm,HB1.out.1⟩
     | false =>
       rw [hz] at R1
       clear RI hz
       go_enter Tryz.func120,Tryz.ntmps120
       go_wp2_with fail
       go_at_call 30
       refine (R1 _).mono ?_
       rintro e w1 ⟨rfl,hb⟩
       have bk1:=(Blk.new w 50 #[.int .i64 5,.int .i64 n,.string t,.int .i64 a,.int .i64 b]).keep (hb.block _ hlt)
       have HB1 : Hid (Below w.heap.size w w1∧w.heap.size < w1.heap.size):=⟨((Below.refl _ w).alloc (Nat.le_refl _) _).trans (hb.mono (by simp)),Nat.lt_of_lt_of_le hlt hb.size⟩
       have BK1:=Lib.hid bk1
       have c0 : w1.cell? ⟨w.heap.size,0,none⟩=some (.int .i64 5):=bk1.cell 0
       have c1 : w1.cell? ⟨w.heap.size,1,none⟩=some (.int .i64 n):=bk1.cell 1
       have c2 : w1.cell? ⟨w.heap.size,2,none⟩=some (.string t):=bk1.cell 2
       have c3 : w1.cell? ⟨w.heap.size,3,none⟩=some (.int .i64 a):=bk1.cell 3
       have c4 : w1.cell? ⟨w.heap.size,4,none⟩=some (.int .i64 b):=bk1.cell 4
       clear bk1 hb
       go_wp2_with fail
       go_ret
       exact ⟨ret_bool HV.out.symm,HB1.out.1⟩
theorem refValue_6 (n a b : Int) (t : ByteArray) (w : World) :
 Calls Tryz.prog 120 #[.agg #[.int .i64 6,.int .i64 n,.string t,.int .i64 a,.int .i64 b]] w fun e w'=>e=.returned (.bool (valueB 6 n t a b))∧Below w.heap.size w w':=by
 have R1:=refRoot_any a b
 have RI:=refId_any a b
 have hlt : w.heap.size < (w.alloc (.cells #[.int .i64 6,.int .i64 n,.string t,.int .i64 a,.int .i64 b] 50)).heap.size:=by simp
 cases ht : t.toList.isEmpty with
 | false =>
   by_cases hn : n=0
   · subst hn
     have HV : Hid (valueB 6 0 t a b=false):=by show valueB 6 0 t a b=false;simp [valueB,bareB,ht]
     clear R1 RI
     go_enter Tryz.func120,Tryz.ntmps120
     go_wp2_with fail
     go_ret
     exact ⟨ret_bool HV.out.symm,(Below.refl _ w).alloc (Nat.le_refl _) _⟩
   · have HV : Hid (valueB 6 n t a b=false):=by show valueB 6 n t a b=false;simp [valueB,bareB,hn]
     have dn : (n == 0)=false:=by simpa using hn
     clear R1 RI hn
     go_enter Tryz.func120,Tryz.ntmps120
     go_wp2_with fail
     go_ret
     exact ⟨ret_bool HV.out.symm,(Below.refl _ w).alloc (Nat.le_refl _) _⟩
 | true =>
   by_cases hn : n=0
   · subst hn
     cases hz : rootB a b with
     | true =>
       have HV : Hid (valueB 6 0 t a b=idB a b):=by show valueB 6 0 t a b=idB a b;simp [valueB,bareB,ht]
       rw [hz] at R1
       generalize idB a b=i at RI HV
       clear hz
       go_enter Tryz.func120,Tryz.ntmps120
       go_wp2_with fail
       go_at_call 30
       refine (R1 _).mono ?_
       rintro e w1 ⟨rfl,hb⟩
       have bk1:=(Blk.new w 50 #[.int .i64 6,.int .i64 0,.string t,.int .i64 a,.int .i64 b]).keep (hb.block _ hlt)
       have HB1 : Hid (Below w.heap.size w w1∧w.heap.size < w1.heap.size):=⟨((Below.refl _ w).alloc (Nat.le_refl _) _).trans (hb.mono (by simp)),Nat.lt_of_lt_of_le hlt hb.size⟩
       have BK1:=Lib.hid bk1
       have c0 : w1.cell? ⟨w.heap.size,0,none⟩=some (.int .i64 6):=bk1.cell 0
       have c1 : w1.cell? ⟨w.heap.size,1,none⟩=some (.int .i64 0):=bk1.cell 1
       have c2 : w1.cell? ⟨w.heap.size,2,none⟩=some (.string t):=bk1.cell 2
       have c3 : w1.cell? ⟨w.heap.size,3,none⟩=some (.int .i64 a):=bk1.cell 3
       have c4 : w1.cell? ⟨w.heap.size,4,none⟩=some (.int .i64 b):=bk1.cell 4
       clear bk1 hb
       go_wp2_with fail
       go_at_call 118
       refine (RI _).mono ?_
       rintro e w2 ⟨rfl,hb⟩
       have HB2 : Hid (Below w.heap.size w w2):=HB1.out.1.trans (hb.mono HB1.out.1.size)
       clear hb
       go_wp2_with fail
       go_ret
       exact ⟨ret_bool HV.out.symm,HB2.out⟩
     | false =>
       have HV : Hid (valueB 6 0 t a b=idB a b):=by show valueB 6 0 t a b=idB a b;simp [valueB,bareB,ht]
       rw [hz] at R1
       generalize idB a b=i at RI HV
       clear hz
       go_enter Tryz.func120,Tryz.ntmps120
       go_wp2_with fail
       go_at_call 30
       refine (R1 _).mono ?_
       rintro e w1 ⟨rfl,hb⟩
       have bk1:=(Blk.new w 50 #[.int .i64 6,.int .i64 0,.string t,.int .i64 a,.int .i64 b]).keep (hb.block _ hlt)
       have HB1 : Hid (Below w.heap.size w w1∧w.heap.size < w1.heap.size):=⟨((Below.refl _ w).alloc (Nat.le_refl _) _).trans (hb.mono (by simp)),Nat.lt_of_lt_of_le hlt hb.size⟩
       have BK1:=Lib.hid bk1
       have c0 : w1.cell? ⟨w.heap.size,0,none⟩=some (.int .i64 6):=bk1.cell 0
       have c1 : w1.cell? ⟨w.heap.size,1,none⟩=some (.int .i64 0):=bk1.cell 1
       have c2 : w1.cell? ⟨w.heap.size,2,none⟩=some (.string t):=bk1.cell 2
       have c3 : w1.cell? ⟨w.heap.size,3,none⟩=some (.int .i64 a):=bk1.cell 3
       have c4 : w1.cell? ⟨w.heap.size,4,none⟩=some (.int .i64 b):=bk1.cell 4
       clear bk1 hb
       go_wp2_with fail
       go_at_call 118
       refine (RI _).mono ?_
       rintro e w2 ⟨rfl,hb⟩
       have HB2 : Hid (Below w.heap.size w w2):=HB1.out.1.trans (hb.mono HB1.out.1.size)
       clear hb
       go_wp2_with fail
       go_ret
       exact ⟨ret_bool HV.out.symm,HB2.out⟩
   · have HV : Hid (valueB 6 n t a b=false):=by show valueB 6 n t a b=false;simp [valueB,bareB,hn]
     have dn : (n == 0)=false:=by simpa using hn
     clear hn
     cases hz : rootB a b with
     | true =>
       rw [hz] at R1
       clear RI hz
       go_enter Tryz.func120,Tryz.ntmps120
       go_wp2_with fail
       go_at_call 30
       refine (R1 _).mono ?_
       rintro e w1 ⟨rfl,hb⟩
       have bk1:=(Blk.new w 50 #[.int .i64 6,.int .i64 n,.string t,.int .i64 a,.int .i64 b]).keep (hb.block _ hlt)
       have HB1 : Hid (Below w.heap.size w w1∧w.heap.size < w1.heap.size):=⟨((Below.refl _ w).alloc (Nat.le_refl _) _).trans (hb.mono (by simp)),Nat.lt_of_lt_of_le hlt hb.size⟩
       have BK1:=Lib.hid bk1
       have c0 : w1.cell? ⟨w.heap.size,0,none⟩=some (.int .i64 6):=bk1.cell 0
       have c1 : w1.cell? ⟨w.heap.size,1,none⟩=some (.int .i64 n):=bk1.cell 1
       have c2 : w1.cell? ⟨w.heap.size,2,none⟩=some (.string t):=bk1.cell 2
       have c3 : w1.cell? ⟨w.heap.size,3,none⟩=some (.int .i64 a):=bk1.cell 3
       have c4 : w1.cell? ⟨w.heap.size,4,none⟩=some (.int .i64 b):=bk1.cell 4
       clear bk1 hb
       go_wp2_with fail
       go_ret
       exact ⟨ret_bool HV.out.symm,HB1.out.1⟩
     | false =>
       rw [hz] at R1
       clear RI hz
       go_enter Tryz.func120,Tryz.ntmps120
       go_wp2_with fail
       go_at_call 30
       refine (R1 _).mono ?_
       rintro e w1 ⟨rfl,hb⟩
       have bk1:=(Blk.new w 50 #[.int .i64 6,.int .i64 n,.string t,.int .i64 a,.int .i64 b]).keep (hb.block _ hlt)
       have HB1 : Hid (Below w.heap.size w w1∧w.heap.size < w1.heap.size):=⟨((Below.refl _ w).alloc (Nat.le_refl _) _).trans (hb.mono (by simp)),Nat.lt_of_lt_of_le hlt hb.size⟩
       have BK1:=Lib.hid bk1
       have c0 : w1.cell? ⟨w.heap.size,0,none⟩=some (.int .i64 6):=bk1.cell 0
       have c1 : w1.cell? ⟨w.heap.size,1,none⟩=some (.int .i64 n):=bk1.cell 1
       have c2 : w1.cell? ⟨w.heap.size,2,none⟩=some (.string t):=bk1.cell 2
       have c3 : w1.cell? ⟨w.heap.size,3,none⟩=some (.int .i64 a):=bk1.cell 3
       have c4 : w1.cell? ⟨w.heap.size,4,none⟩=some (.int .i64 b):=bk1.cell 4
       clear bk1 hb
       go_wp2_with fail
       go_ret
       exact ⟨ret_bool HV.out.symm,HB1.out.1⟩
theorem refValue_no (k n a b : Int) (t : ByteArray) (hk : k≠0∧k≠1∧k≠2∧k≠3∧k≠4∧k≠5∧k≠6) (w : World) :
 Calls Tryz.prog 120 #[.agg #[.int .i64 k,.int .i64 n,.string t,.int .i64 a,.int .i64 b]] w fun e w'=>e=.returned (.bool (valueB k n t a b))∧Below w.heap.size w w':=by
 have R1:=refRoot_any a b
 have hlt : w.heap.size < (w.alloc (.cells #[.int .i64 k,.int .i64 n,.string t,.int .i64 a,.int .i64 b] 50)).heap.size:=by simp
 obtain ⟨h0,h1,h2,h3,h4,h5,h6⟩:=hk
 have HV : Hid (valueB k n t a b=false):=by show valueB k n t a b=false;simp [valueB, *]
 have e0 : (k == 0)=false:=by simpa using h0
 have e1 : (k == 1)=false:=by simpa using h1
 have e2 : (k == 2)=false:=by simpa using h2
 have e3 : (k == 3)=false:=by simpa using h3
 have e4 : (k == 4)=false:=by simpa using h4
 have e5 : (k == 5)=false:=by simpa using h5
 have e6 : (k == 6)=false:=by simpa using h6
 clear h0 h1 h2 h3 h4 h5 h6
 cases ht : t.toList.isEmpty with
 | false =>
   clear R1
   go_enter Tryz.func120,Tryz.ntmps120
   go_wp2_with fail
   go_ret
   exact ⟨ret_bool HV.out.symm,(Below.refl _ w).alloc (Nat.le_refl _) _⟩
 | true =>
   cases hz : rootB a b with
   | true =>
     rw [hz] at R1
     clear hz
     go_enter Tryz.func120,Tryz.ntmps120
     go_wp2_with fail
     go_at_call 30
     refine (R1 _).mono ?_
     rintro e w1 ⟨rfl,hb⟩
     have bk1:=(Blk.new w 50 #[.int .i64 k,.int .i64 n,.string t,.int .i64 a,.int .i64 b]).keep (hb.block _ hlt)
     have HB1 : Hid (Below w.heap.size w w1∧w.heap.size < w1.heap.size):=⟨((Below.refl _ w).alloc (Nat.le_refl _) _).trans (hb.mono (by simp)),Nat.lt_of_lt_of_le hlt hb.size⟩
     have BK1:=Lib.hid bk1
     have c0 : w1.cell? ⟨w.heap.size,0,none⟩=some (.int .i64 k):=bk1.cell 0
     have c1 : w1.cell? ⟨w.heap.size,1,none⟩=some (.int .i64 n):=bk1.cell 1
     have c2 : w1.cell? ⟨w.heap.size,2,none⟩=some (.string t):=bk1.cell 2
     have c3 : w1.cell? ⟨w.heap.size,3,none⟩=some (.int .i64 a):=bk1.cell 3
     have c4 : w1.cell? ⟨w.heap.size,4,none⟩=some (.int .i64 b):=bk1.cell 4
     clear bk1 hb
     go_wp2_with fail
     go_ret
     exact ⟨ret_bool HV.out.symm,HB1.out.1⟩
   | false =>
     rw [hz] at R1
     clear hz
     go_enter Tryz.func120,Tryz.ntmps120
     go_wp2_with fail
     go_at_call 30
     refine (R1 _).mono ?_
     rintro e w1 ⟨rfl,hb⟩
     have bk1:=(Blk.new w 50 #[.int .i64 k,.int .i64 n,.string t,.int .i64 a,.int .i64 b]).keep (hb.block _ hlt)
     have HB1 : Hid (Below w.heap.size w w1∧w.heap.size < w1.heap.size):=⟨((Below.refl _ w).alloc (Nat.le_refl _) _).trans (hb.mono (by simp)),Nat.lt_of_lt_of_le hlt hb.size⟩
     have BK1:=Lib.hid bk1
     have c0 : w1.cell? ⟨w.heap.size,0,none⟩=some (.int .i64 k):=bk1.cell 0
     have c1 : w1.cell? ⟨w.heap.size,1,none⟩=some (.int .i64 n):=bk1.cell 1
     have c2 : w1.cell? ⟨w.heap.size,2,none⟩=some (.string t):=bk1.cell 2
     have c3 : w1.cell? ⟨w.heap.size,3,none⟩=some (.int .i64 a):=bk1.cell 3
     have c4 : w1.cell? ⟨w.heap.size,4,none⟩=some (.int .i64 b):=bk1.cell 4
     clear bk1 hb
     go_wp2_with fail
     go_ret
     exact ⟨ret_bool HV.out.symm,HB1.out.1⟩
theorem refValue_any (k n a b : Int) (t : ByteArray) (w : World) :
 Calls Tryz.prog 120 #[.agg #[.int .i64 k,.int .i64 n,.string t,.int .i64 a,.int .i64 b]] w fun e w'=>e=.returned (.bool (valueB k n t a b))∧Below w.heap.size w w':=by
 by_cases h0 : k=0
 · subst h0;exact refValue_0 n a b t w
 by_cases h1 : k=1
 · subst h1;exact refValue_1 n a b t w
 by_cases h2 : k=2
 · subst h2;exact refValue_2 n a b t w
 by_cases h3 : k=3
 · subst h3;exact refValue_3 n a b t w
 by_cases h4 : k=4
 · subst h4;exact refValue_4 n a b t w
 by_cases h5 : k=5
 · subst h5;exact refValue_5 n a b t w
 by_cases h6 : k=6
 · subst h6;exact refValue_6 n a b t w
 exact refValue_no k n a b t ⟨h0,h1,h2,h3,h4,h5,h6⟩ w
end Go.Proofs.YtmpkejflgpodkaaGreatDoor
