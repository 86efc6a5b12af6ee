/- Contracts: what is an id, a ref, a value. -/
import Derived.Test.YtmpkejflgpodkaaGreatDoorP0
import Derived.WalkKit
import Derived.ProofKit
import Derived.OpenShut
import Derived.LoopTactic
import Derived.WalkLawsBesides
import Derived.WalkSpells
import Derived.BigQuiet
import Derived.Deep.QuietTactic
import Derived.Deep.RegionHeld3
import Derived.Lib.Hide
import Derived.Deep.DeepFit
set_option linter.unusedVariables false
set_option linter.unusedSimpArgs false
namespace Go.Proofs.YtmpkejflgpodkaaGreatDoor
open Go.ChangeShapes Go.WideShapes Go.ChangeAt Go.RowKit
def numB (x : Int) : Bool:=decide (1≤x) && decide (x≤1000000)
def actorB (x : Int) : Bool:=decide (1≤x) && decide (x≤99)
def realB (a b : Int) : Bool:=numB a && actorB b
def rootB (a b : Int) : Bool:=decide (a=0) && decide (b=0)
def idB (a b : Int) : Bool:=rootB a b || realB a b
theorem num_any (x : Int) (w : World) : Calls Tryz.prog 183 #[.int .i64 x] w fun e w'=>e=.returned (.bool (numB x))∧w=w':=by
 by_cases h1 : 1≤x
 · by_cases h2 : x≤1000000
   all_goals
    go_enter Tryz.func183,Tryz.ntmps183
    go_wp2
    go_ret
    exact ⟨ret_bool (by simp [numB,h1,h2];try omega),rfl⟩
 · have h2 : decide (1≤x)=false:=by simpa using h1
   go_enter Tryz.func183,Tryz.ntmps183
   go_wp2
   go_ret
   exact ⟨ret_bool (by simp only [numB,h2,Bool.false_and]),rfl⟩
theorem actor_any (x : Int) (w : World) : Calls Tryz.prog 182 #[.int .i64 x] w fun e w'=>e=.returned (.bool (actorB x))∧w=w':=by
 by_cases h1 : 1≤x
 · by_cases h2 : x≤99
   all_goals
    go_enter Tryz.func182,Tryz.ntmps182
    go_wp2
    go_ret
    exact ⟨ret_bool (by simp [actorB,h1,h2];try omega),rfl⟩
 · have h2 : decide (1≤x)=false:=by simpa using h1
   go_enter Tryz.func182,Tryz.ntmps182
   go_wp2
   go_ret
   exact ⟨ret_bool (by simp only [actorB,h2,Bool.false_and]),rfl⟩
theorem real_any (a b : Int) (w : World) : Calls Tryz.prog 185 #[.agg #[.int .i64 a,.int .i64 b]] w fun e w'=>e=.returned (.bool (realB a b))∧Below w.heap.size w w':=by
 cases hn : numB a
 all_goals
  go_enter Tryz.func185,Tryz.ntmps185
  go_wp2_with (first | (go_at_call 183;refine (num_any _ _).mono ?_;rintro e w' ⟨rfl,rfl⟩) | (go_at_call 182;refine (actor_any _ _).mono ?_;rintro e w' ⟨rfl,rfl⟩))
  go_ret
  exact ⟨ret_bool (by simp only [realB,hn,Bool.false_and,Bool.true_and]),by repeat (first | exact Below.refl _ _ | refine Below.drew ?_ | refine Below.alloc ?_ (by first | (simp;done) | (simp;omega)) _)⟩
def rangeUnless (b : Bool) : Value:=if b then .nilIface else .iface 101 (.int .i64 1)
theorem realB_0 (b : Int) : realB 0 b=false:=by simp [realB,numB]
theorem rangeUnless_t {b : Bool} (h : b=true) : Ending.returned .nilIface=.returned (rangeUnless b):=by rw [h];rfl
theorem rangeUnless_f {b : Bool} (h : b=false) : Ending.returned (.iface 101 (.int .i64 1))=.returned (rangeUnless b):=by rw [h];rfl
theorem idCheck_any (a b : Int) (w : World) : Calls Tryz.prog 184 #[.agg #[.int .i64 a,.int .i64 b]] w fun e w'=>e=.returned (rangeUnless (idB a b))∧Below w.heap.size w w':=by
 by_cases h0 : a=0
 · subst h0
   by_cases h1 : b=0
   · subst h1
     go_enter Tryz.func184,Tryz.ntmps184
     go_wp2_with fail
     go_ret
     exact ⟨rangeUnless_t rfl,by repeat (first | exact Below.refl _ _ | refine Below.drew ?_ | refine Below.alloc ?_ (by first | (simp;done) | (simp;omega)) _)⟩
   · have hb0 : (b == 0)=false:=by simpa using h1
     have hr:=realB_0 b
     have H1:=Lib.hid h1
     clear h1
     go_enter Tryz.func184,Tryz.ntmps184
     go_wp2_with (first | (go_at_call 185;refine (real_any _ _ _).mono ?_;rintro e w1 ⟨rfl,hb⟩))
     go_ret
     exact ⟨rangeUnless_f (by simp [idB,rootB,hr,H1.out]),by repeat (first | exact Below.refl _ _ | refine Below.drew ?_ | refine Below.alloc ?_ (by first | (simp;done) | (simp;omega)) _ | refine Below.trans ?_ (hb.mono (by simp)))⟩
 · have ha0 : (a == 0)=false:=by simpa using h0
   have H0:=Lib.hid h0
   clear h0
   cases hr : realB a b
   · go_enter Tryz.func184,Tryz.ntmps184
     go_wp2_with (first | (go_at_call 185;refine (real_any _ _ _).mono ?_;rintro e w1 ⟨rfl,hb⟩))
     go_ret
     exact ⟨rangeUnless_f (by simp [idB,rootB,hr,H0.out]),by repeat (first | exact Below.refl _ _ | refine Below.drew ?_ | refine Below.alloc ?_ (by first | (simp;done) | (simp;omega)) _ | refine Below.trans ?_ (hb.mono (by simp)))⟩
   · go_enter Tryz.func184,Tryz.ntmps184
     go_wp2_with (first | (go_at_call 185;refine (real_any _ _ _).mono ?_;rintro e w1 ⟨rfl,hb⟩))
     go_ret
     exact ⟨rangeUnless_t (by simp [idB,hr]),by repeat (first | exact Below.refl _ _ | refine Below.drew ?_ | refine Below.alloc ?_ (by first | (simp;done) | (simp;omega)) _ | refine Below.trans ?_ (hb.mono (by simp)))⟩
def objectB (k : Int) : Bool:=decide (k=5) || decide (k=6)
theorem object_any (k n a b : Int) (t : ByteArray) (w : World) :
 Calls Tryz.prog 188 #[.agg #[.int .i64 k,.int .i64 n,.string t,.int .i64 a,.int .i64 b]] w fun e w'=>e=.returned (.bool (objectB k))∧Below w.heap.size w w':=by
 by_cases h5 : k=5
 · subst h5
   go_enter Tryz.func188,Tryz.ntmps188
   go_wp2
   go_ret
   exact ⟨rfl,by repeat (first | exact Below.refl _ _ | refine Below.drew ?_ | refine Below.alloc ?_ (by first | (simp;done) | (simp;omega)) _)⟩
 · by_cases h6 : k=6
   · subst h6
     go_enter Tryz.func188,Tryz.ntmps188
     go_wp2
     go_ret
     exact ⟨rfl,by repeat (first | exact Below.refl _ _ | refine Below.drew ?_ | refine Below.alloc ?_ (by first | (simp;done) | (simp;omega)) _)⟩
   · have e5 : (k == 5)=false:=by simpa using h5
     have e6 : (k == 6)=false:=by simpa using h6
     have H5:=Lib.hid h5
     have H6:=Lib.hid h6
     clear h5 h6
     go_enter Tryz.func188,Tryz.ntmps188
     go_wp2
     go_ret
     exact ⟨ret_bool (by simp [objectB,H5.out,H6.out]),by repeat (first | exact Below.refl _ _ | refine Below.drew ?_ | refine Below.alloc ?_ (by first | (simp;done) | (simp;omega)) _)⟩
def bareB (t : ByteArray) (a b : Int) : Bool:=t.toList.isEmpty && rootB a b
def valueB (k n : Int) (t : ByteArray) (a b : Int) : Bool :=
 if k=0 then bareB t a b && decide (n=0)
 else if k=1 then bareB t a b && (decide (n=0) || decide (n=1))
 else if k=2∨k=4 then bareB t a b
 else if k=3 then decide (n=0) && rootB a b && decide (t.size≤60)
 else if k=5∨k=6 then decide (n=0) && t.toList.isEmpty && idB a b
 else false
theorem rangeUnless_true {b : Bool} (h : b=true) : rangeUnless b=.nilIface:=by rw [h];rfl
theorem rangeUnless_false {b : Bool} (h : b=false) : rangeUnless b=.iface 101 (.int .i64 1):=by rw [h];rfl
theorem idCheck_yes (a b : Int) (h : idB a b=true) (w : World) : Calls Tryz.prog 184 #[.agg #[.int .i64 a,.int .i64 b]] w fun e w'=>e=.returned .nilIface∧Below w.heap.size w w':=by
 rw [← rangeUnless_true h];exact idCheck_any a b w
theorem idCheck_no (a b : Int) (h : idB a b=false) (w : World) : Calls Tryz.prog 184 #[.agg #[.int .i64 a,.int .i64 b]] w fun e w'=>e=.returned (.iface 101 (.int .i64 1))∧Below w.heap.size w w':=by
 rw [← rangeUnless_false h];exact idCheck_any a b w
set_option maxHeartbeats 1600000 in
theorem valCheck_any (k n a b : Int) (t : ByteArray) (w : World) :
 Calls Tryz.prog 187 #[.agg #[.int .i64 k,.int .i64 n,.string t,.int .i64 a,.int .i64 b]] w fun e w'=>e=.returned (rangeUnless (valueB k n t a b))∧Below w.heap.size w w':=by
 by_cases h0 : k=0
 · subst h0
   go_enter Tryz.func187,Tryz.ntmps187
   go_wp2
   all_goals
    go_ret
    refine ⟨?_,by repeat (first | exact Below.refl _ _ | refine Below.drew ?_ | refine Below.alloc ?_ (by first | (simp;done) | (simp;omega)) _ | refine Below.trans ?_ (hb.mono (by simp)))⟩
    first | (refine rangeUnless_t ?_;simp_all [valueB,bareB,rootB];try omega;done) | (refine rangeUnless_f ?_;simp_all [valueB,bareB,rootB];try omega;done)
 by_cases h1 : k=1
 · subst h1
   go_enter Tryz.func187,Tryz.ntmps187
   go_wp2
   all_goals
    go_ret
    refine ⟨?_,by repeat (first | exact Below.refl _ _ | refine Below.drew ?_ | refine Below.alloc ?_ (by first | (simp;done) | (simp;omega)) _ | refine Below.trans ?_ (hb.mono (by simp)))⟩
    first | (refine rangeUnless_t ?_;simp_all [valueB,bareB,rootB];try omega;done) | (refine rangeUnless_f ?_;simp_all [valueB,bareB,rootB];try omega;done)
 by_cases h2 : k=2
 · subst h2
   go_enter Tryz.func187,Tryz.ntmps187
   go_wp2
   all_goals
    go_ret
    refine ⟨?_,by repeat (first | exact Below.refl _ _ | refine Below.drew ?_ | refine Below.alloc ?_ (by first | (simp;done) | (simp;omega)) _ | refine Below.trans ?_ (hb.mono (by simp)))⟩
    first | (refine rangeUnless_t ?_;simp_all [valueB,bareB,rootB];try omega;done) | (refine rangeUnless_f ?_;simp_all [valueB,bareB,rootB];try omega;done)
 by_cases h4 : k=4
 · subst h4
   go_enter Tryz.func187,Tryz.ntmps187
   go_wp2
   all_goals
    go_ret
    refine ⟨?_,by repeat (first | exact Below.refl _ _ | refine Below.drew ?_ | refine Below.alloc ?_ (by first | (simp;done) | (simp;omega)) _ | refine Below.trans ?_ (hb.mono (by simp)))⟩
    first | (refine rangeUnless_t ?_;simp_all [valueB,bareB,rootB];try omega;done) | (refine rangeUnless_f ?_;simp_all [valueB,bareB,rootB];try omega;done)
 by_cases h3 : k=3
 · subst h3
   go_enter Tryz.func187,Tryz.ntmps187
   go_wp2
   all_goals
    go_ret
    refine ⟨?_,by repeat (first | exact Below.refl _ _ | refine Below.drew ?_ | refine Below.alloc ?_ (by first | (simp;done) | (simp;omega)) _ | refine Below.trans ?_ (hb.mono (by simp)))⟩
    first | (refine rangeUnless_t ?_;simp_all [valueB,bareB,rootB];try omega;done) | (refine rangeUnless_f ?_;simp_all [valueB,bareB,rootB];try omega;done)
 by_cases h5 : k=5
 · subst h5
   by_cases hn : n=0
   · subst hn
     by_cases ht : t.toList=[]
     · by_cases ha : a=0
       · subst ha
         by_cases hb0 : b=0
         · subst hb0
           have HV : Hid (valueB 5 0 t 0 0=true):=by show valueB 5 0 t 0 0=true;simp [valueB,ht,idB,rootB]
           go_enter Tryz.func187,Tryz.ntmps187
           go_wp2_with (first | (go_at_call 184;refine (idCheck_yes _ _ rfl _).mono ?_;rintro e w1 ⟨rfl,hb⟩))
           go_ret
           exact ⟨rangeUnless_t HV.out,by repeat (first | exact Below.refl _ _ | refine Below.drew ?_ | refine Below.alloc ?_ (by first | (simp;done) | (simp;omega)) _ | refine Below.trans ?_ (hb.mono (by simp)))⟩
         · have HI : Hid (idB 0 b=false):=by show idB 0 b=false;simp [idB,rootB,realB_0,hb0]
           have HV : Hid (valueB 5 0 t 0 b=false):=by show valueB 5 0 t 0 b=false;simp [valueB,ht,HI.out]
           have eb : (b == 0)=false:=by simpa using hb0
           clear hb0
           go_enter Tryz.func187,Tryz.ntmps187
           go_wp2_with (first | (go_at_call 184;refine (idCheck_no _ _ HI.out _).mono ?_;rintro e w1 ⟨rfl,hb⟩))
           go_ret
           exact ⟨rangeUnless_f HV.out,by repeat (first | exact Below.refl _ _ | refine Below.drew ?_ | refine Below.alloc ?_ (by first | (simp;done) | (simp;omega)) _ | refine Below.trans ?_ (hb.mono (by simp)))⟩
       · have ea : (a == 0)=false:=by simpa using ha
         clear ha
         cases hi : idB a b
         · have HV : Hid (valueB 5 0 t a b=false):=by show valueB 5 0 t a b=false;simp [valueB,ht,hi]
           have HI:=Lib.hid hi
           clear hi
           go_enter Tryz.func187,Tryz.ntmps187
           go_wp2_with (first | (go_at_call 184;refine (idCheck_no _ _ HI.out _).mono ?_;rintro e w1 ⟨rfl,hb⟩))
           go_ret
           exact ⟨rangeUnless_f HV.out,by repeat (first | exact Below.refl _ _ | refine Below.drew ?_ | refine Below.alloc ?_ (by first | (simp;done) | (simp;omega)) _ | refine Below.trans ?_ (hb.mono (by simp)))⟩
         · have HV : Hid (valueB 5 0 t a b=true):=by show valueB 5 0 t a b=true;simp [valueB,ht,hi]
           have HI:=Lib.hid hi
           clear hi
           go_enter Tryz.func187,Tryz.ntmps187
           go_wp2_with (first | (go_at_call 184;refine (idCheck_yes _ _ HI.out _).mono ?_;rintro e w1 ⟨rfl,hb⟩))
           go_ret
           exact ⟨rangeUnless_t HV.out,by repeat (first | exact Below.refl _ _ | refine Below.drew ?_ | refine Below.alloc ?_ (by first | (simp;done) | (simp;omega)) _ | refine Below.trans ?_ (hb.mono (by simp)))⟩
     · have HV : Hid (valueB 5 0 t a b=false):=by show valueB 5 0 t a b=false;simp [valueB,ht]
       go_enter Tryz.func187,Tryz.ntmps187
       go_wp2
       all_goals
        go_ret
        exact ⟨rangeUnless_f HV.out,by repeat (first | exact Below.refl _ _ | refine Below.drew ?_ | refine Below.alloc ?_ (by first | (simp;done) | (simp;omega)) _ | refine Below.trans ?_ (hb.mono (by simp)))⟩
   · have HV : Hid (valueB 5 n t a b=false):=by show valueB 5 n t a b=false;simp [valueB,hn]
     have hn0 : (n == 0)=false:=by simpa using hn
     clear hn
     go_enter Tryz.func187,Tryz.ntmps187
     go_wp2
     all_goals
      go_ret
      exact ⟨rangeUnless_f HV.out,by repeat (first | exact Below.refl _ _ | refine Below.drew ?_ | refine Below.alloc ?_ (by first | (simp;done) | (simp;omega)) _ | refine Below.trans ?_ (hb.mono (by simp)))⟩
 by_cases h6 : k=6
 · subst h6
   by_cases hn : n=0
   · subst hn
     by_cases ht : t.toList=[]
     · by_cases ha : a=0
       · subst ha
         by_cases hb0 : b=0
         · subst hb0
           have HV : Hid (valueB 6 0 t 0 0=true):=by show valueB 6 0 t 0 0=true;simp [valueB,ht,idB,rootB]
           go_enter Tryz.func187,Tryz.ntmps187
           go_wp2_with (first | (go_at_call 184;refine (idCheck_yes _ _ rfl _).mono ?_;rintro e w1 ⟨rfl,hb⟩))
           go_ret
           exact ⟨rangeUnless_t HV.out,by repeat (first | exact Below.refl _ _ | refine Below.drew ?_ | refine Below.alloc ?_ (by first | (simp;done) | (simp;omega)) _ | refine Below.trans ?_ (hb.mono (by simp)))⟩
         · have HI : Hid (idB 0 b=false):=by show idB 0 b=false;simp [idB,rootB,realB_0,hb0]
           have HV : Hid (valueB 6 0 t 0 b=false):=by show valueB 6 0 t 0 b=false;simp [valueB,ht,HI.out]
           have eb : (b == 0)=false:=by simpa using hb0
           clear hb0
           go_enter Tryz.func187,Tryz.ntmps187
           go_wp2_with (first | (go_at_call 184;refine (idCheck_no _ _ HI.out _).mono ?_;rintro e w1 ⟨rfl,hb⟩))
           go_ret
           exact ⟨rangeUnless_f HV.out,by repeat (first | exact Below.refl _ _ | refine Below.drew ?_ | refine Below.alloc ?_ (by first | (simp;done) | (simp;omega)) _ | refine Below.trans ?_ (hb.mono (by simp)))⟩
       · have ea : (a == 0)=false:=by simpa using ha
         clear ha
         cases hi : idB a b
         · have HV : Hid (valueB 6 0 t a b=false):=by show valueB 6 0 t a b=false;simp [valueB,ht,hi]
           have HI:=Lib.hid hi
           clear hi
           go_enter Tryz.func187,Tryz.ntmps187
           go_wp2_with (first | (go_at_call 184;refine (idCheck_no _ _ HI.out _).mono ?_;rintro e w1 ⟨rfl,hb⟩))
           go_ret
           exact ⟨rangeUnless_f HV.out,by repeat (first | exact Below.refl _ _ | refine Below.drew ?_ | refine Below.alloc ?_ (by first | (simp;done) | (simp;omega)) _ | refine Below.trans ?_ (hb.mono (by simp)))⟩
         · have HV : Hid (valueB 6 0 t a b=true):=by show valueB 6 0 t a b=true;simp [valueB,ht,hi]
           have HI:=Lib.hid hi
           clear hi
           go_enter Tryz.func187,Tryz.ntmps187
           go_wp2_with (first | (go_at_call 184;refine (idCheck_yes _ _ HI.out _).mono ?_;rintro e w1 ⟨rfl,hb⟩))
           go_ret
           exact ⟨rangeUnless_t HV.out,by repeat (first | exact Below.refl _ _ | refine Below.drew ?_ | refine Below.alloc ?_ (by first | (simp;done) | (simp;omega)) _ | refine Below.trans ?_ (hb.mono (by simp)))⟩
     · have HV : Hid (valueB 6 0 t a b=false):=by show valueB 6 0 t a b=false;simp [valueB,ht]
       go_enter Tryz.func187,Tryz.ntmps187
       go_wp2
       all_goals
        go_ret
        exact ⟨rangeUnless_f HV.out,by repeat (first | exact Below.refl _ _ | refine Below.drew ?_ | refine Below.alloc ?_ (by first | (simp;done) | (simp;omega)) _ | refine Below.trans ?_ (hb.mono (by simp)))⟩
   · have HV : Hid (valueB 6 n t a b=false):=by show valueB 6 n t a b=false;simp [valueB,hn]
     have hn0 : (n == 0)=false:=by simpa using hn
     clear hn
     go_enter Tryz.func187,Tryz.ntmps187
     go_wp2
     all_goals
      go_ret
      exact ⟨rangeUnless_f HV.out,by repeat (first | exact Below.refl _ _ | refine Below.drew ?_ | refine Below.alloc ?_ (by first | (simp;done) | (simp;omega)) _ | refine Below.trans ?_ (hb.mono (by simp)))⟩
 have e0 : (k == 0)=false:=by simpa using h0
 have e1 : (k == 1)=false:=by simpa using h1
 have e2 : (k == 2)=false:=by simpa using h2
 have e4 : (k == 4)=false:=by simpa using h4
 have e3 : (k == 3)=false:=by simpa using h3
 have e5 : (k == 5)=false:=by simpa using h5
 have e6 : (k == 6)=false:=by simpa using h6
 have HV : Hid (valueB k n t a b=false):=by show valueB k n t a b=false;simp [valueB, *]
 clear h0 h1 h2 h3 h4 h5 h6
 go_enter Tryz.func187,Tryz.ntmps187
 go_wp2
 all_goals
  go_ret
  refine ⟨?_,by repeat (first | exact Below.refl _ _ | refine Below.drew ?_ | refine Below.alloc ?_ (by first | (simp;done) | (simp;omega)) _ | refine Below.trans ?_ (hb.mono (by simp)))⟩
  exact rangeUnless_f HV.out
end Go.Proofs.YtmpkejflgpodkaaGreatDoor
