/- Contracts: what is an id, a ref, a value. -/
import Derived.Test.YtmpkejflgpodkaaGreatDoorP0
import Derived.WalkKit
import Derived.ProofKit
import Derived.OpenShut
import Derived.LoopTactic
import Derived.WalkLawsBesides
import Derived.WalkSpells
import Derived.BigQuiet
import Derived.Deep.QuietTactic
import Derived.Deep.RegionHeld3
import Derived.Lib.Hide
import Derived.Deep.DeepFit
set_option maxHeartbeats 1600000
set_option linter.unusedVariables false
set_option linter.unusedSimpArgs false
namespace Go.Proofs.YtmpkejflgpodkaaGreatDoor
open Go.ChangeShapes Go.WideShapes Go.ChangeAt Go.RowKit
def qW(x:Int):Bool:=decide (1≤x)&&decide (x≤1000000)
def kF(x:Int):Bool:=decide (1≤x)&&decide (x≤99)
def cQ(a b:Int):Bool:=qW a&&kF b
def bK(a b:Int):Bool:=decide (a=0)&&decide (b=0)
def idB(a b:Int):Bool:=bK a b||cQ a b
theorem num_any(x:Int)(w:World):Calls Tryz.prog 183 #[.int .i64 x] w fun e w'=>e=.returned (.bool (qW x))∧w=w':=by
 by_cases h1:1≤x
 ·by_cases h2:x≤1000000;all_goals
   go_enter Tryz.func183,Tryz.ntmps183;go_wp2
   go_ret;exact⟨aM (by simp[qW,h1,h2];try omega),rfl⟩
 ·have h2:decide (1≤x)=false:=by simpa using h1
  go_enter Tryz.func183,Tryz.ntmps183;go_wp2
  go_ret;exact⟨aM (by simp only[qW,h2,wI]),rfl⟩
theorem actor_any(x:Int)(w:World):Calls Tryz.prog 182 #[.int .i64 x] w fun e w'=>e=.returned (.bool (kF x))∧w=w':=by
 by_cases h1:1≤x
 ·by_cases h2:x≤99;all_goals
   go_enter Tryz.func182,Tryz.ntmps182;go_wp2
   go_ret;exact⟨aM (by simp[kF,h1,h2];try omega),rfl⟩
 ·have h2:decide (1≤x)=false:=by simpa using h1
  go_enter Tryz.func182,Tryz.ntmps182;go_wp2
  go_ret;exact⟨aM (by simp only[kF,h2,wI]),rfl⟩
theorem pK(a b:Int)(w:World):Calls Tryz.prog 185 #[.agg #[.int .i64 a,.int .i64 b]] w fun e w'=>e=.returned (.bool (cQ a b))∧Below w.heap.size w w':=by
 cases hn:qW a;all_goals
  go_enter Tryz.func185,Tryz.ntmps185;go_wp2_with (first|(go_at_call 183;refine(num_any _ _).mono ?_;rintro e w' ⟨rfl,rfl⟩)|(go_at_call 182;refine(actor_any _ _).mono ?_;rintro e w' ⟨rfl,rfl⟩))
  go_ret;exact⟨aM (by simp only[cQ,hn,wI,wG]),by repeat (first|exact sB _ _|refine uO ?_|refine tW ?_ (by first|(simp;done)|(simp;omega)) _)⟩
def gH(b:Bool):Value:=if b then .nilIface else .iface 101 (.int .i64 1)
theorem realB_0(b:Int):cQ 0 b=false:=by simp[cQ,qW]
theorem cP{b:Bool}(h:b=true):Ending.returned .nilIface=.returned (gH b):=by rw[h];rfl
theorem bL{b:Bool}(h:b=false):Ending.returned (.iface 101 (.int .i64 1))=.returned (gH b):=by rw[h];rfl
theorem rW(a b:Int)(w:World):Calls Tryz.prog 184 #[.agg #[.int .i64 a,.int .i64 b]] w fun e w'=>e=.returned (gH (idB a b))∧Below w.heap.size w w':=by
 by_cases h0:a=0
 ·subst h0;by_cases h1:b=0
  ·subst h1;go_enter Tryz.func184,Tryz.ntmps184;go_wp2_with fail
   go_ret;exact⟨cP rfl,by repeat (first|exact sB _ _|refine uO ?_|refine tW ?_ (by first|(simp;done)|(simp;omega)) _)⟩
  ·have hb0:(b == 0)=false:=by simpa using h1
   have hr:=realB_0 b;have H1:=Hi h1;clear h1;go_enter Tryz.func184,Tryz.ntmps184;go_wp2_with (first|(go_at_call 185;refine(pK _ _ _).mono ?_;rintro e w1 ⟨rfl,hb⟩))
   go_ret;exact⟨bL (by simp[idB,bK,hr,H1.o]),by repeat (first|exact sB _ _|refine uO ?_|refine tW ?_ (by first|(simp;done)|(simp;omega)) _|refine uC ?_ (hb.mono (by simp)))⟩
 ·have ha0:(a == 0)=false:=by simpa using h0
  have H0:=Hi h0;clear h0;cases hr:cQ a b
  ·go_enter Tryz.func184,Tryz.ntmps184;go_wp2_with (first|(go_at_call 185;refine(pK _ _ _).mono ?_;rintro e w1 ⟨rfl,hb⟩))
   go_ret;exact⟨bL (by simp[idB,bK,hr,H0.o]),by repeat (first|exact sB _ _|refine uO ?_|refine tW ?_ (by first|(simp;done)|(simp;omega)) _|refine uC ?_ (hb.mono (by simp)))⟩
  ·go_enter Tryz.func184,Tryz.ntmps184;go_wp2_with (first|(go_at_call 185;refine(pK _ _ _).mono ?_;rintro e w1 ⟨rfl,hb⟩))
   go_ret;exact⟨cP (by simp[idB,hr]),by repeat (first|exact sB _ _|refine uO ?_|refine tW ?_ (by first|(simp;done)|(simp;omega)) _|refine uC ?_ (hb.mono (by simp)))⟩
def eK(k:Int):Bool:=decide (k=5)||decide (k=6)
theorem object_any(k n a b:Int)(t:ByteArray)(w:World):
 Calls Tryz.prog 188 #[.agg #[.int .i64 k,.int .i64 n,.string t,.int .i64 a,.int .i64 b]] w fun e w'=>e=.returned (.bool (eK k))∧Below w.heap.size w w':=by
 by_cases h5:k=5
 ·subst h5;go_enter Tryz.func188,Tryz.ntmps188;go_wp2
  go_ret;exact⟨rfl,by repeat (first|exact sB _ _|refine uO ?_|refine tW ?_ (by first|(simp;done)|(simp;omega)) _)⟩
 ·by_cases h6:k=6
  ·subst h6;go_enter Tryz.func188,Tryz.ntmps188;go_wp2
   go_ret;exact⟨rfl,by repeat (first|exact sB _ _|refine uO ?_|refine tW ?_ (by first|(simp;done)|(simp;omega)) _)⟩
  ·have e5:(k == 5)=false:=by simpa using h5
   have e6:(k == 6)=false:=by simpa using h6
   have H5:=Hi h5;have H6:=Hi h6;clear h5 h6;go_enter Tryz.func188,Tryz.ntmps188;go_wp2
   go_ret;exact⟨aM (by simp[eK,H5.o,H6.o]),by repeat (first|exact sB _ _|refine uO ?_|refine tW ?_ (by first|(simp;done)|(simp;omega)) _)⟩
def bW(t:ByteArray)(a b:Int):Bool:=t.toList.isEmpty&&bK a b
def aD(k n:Int)(t:ByteArray)(a b:Int):Bool :=
 if k=0 then bW t a b&&decide (n=0)
 else if k=1 then bW t a b&&(decide (n=0)||decide (n=1))
 else if k=2∨k=4 then bW t a b
 else if k=3 then decide (n=0)&&bK a b&&decide (t.size≤60)
 else if k=5∨k=6 then decide (n=0)&&t.toList.isEmpty&&idB a b
 else false
theorem eM{b:Bool}(h:b=true):gH b=.nilIface:=by rw[h];rfl
theorem eF{b:Bool}(h:b=false):gH b=.iface 101 (.int .i64 1):=by rw[h];rfl
theorem gL(a b:Int)(h:idB a b=true)(w:World):Calls Tryz.prog 184 #[.agg #[.int .i64 a,.int .i64 b]] w fun e w'=>e=.returned .nilIface∧Below w.heap.size w w':=by
 rw[←eM h];exact rW a b w
theorem iE(a b:Int)(h:idB a b=false)(w:World):Calls Tryz.prog 184 #[.agg #[.int .i64 a,.int .i64 b]] w fun e w'=>e=.returned (.iface 101 (.int .i64 1))∧Below w.heap.size w w':=by
 rw[←eF h];exact rW a b w
theorem valCheck_any(k n a b:Int)(t:ByteArray)(w:World):
 Calls Tryz.prog 187 #[.agg #[.int .i64 k,.int .i64 n,.string t,.int .i64 a,.int .i64 b]] w fun e w'=>e=.returned (gH (aD k n t a b))∧Below w.heap.size w w':=by
 by_cases h0:k=0
 ·subst h0;go_enter Tryz.func187,Tryz.ntmps187;go_wp2
  all_goals
   go_ret;refine⟨?_,by repeat (first|exact sB _ _|refine uO ?_|refine tW ?_ (by first|(simp;done)|(simp;omega)) _|refine uC ?_ (hb.mono (by simp)))⟩
   first|(refine cP ?_;simp_all [aD,bW,bK];try omega;done)|(refine bL ?_;simp_all [aD,bW,bK];try omega;done)
 by_cases h1:k=1
 ·subst h1;go_enter Tryz.func187,Tryz.ntmps187;go_wp2
  all_goals
   go_ret;refine⟨?_,by repeat (first|exact sB _ _|refine uO ?_|refine tW ?_ (by first|(simp;done)|(simp;omega)) _|refine uC ?_ (hb.mono (by simp)))⟩
   first|(refine cP ?_;simp_all [aD,bW,bK];try omega;done)|(refine bL ?_;simp_all [aD,bW,bK];try omega;done)
 by_cases h2:k=2
 ·subst h2;go_enter Tryz.func187,Tryz.ntmps187;go_wp2
  all_goals
   go_ret;refine⟨?_,by repeat (first|exact sB _ _|refine uO ?_|refine tW ?_ (by first|(simp;done)|(simp;omega)) _|refine uC ?_ (hb.mono (by simp)))⟩
   first|(refine cP ?_;simp_all [aD,bW,bK];try omega;done)|(refine bL ?_;simp_all [aD,bW,bK];try omega;done)
 by_cases h4:k=4
 ·subst h4;go_enter Tryz.func187,Tryz.ntmps187;go_wp2
  all_goals
   go_ret;refine⟨?_,by repeat (first|exact sB _ _|refine uO ?_|refine tW ?_ (by first|(simp;done)|(simp;omega)) _|refine uC ?_ (hb.mono (by simp)))⟩
   first|(refine cP ?_;simp_all [aD,bW,bK];try omega;done)|(refine bL ?_;simp_all [aD,bW,bK];try omega;done)
 by_cases h3:k=3
 ·subst h3;go_enter Tryz.func187,Tryz.ntmps187;go_wp2
  all_goals
   go_ret;refine⟨?_,by repeat (first|exact sB _ _|refine uO ?_|refine tW ?_ (by first|(simp;done)|(simp;omega)) _|refine uC ?_ (hb.mono (by simp)))⟩
   first|(refine cP ?_;simp_all [aD,bW,bK];try omega;done)|(refine bL ?_;simp_all [aD,bW,bK];try omega;done)
 by_cases h5:k=5
 ·subst h5;by_cases hn:n=0
  ·subst hn;by_cases ht:t.toList=[]
   ·by_cases ha:a=0
    ·subst ha;by_cases hb0:b=0
     ·subst hb0;have HV:Hid (aD 5 0 t 0 0=true):=by show aD 5 0 t 0 0=true;simp[aD,ht,idB,bK]
      go_enter Tryz.func187,Tryz.ntmps187;go_wp2_with (first|(go_at_call 184;refine(gL _ _ rfl _).mono ?_;rintro e w1 ⟨rfl,hb⟩))
      go_ret;exact⟨cP HV.o,by repeat (first|exact sB _ _|refine uO ?_|refine tW ?_ (by first|(simp;done)|(simp;omega)) _|refine uC ?_ (hb.mono (by simp)))⟩
     ·have HI:Hid (idB 0 b=false):=by show idB 0 b=false;simp[idB,bK,realB_0,hb0]
      have HV:Hid (aD 5 0 t 0 b=false):=by show aD 5 0 t 0 b=false;simp[aD,ht,HI.o]
      have eb:(b == 0)=false:=by simpa using hb0
      clear hb0;go_enter Tryz.func187,Tryz.ntmps187;go_wp2_with (first|(go_at_call 184;refine(iE _ _ HI.o _).mono ?_;rintro e w1 ⟨rfl,hb⟩))
      go_ret;exact⟨bL HV.o,by repeat (first|exact sB _ _|refine uO ?_|refine tW ?_ (by first|(simp;done)|(simp;omega)) _|refine uC ?_ (hb.mono (by simp)))⟩
    ·have ea:(a == 0)=false:=by simpa using ha
     clear ha;cases hi:idB a b
     ·have HV:Hid (aD 5 0 t a b=false):=by show aD 5 0 t a b=false;simp[aD,ht,hi]
      have HI:=Hi hi;clear hi;go_enter Tryz.func187,Tryz.ntmps187;go_wp2_with (first|(go_at_call 184;refine(iE _ _ HI.o _).mono ?_;rintro e w1 ⟨rfl,hb⟩))
      go_ret;exact⟨bL HV.o,by repeat (first|exact sB _ _|refine uO ?_|refine tW ?_ (by first|(simp;done)|(simp;omega)) _|refine uC ?_ (hb.mono (by simp)))⟩
     ·have HV:Hid (aD 5 0 t a b=true):=by show aD 5 0 t a b=true;simp[aD,ht,hi]
      have HI:=Hi hi;clear hi;go_enter Tryz.func187,Tryz.ntmps187;go_wp2_with (first|(go_at_call 184;refine(gL _ _ HI.o _).mono ?_;rintro e w1 ⟨rfl,hb⟩))
      go_ret;exact⟨cP HV.o,by repeat (first|exact sB _ _|refine uO ?_|refine tW ?_ (by first|(simp;done)|(simp;omega)) _|refine uC ?_ (hb.mono (by simp)))⟩
   ·have HV:Hid (aD 5 0 t a b=false):=by show aD 5 0 t a b=false;simp[aD,ht]
    go_enter Tryz.func187,Tryz.ntmps187;go_wp2
    all_goals
     go_ret;exact⟨bL HV.o,by repeat (first|exact sB _ _|refine uO ?_|refine tW ?_ (by first|(simp;done)|(simp;omega)) _|refine uC ?_ (hb.mono (by simp)))⟩
  ·have HV:Hid (aD 5 n t a b=false):=by show aD 5 n t a b=false;simp[aD,hn]
   have hn0:(n == 0)=false:=by simpa using hn
   clear hn;go_enter Tryz.func187,Tryz.ntmps187;go_wp2
   all_goals
    go_ret;exact⟨bL HV.o,by repeat (first|exact sB _ _|refine uO ?_|refine tW ?_ (by first|(simp;done)|(simp;omega)) _|refine uC ?_ (hb.mono (by simp)))⟩
 by_cases h6:k=6
 ·subst h6;by_cases hn:n=0
  ·subst hn;by_cases ht:t.toList=[]
   ·by_cases ha:a=0
    ·subst ha;by_cases hb0:b=0
     ·subst hb0;have HV:Hid (aD 6 0 t 0 0=true):=by show aD 6 0 t 0 0=true;simp[aD,ht,idB,bK]
      go_enter Tryz.func187,Tryz.ntmps187;go_wp2_with (first|(go_at_call 184;refine(gL _ _ rfl _).mono ?_;rintro e w1 ⟨rfl,hb⟩))
      go_ret;exact⟨cP HV.o,by repeat (first|exact sB _ _|refine uO ?_|refine tW ?_ (by first|(simp;done)|(simp;omega)) _|refine uC ?_ (hb.mono (by simp)))⟩
     ·have HI:Hid (idB 0 b=false):=by show idB 0 b=false;simp[idB,bK,realB_0,hb0]
      have HV:Hid (aD 6 0 t 0 b=false):=by show aD 6 0 t 0 b=false;simp[aD,ht,HI.o]
      have eb:(b == 0)=false:=by simpa using hb0
      clear hb0;go_enter Tryz.func187,Tryz.ntmps187;go_wp2_with (first|(go_at_call 184;refine(iE _ _ HI.o _).mono ?_;rintro e w1 ⟨rfl,hb⟩))
      go_ret;exact⟨bL HV.o,by repeat (first|exact sB _ _|refine uO ?_|refine tW ?_ (by first|(simp;done)|(simp;omega)) _|refine uC ?_ (hb.mono (by simp)))⟩
    ·have ea:(a == 0)=false:=by simpa using ha
     clear ha;cases hi:idB a b
     ·have HV:Hid (aD 6 0 t a b=false):=by show aD 6 0 t a b=false;simp[aD,ht,hi]
      have HI:=Hi hi;clear hi;go_enter Tryz.func187,Tryz.ntmps187;go_wp2_with (first|(go_at_call 184;refine(iE _ _ HI.o _).mono ?_;rintro e w1 ⟨rfl,hb⟩))
      go_ret;exact⟨bL HV.o,by repeat (first|exact sB _ _|refine uO ?_|refine tW ?_ (by first|(simp;done)|(simp;omega)) _|refine uC ?_ (hb.mono (by simp)))⟩
     ·have HV:Hid (aD 6 0 t a b=true):=by show aD 6 0 t a b=true;simp[aD,ht,hi]
      have HI:=Hi hi;clear hi;go_enter Tryz.func187,Tryz.ntmps187;go_wp2_with (first|(go_at_call 184;refine(gL _ _ HI.o _).mono ?_;rintro e w1 ⟨rfl,hb⟩))
      go_ret;exact⟨cP HV.o,by repeat (first|exact sB _ _|refine uO ?_|refine tW ?_ (by first|(simp;done)|(simp;omega)) _|refine uC ?_ (hb.mono (by simp)))⟩
   ·have HV:Hid (aD 6 0 t a b=false):=by show aD 6 0 t a b=false;simp[aD,ht]
    go_enter Tryz.func187,Tryz.ntmps187;go_wp2
    all_goals
     go_ret;exact⟨bL HV.o,by repeat (first|exact sB _ _|refine uO ?_|refine tW ?_ (by first|(simp;done)|(simp;omega)) _|refine uC ?_ (hb.mono (by simp)))⟩
  ·have HV:Hid (aD 6 n t a b=false):=by show aD 6 n t a b=false;simp[aD,hn]
   have hn0:(n == 0)=false:=by simpa using hn
   clear hn;go_enter Tryz.func187,Tryz.ntmps187;go_wp2
   all_goals
    go_ret;exact⟨bL HV.o,by repeat (first|exact sB _ _|refine uO ?_|refine tW ?_ (by first|(simp;done)|(simp;omega)) _|refine uC ?_ (hb.mono (by simp)))⟩
 have e0:(k == 0)=false:=by simpa using h0
 have e1:(k == 1)=false:=by simpa using h1
 have e2:(k == 2)=false:=by simpa using h2
 have e4:(k == 4)=false:=by simpa using h4
 have e3:(k == 3)=false:=by simpa using h3
 have e5:(k == 5)=false:=by simpa using h5
 have e6:(k == 6)=false:=by simpa using h6
 have HV:Hid (aD k n t a b=false):=by show aD k n t a b=false;simp[aD, *]
 clear h0 h1 h2 h3 h4 h5 h6;go_enter Tryz.func187,Tryz.ntmps187;go_wp2
 all_goals
  go_ret;refine⟨?_,by repeat (first|exact sB _ _|refine uO ?_|refine tW ?_ (by first|(simp;done)|(simp;omega)) _|refine uC ?_ (hb.mono (by simp)))⟩
  exact bL HV.o
end Go.Proofs.YtmpkejflgpodkaaGreatDoor
