/- Contracts: what is an id, a ref, a value. -/
import Derived.Test.YtjhkcbideddlgaaGreatP0
import Derived.WalkKit
import Derived.ProofKit
import Derived.OpenShut
import Derived.LoopTactic
import Derived.WalkLawsBesides
import Derived.WalkSpells
import Derived.BigQuiet
import Derived.Deep.QuietTactic
import Derived.Deep.RegionHeld3
import Derived.Lib.Hide
import Derived.Deep.DeepFit
set_option maxHeartbeats 1600000
set_option linter.unusedVariables false
set_option linter.unusedSimpArgs false
namespace Go.Proofs.YtjhkcbideddlgaaGreat
open Go.ChangeShapes Go.WideShapes Go.ChangeAt Go.RowKit
def oU(x:Int):Bool:=decide (1≤x)&&decide (x≤1000000)
def iZ(x:Int):Bool:=decide (1≤x)&&decide (x≤99)
def cJ(a b:Int):Bool:=oU a&&iZ b
def bD(a b:Int):Bool:=decide (a=0)&&decide (b=0)
def idB(a b:Int):Bool:=bD a b||cJ a b
theorem num_any(x:Int)(w:World):Calls Tryz.prog 96 #[.int .i64 x] w fun e w'=>e=.returned (.bool (oU x))∧w=w':=by
 by_cases h1:1≤x
 ·by_cases h2:x≤1000000;all_goals
   go_enter Tryz.func96,Tryz.ntmps96;go_wp2
   go_ret;exact⟨aL (by simp[oU,h1,h2];try omega),rfl⟩
 ·have h2:decide (1≤x)=false:=by simpa using h1
  go_enter Tryz.func96,Tryz.ntmps96;go_wp2
  go_ret;exact⟨aL (by simp only[oU,h2,vN]),rfl⟩
theorem actor_any(x:Int)(w:World):Calls Tryz.prog 95 #[.int .i64 x] w fun e w'=>e=.returned (.bool (iZ x))∧w=w':=by
 by_cases h1:1≤x
 ·by_cases h2:x≤99;all_goals
   go_enter Tryz.func95,Tryz.ntmps95;go_wp2
   go_ret;exact⟨aL (by simp[iZ,h1,h2];try omega),rfl⟩
 ·have h2:decide (1≤x)=false:=by simpa using h1
  go_enter Tryz.func95,Tryz.ntmps95;go_wp2
  go_ret;exact⟨aL (by simp only[iZ,h2,vN]),rfl⟩
theorem mY(a b:Int)(w:World):Calls Tryz.prog 113 #[.agg #[.int .i64 a,.int .i64 b]] w fun e w'=>e=.returned (.bool (cJ a b))∧Below w.heap.size w w':=by
 cases hn:oU a;all_goals
  go_enter Tryz.func113,Tryz.ntmps113;go_wp2_with (first|(go_at_call 96;refine(num_any _ _).mono ?_;rintro e w' ⟨rfl,rfl⟩)|(go_at_call 95;refine(actor_any _ _).mono ?_;rintro e w' ⟨rfl,rfl⟩))
  go_ret;exact⟨aL (by simp only[cJ,hn,vN,vL]),by repeat (first|exact sA _ _|refine uF ?_|refine tZ ?_ (by first|(simp;done)|(simp;omega)) _)⟩
def fR(b:Bool):Value:=if b then .nilIface else .iface 97 (.int .i64 1)
theorem realB_0(b:Int):cJ 0 b=false:=by simp[cJ,oU]
theorem cI{b:Bool}(h:b=true):Ending.returned .nilIface=.returned (fR b):=by rw[h];rfl
theorem bF{b:Bool}(h:b=false):Ending.returned (.iface 97 (.int .i64 1))=.returned (fR b):=by rw[h];rfl
theorem pQ(a b:Int)(w:World):Calls Tryz.prog 112 #[.agg #[.int .i64 a,.int .i64 b]] w fun e w'=>e=.returned (fR (idB a b))∧Below w.heap.size w w':=by
 by_cases h0:a=0
 ·subst h0;by_cases h1:b=0
  ·subst h1;go_enter Tryz.func112,Tryz.ntmps112;go_wp2_with fail
   go_ret;exact⟨cI rfl,by repeat (first|exact sA _ _|refine uF ?_|refine tZ ?_ (by first|(simp;done)|(simp;omega)) _)⟩
  ·have hb0:(b == 0)=false:=by simpa using h1
   have hr:=realB_0 b;have H1:=Hi h1;clear h1;go_enter Tryz.func112,Tryz.ntmps112;go_wp2_with (first|(go_at_call 113;refine(mY _ _ _).mono ?_;rintro e w1 ⟨rfl,hb⟩))
   go_ret;exact⟨bF (by simp[idB,bD,hr,H1.o]),by repeat (first|exact sA _ _|refine uF ?_|refine tZ ?_ (by first|(simp;done)|(simp;omega)) _|refine uA ?_ (hb.mono (by simp)))⟩
 ·have ha0:(a == 0)=false:=by simpa using h0
  have H0:=Hi h0;clear h0;cases hr:cJ a b
  ·go_enter Tryz.func112,Tryz.ntmps112;go_wp2_with (first|(go_at_call 113;refine(mY _ _ _).mono ?_;rintro e w1 ⟨rfl,hb⟩))
   go_ret;exact⟨bF (by simp[idB,bD,hr,H0.o]),by repeat (first|exact sA _ _|refine uF ?_|refine tZ ?_ (by first|(simp;done)|(simp;omega)) _|refine uA ?_ (hb.mono (by simp)))⟩
  ·go_enter Tryz.func112,Tryz.ntmps112;go_wp2_with (first|(go_at_call 113;refine(mY _ _ _).mono ?_;rintro e w1 ⟨rfl,hb⟩))
   go_ret;exact⟨cI (by simp[idB,hr]),by repeat (first|exact sA _ _|refine uF ?_|refine tZ ?_ (by first|(simp;done)|(simp;omega)) _|refine uA ?_ (hb.mono (by simp)))⟩
def dE(k:Int):Bool:=decide (k=5)||decide (k=6)
theorem object_any(k n a b:Int)(t:ByteArray)(w:World):
 Calls Tryz.prog 116 #[.agg #[.int .i64 k,.int .i64 n,.string t,.int .i64 a,.int .i64 b]] w fun e w'=>e=.returned (.bool (dE k))∧Below w.heap.size w w':=by
 by_cases h5:k=5
 ·subst h5;go_enter Tryz.func116,Tryz.ntmps116;go_wp2
  go_ret;exact⟨rfl,by repeat (first|exact sA _ _|refine uF ?_|refine tZ ?_ (by first|(simp;done)|(simp;omega)) _)⟩
 ·by_cases h6:k=6
  ·subst h6;go_enter Tryz.func116,Tryz.ntmps116;go_wp2
   go_ret;exact⟨rfl,by repeat (first|exact sA _ _|refine uF ?_|refine tZ ?_ (by first|(simp;done)|(simp;omega)) _)⟩
  ·have e5:(k == 5)=false:=by simpa using h5
   have e6:(k == 6)=false:=by simpa using h6
   have H5:=Hi h5;have H6:=Hi h6;clear h5 h6;go_enter Tryz.func116,Tryz.ntmps116;go_wp2
   go_ret;exact⟨aL (by simp[dE,H5.o,H6.o]),by repeat (first|exact sA _ _|refine uF ?_|refine tZ ?_ (by first|(simp;done)|(simp;omega)) _)⟩
def bU(t:ByteArray)(a b:Int):Bool:=t.toList.isEmpty&&bD a b
def aE(k n:Int)(t:ByteArray)(a b:Int):Bool :=
 if k=0 then bU t a b&&decide (n=0)
 else if k=1 then bU t a b&&(decide (n=0)||decide (n=1))
 else if k=2∨k=4 then bU t a b
 else if k=3 then decide (n=0)&&bD a b&&decide (t.size≤60)
 else if k=5∨k=6 then decide (n=0)&&t.toList.isEmpty&&idB a b
 else false
theorem eD{b:Bool}(h:b=true):fR b=.nilIface:=by rw[h];rfl
theorem dW{b:Bool}(h:b=false):fR b=.iface 97 (.int .i64 1):=by rw[h];rfl
theorem fT(a b:Int)(h:idB a b=true)(w:World):Calls Tryz.prog 112 #[.agg #[.int .i64 a,.int .i64 b]] w fun e w'=>e=.returned .nilIface∧Below w.heap.size w w':=by
 rw[←eD h];exact pQ a b w
theorem gM(a b:Int)(h:idB a b=false)(w:World):Calls Tryz.prog 112 #[.agg #[.int .i64 a,.int .i64 b]] w fun e w'=>e=.returned (.iface 97 (.int .i64 1))∧Below w.heap.size w w':=by
 rw[←dW h];exact pQ a b w
theorem valCheck_any(k n a b:Int)(t:ByteArray)(w:World):
 Calls Tryz.prog 115 #[.agg #[.int .i64 k,.int .i64 n,.string t,.int .i64 a,.int .i64 b]] w fun e w'=>e=.returned (fR (aE k n t a b))∧Below w.heap.size w w':=by
 by_cases h0:k=0
 ·subst h0;go_enter Tryz.func115,Tryz.ntmps115;go_wp2
  all_goals
   go_ret;refine⟨?_,by repeat (first|exact sA _ _|refine uF ?_|refine tZ ?_ (by first|(simp;done)|(simp;omega)) _|refine uA ?_ (hb.mono (by simp)))⟩
   first|(refine cI ?_;simp_all [aE,bU,bD];try omega;done)|(refine bF ?_;simp_all [aE,bU,bD];try omega;done)
 by_cases h1:k=1
 ·subst h1;go_enter Tryz.func115,Tryz.ntmps115;go_wp2
  all_goals
   go_ret;refine⟨?_,by repeat (first|exact sA _ _|refine uF ?_|refine tZ ?_ (by first|(simp;done)|(simp;omega)) _|refine uA ?_ (hb.mono (by simp)))⟩
   first|(refine cI ?_;simp_all [aE,bU,bD];try omega;done)|(refine bF ?_;simp_all [aE,bU,bD];try omega;done)
 by_cases h2:k=2
 ·subst h2;go_enter Tryz.func115,Tryz.ntmps115;go_wp2
  all_goals
   go_ret;refine⟨?_,by repeat (first|exact sA _ _|refine uF ?_|refine tZ ?_ (by first|(simp;done)|(simp;omega)) _|refine uA ?_ (hb.mono (by simp)))⟩
   first|(refine cI ?_;simp_all [aE,bU,bD];try omega;done)|(refine bF ?_;simp_all [aE,bU,bD];try omega;done)
 by_cases h4:k=4
 ·subst h4;go_enter Tryz.func115,Tryz.ntmps115;go_wp2
  all_goals
   go_ret;refine⟨?_,by repeat (first|exact sA _ _|refine uF ?_|refine tZ ?_ (by first|(simp;done)|(simp;omega)) _|refine uA ?_ (hb.mono (by simp)))⟩
   first|(refine cI ?_;simp_all [aE,bU,bD];try omega;done)|(refine bF ?_;simp_all [aE,bU,bD];try omega;done)
 by_cases h3:k=3
 ·subst h3;go_enter Tryz.func115,Tryz.ntmps115;go_wp2
  all_goals
   go_ret;refine⟨?_,by repeat (first|exact sA _ _|refine uF ?_|refine tZ ?_ (by first|(simp;done)|(simp;omega)) _|refine uA ?_ (hb.mono (by simp)))⟩
   first|(refine cI ?_;simp_all [aE,bU,bD];try omega;done)|(refine bF ?_;simp_all [aE,bU,bD];try omega;done)
 by_cases h5:k=5
 ·subst h5;by_cases hn:n=0
  ·subst hn;by_cases ht:t.toList=[]
   ·by_cases ha:a=0
    ·subst ha;by_cases hb0:b=0
     ·subst hb0;have HV:Hid (aE 5 0 t 0 0=true):=by show aE 5 0 t 0 0=true;simp[aE,ht,idB,bD]
      go_enter Tryz.func115,Tryz.ntmps115;go_wp2_with (first|(go_at_call 112;refine(fT _ _ rfl _).mono ?_;rintro e w1 ⟨rfl,hb⟩))
      go_ret;exact⟨cI HV.o,by repeat (first|exact sA _ _|refine uF ?_|refine tZ ?_ (by first|(simp;done)|(simp;omega)) _|refine uA ?_ (hb.mono (by simp)))⟩
     ·have HI:Hid (idB 0 b=false):=by show idB 0 b=false;simp[idB,bD,realB_0,hb0]
      have HV:Hid (aE 5 0 t 0 b=false):=by show aE 5 0 t 0 b=false;simp[aE,ht,HI.o]
      have eb:(b == 0)=false:=by simpa using hb0
      clear hb0;go_enter Tryz.func115,Tryz.ntmps115;go_wp2_with (first|(go_at_call 112;refine(gM _ _ HI.o _).mono ?_;rintro e w1 ⟨rfl,hb⟩))
      go_ret;exact⟨bF HV.o,by repeat (first|exact sA _ _|refine uF ?_|refine tZ ?_ (by first|(simp;done)|(simp;omega)) _|refine uA ?_ (hb.mono (by simp)))⟩
    ·have ea:(a == 0)=false:=by simpa using ha
     clear ha;cases hi:idB a b
     ·have HV:Hid (aE 5 0 t a b=false):=by show aE 5 0 t a b=false;simp[aE,ht,hi]
      have HI:=Hi hi;clear hi;go_enter Tryz.func115,Tryz.ntmps115;go_wp2_with (first|(go_at_call 112;refine(gM _ _ HI.o _).mono ?_;rintro e w1 ⟨rfl,hb⟩))
      go_ret;exact⟨bF HV.o,by repeat (first|exact sA _ _|refine uF ?_|refine tZ ?_ (by first|(simp;done)|(simp;omega)) _|refine uA ?_ (hb.mono (by simp)))⟩
     ·have HV:Hid (aE 5 0 t a b=true):=by show aE 5 0 t a b=true;simp[aE,ht,hi]
      have HI:=Hi hi;clear hi;go_enter Tryz.func115,Tryz.ntmps115;go_wp2_with (first|(go_at_call 112;refine(fT _ _ HI.o _).mono ?_;rintro e w1 ⟨rfl,hb⟩))
      go_ret;exact⟨cI HV.o,by repeat (first|exact sA _ _|refine uF ?_|refine tZ ?_ (by first|(simp;done)|(simp;omega)) _|refine uA ?_ (hb.mono (by simp)))⟩
   ·have HV:Hid (aE 5 0 t a b=false):=by show aE 5 0 t a b=false;simp[aE,ht]
    go_enter Tryz.func115,Tryz.ntmps115;go_wp2
    all_goals
     go_ret;exact⟨bF HV.o,by repeat (first|exact sA _ _|refine uF ?_|refine tZ ?_ (by first|(simp;done)|(simp;omega)) _|refine uA ?_ (hb.mono (by simp)))⟩
  ·have HV:Hid (aE 5 n t a b=false):=by show aE 5 n t a b=false;simp[aE,hn]
   have hn0:(n == 0)=false:=by simpa using hn
   clear hn;go_enter Tryz.func115,Tryz.ntmps115;go_wp2
   all_goals
    go_ret;exact⟨bF HV.o,by repeat (first|exact sA _ _|refine uF ?_|refine tZ ?_ (by first|(simp;done)|(simp;omega)) _|refine uA ?_ (hb.mono (by simp)))⟩
 by_cases h6:k=6
 ·subst h6;by_cases hn:n=0
  ·subst hn;by_cases ht:t.toList=[]
   ·by_cases ha:a=0
    ·subst ha;by_cases hb0:b=0
     ·subst hb0;have HV:Hid (aE 6 0 t 0 0=true):=by show aE 6 0 t 0 0=true;simp[aE,ht,idB,bD]
      go_enter Tryz.func115,Tryz.ntmps115;go_wp2_with (first|(go_at_call 112;refine(fT _ _ rfl _).mono ?_;rintro e w1 ⟨rfl,hb⟩))
      go_ret;exact⟨cI HV.o,by repeat (first|exact sA _ _|refine uF ?_|refine tZ ?_ (by first|(simp;done)|(simp;omega)) _|refine uA ?_ (hb.mono (by simp)))⟩
     ·have HI:Hid (idB 0 b=false):=by show idB 0 b=false;simp[idB,bD,realB_0,hb0]
      have HV:Hid (aE 6 0 t 0 b=false):=by show aE 6 0 t 0 b=false;simp[aE,ht,HI.o]
      have eb:(b == 0)=false:=by simpa using hb0
      clear hb0;go_enter Tryz.func115,Tryz.ntmps115;go_wp2_with (first|(go_at_call 112;refine(gM _ _ HI.o _).mono ?_;rintro e w1 ⟨rfl,hb⟩))
      go_ret;exact⟨bF HV.o,by repeat (first|exact sA _ _|refine uF ?_|refine tZ ?_ (by first|(simp;done)|(simp;omega)) _|refine uA ?_ (hb.mono (by simp)))⟩
    ·have ea:(a == 0)=false:=by simpa using ha
     clear ha;cases hi:idB a b
     ·have HV:Hid (aE 6 0 t a b=false):=by show aE 6 0 t a b=false;simp[aE,ht,hi]
      have HI:=Hi hi;clear hi;go_enter Tryz.func115,Tryz.ntmps115;go_wp2_with (first|(go_at_call 112;refine(gM _ _ HI.o _).mono ?_;rintro e w1 ⟨rfl,hb⟩))
      go_ret;exact⟨bF HV.o,by repeat (first|exact sA _ _|refine uF ?_|refine tZ ?_ (by first|(simp;done)|(simp;omega)) _|refine uA ?_ (hb.mono (by simp)))⟩
     ·have HV:Hid (aE 6 0 t a b=true):=by show aE 6 0 t a b=true;simp[aE,ht,hi]
      have HI:=Hi hi;clear hi;go_enter Tryz.func115,Tryz.ntmps115;go_wp2_with (first|(go_at_call 112;refine(fT _ _ HI.o _).mono ?_;rintro e w1 ⟨rfl,hb⟩))
      go_ret;exact⟨cI HV.o,by repeat (first|exact sA _ _|refine uF ?_|refine tZ ?_ (by first|(simp;done)|(simp;omega)) _|refine uA ?_ (hb.mono (by simp)))⟩
   ·have HV:Hid (aE 6 0 t a b=false):=by show aE 6 0 t a b=false;simp[aE,ht]
    go_enter Tryz.func115,Tryz.ntmps115;go_wp2
    all_goals
     go_ret;exact⟨bF HV.o,by repeat (first|exact sA _ _|refine uF ?_|refine tZ ?_ (by first|(simp;done)|(simp;omega)) _|refine uA ?_ (hb.mono (by simp)))⟩
  ·have HV:Hid (aE 6 n t a b=false):=by show aE 6 n t a b=false;simp[aE,hn]
   have hn0:(n == 0)=false:=by simpa using hn
   clear hn;go_enter Tryz.func115,Tryz.ntmps115;go_wp2
   all_goals
    go_ret;exact⟨bF HV.o,by repeat (first|exact sA _ _|refine uF ?_|refine tZ ?_ (by first|(simp;done)|(simp;omega)) _|refine uA ?_ (hb.mono (by simp)))⟩
 have e0:(k == 0)=false:=by simpa using h0
 have e1:(k == 1)=false:=by simpa using h1
 have e2:(k == 2)=false:=by simpa using h2
 have e4:(k == 4)=false:=by simpa using h4
 have e3:(k == 3)=false:=by simpa using h3
 have e5:(k == 5)=false:=by simpa using h5
 have e6:(k == 6)=false:=by simpa using h6
 have HV:Hid (aE k n t a b=false):=by show aE k n t a b=false;simp[aE, *]
 clear h0 h1 h2 h3 h4 h5 h6;go_enter Tryz.func115,Tryz.ntmps115;go_wp2
 all_goals
  go_ret;refine⟨?_,by repeat (first|exact sA _ _|refine uF ?_|refine tZ ?_ (by first|(simp;done)|(simp;omega)) _|refine uA ?_ (hb.mono (by simp)))⟩
  exact bF HV.o
end Go.Proofs.YtjhkcbideddlgaaGreat
