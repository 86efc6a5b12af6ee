/- Contracts: the document's own words on ids and values (package bookref1): Root, Real, Id, Value, Less, Compare. -/
import Derived.Test.YtjhkcbideddlgaaGreatP3
import Derived.Test.YtjhkcbideddlgaaGreatP0
set_option linter.unusedVariables false
set_option linter.unusedSimpArgs false
namespace Go.Proofs.YtjhkcbideddlgaaGreat
open Go.ChangeShapes Go.WideShapes Go.ChangeAt Go.RowKit
theorem cB(a b:Int)(w:World):Calls Tryz.prog 34 #[.agg #[.int .i64 a,.int .i64 b]] w fun e w'=>e=.returned (.bool (bD a b))∧Below w.heap.size w w':=by
 by_cases h1:a=0;all_goals
  go_enter Tryz.func34,Tryz.ntmps34;go_wp2
  all_goals
   go_ret;exact⟨aL (by first|(simp_all [bD];done)|(simp_all [bD];rfl)),by repeat (first|exact sA _ _|refine uF ?_|refine tZ ?_ (by first|(simp;done)|(simp;omega)) _|refine uA ?_ (hb.mono (by simp))|refine uA ?_ (hb2.mono (by simp)))⟩
theorem pK(a b:Int)(w:World):Calls Tryz.prog 131 #[.agg #[.int .i64 a,.int .i64 b]] w fun e w'=>e=.returned (.bool (cJ a b))∧Below w.heap.size w w':=by
 by_cases h1:1≤a
 case neg =>
  have d1:decide (1≤a)=false:=sI h1;have HV:Hid (cJ a b=false):=by show cJ a b=false;simp[cJ,oU,h1]
  go_enter Tryz.func131,Tryz.ntmps131;go_wp2_with fail
  go_ret;exact⟨aL HV.o.symm,by repeat (first|exact sA _ _|refine uF ?_|refine tZ ?_ (by first|(simp;done)|(simp;omega)) _|refine uA ?_ (hb.mono (by simp))|refine uA ?_ (hb2.mono (by simp)))⟩
 have d1:decide (1≤a)=true:=sH h1;by_cases h2:a≤1000000
 case neg =>
  have d2:decide (a≤1000000)=false:=sI h2;have HV:Hid (cJ a b=false):=by show cJ a b=false;simp[cJ,oU,h2]
  go_enter Tryz.func131,Tryz.ntmps131;go_wp2_with fail
  go_ret;exact⟨aL HV.o.symm,by repeat (first|exact sA _ _|refine uF ?_|refine tZ ?_ (by first|(simp;done)|(simp;omega)) _|refine uA ?_ (hb.mono (by simp))|refine uA ?_ (hb2.mono (by simp)))⟩
 have d2:decide (a≤1000000)=true:=sH h2;by_cases h3:1≤b
 case neg =>
  have d3:decide (1≤b)=false:=sI h3;have HV:Hid (cJ a b=false):=by show cJ a b=false;simp[cJ,iZ,h3]
  go_enter Tryz.func131,Tryz.ntmps131;go_wp2_with fail
  go_ret;exact⟨aL HV.o.symm,by repeat (first|exact sA _ _|refine uF ?_|refine tZ ?_ (by first|(simp;done)|(simp;omega)) _|refine uA ?_ (hb.mono (by simp))|refine uA ?_ (hb2.mono (by simp)))⟩
 have d3:decide (1≤b)=true:=sH h3;have HV:Hid (cJ a b=decide (b≤99)):=by show cJ a b=_;simp[cJ,oU,iZ,h1,h2,h3]
 go_enter Tryz.func131,Tryz.ntmps131;go_wp2_with fail
 go_ret;exact⟨aL HV.o.symm,by repeat (first|exact sA _ _|refine uF ?_|refine tZ ?_ (by first|(simp;done)|(simp;omega)) _|refine uA ?_ (hb.mono (by simp))|refine uA ?_ (hb2.mono (by simp)))⟩
theorem eY(a b:Int)(w:World):Calls Tryz.prog 106 #[.agg #[.int .i64 a,.int .i64 b]] w fun e w'=>e=.returned (.bool (idB a b))∧Below w.heap.size w w':=by
 have R1:=cB a b;have R2:=pK a b;have HV:Hid (idB a b=(bD a b||cJ a b)):=rfl;generalize bD a b=x at *;generalize cJ a b=y at *;have hlt:w.heap.size<(w.alloc (.cells #[.int .i64 a,.int .i64 b] 48)).heap.size:=by simp
 cases x with
 |true =>
  go_enter Tryz.func106,Tryz.ntmps106;go_wp2_with fail
  go_at_call 34;refine(R1 _).mono ?_
  rintro e w1 ⟨rfl,hb⟩;go_wp2_with fail
  go_ret;exact⟨aL (by rw[HV.o];rfl),by repeat (first|exact sA _ _|refine uF ?_|refine tZ ?_ (by first|(simp;done)|(simp;omega)) _|refine uA ?_ (hb.mono (by simp))|refine uA ?_ (hb2.mono (by simp)))⟩
 |false =>
  go_enter Tryz.func106,Tryz.ntmps106;go_wp2_with fail
  go_at_call 34;refine(R1 _).mono ?_
  rintro e w1 ⟨rfl,hb⟩;have hbk:=(Blk.new w 48 #[.int .i64 a,.int .i64 b]).keep (hb.block _ hlt);obtain⟨c0,c1⟩:=ce2 hbk
  have hb':Below w.heap.size w w1:=((sA _ w).alloc (sB _) _).trans (hb.mono (by simp));clear hbk hb;go_wp2_with fail
  go_at_call 131;refine(R2 _).mono ?_
  rintro e w2 ⟨rfl,hb2⟩;go_wp2_with fail
  go_ret;exact⟨aL (by rw[HV.o];rfl),hb'.trans (hb2.mono hb'.size)⟩
theorem refValue_0(n a b:Int)(t:ByteArray)(w:World):
 Calls Tryz.prog 68 #[.agg #[.int .i64 0,.int .i64 n,.string t,.int .i64 a,.int .i64 b]] w fun e w'=>e=.returned (.bool (aE 0 n t a b))∧Below w.heap.size w w':=by
 have R1:=cB a b;have RI:=eY a b;have hlt:w.heap.size<(w.alloc (.cells #[.int .i64 0,.int .i64 n,.string t,.int .i64 a,.int .i64 b] 50)).heap.size:=by simp
 cases ht:t.toList.isEmpty with
 |false =>
  have HV:Hid (aE 0 n t a b=false):=by show aE 0 n t a b=false;simp[aE,bU,ht]
  clear R1 RI;go_enter Tryz.func68,Tryz.ntmps68;go_wp2_with fail
  go_ret;exact⟨aL HV.o.symm,(sA _ w).alloc (sB _) _⟩
 |true =>
  cases hz:bD a b with
  |true =>
   by_cases hn:n=0
   ·subst hn;have HV:Hid (aE 0 0 t a b=true):=by show aE 0 0 t a b=true;simp[aE,bU,ht,hz]
    rw[hz]at R1;clear RI;clear hz;go_enter Tryz.func68,Tryz.ntmps68;go_wp2_with fail
    go_at_call 34;refine(R1 _).mono ?_
    rintro e w1 ⟨rfl,hb⟩;have bk1:=(Blk.new w 50 #[.int .i64 0,.int .i64 0,.string t,.int .i64 a,.int .i64 b]).keep (hb.block _ hlt);have HB1:Hid (Below w.heap.size w w1∧w.heap.size<w1.heap.size):=⟨((sA _ w).alloc (sB _) _).trans (hb.mono (by simp)),sD hlt hb.size⟩;have BK1:=Hi bk1;obtain⟨c0,c1,c2,c3,c4⟩:=ce5 bk1
    clear bk1 hb;go_wp2_with fail
    go_ret;exact⟨aL HV.o.symm,HB1.o.1⟩
   ·have HV:Hid (aE 0 n t a b=false):=by show aE 0 n t a b=false;simp[aE,bU,hn]
    have dn:(n == 0)=false:=by simpa using hn
    rw[hz]at R1;clear RI;clear hz hn;go_enter Tryz.func68,Tryz.ntmps68;go_wp2_with fail
    go_at_call 34;refine(R1 _).mono ?_
    rintro e w1 ⟨rfl,hb⟩;have bk1:=(Blk.new w 50 #[.int .i64 0,.int .i64 n,.string t,.int .i64 a,.int .i64 b]).keep (hb.block _ hlt);have HB1:Hid (Below w.heap.size w w1∧w.heap.size<w1.heap.size):=⟨((sA _ w).alloc (sB _) _).trans (hb.mono (by simp)),sD hlt hb.size⟩;have BK1:=Hi bk1;obtain⟨c0,c1,c2,c3,c4⟩:=ce5 bk1
    clear bk1 hb;go_wp2_with fail
    go_ret;exact⟨aL HV.o.symm,HB1.o.1⟩
  |false =>
   have HV:Hid (aE 0 n t a b=false):=by show aE 0 n t a b=false;simp[aE,bU,ht,hz]
   rw[hz]at R1;clear RI;clear hz;go_enter Tryz.func68,Tryz.ntmps68;go_wp2_with fail
   go_at_call 34;refine(R1 _).mono ?_
   rintro e w1 ⟨rfl,hb⟩;have bk1:=(Blk.new w 50 #[.int .i64 0,.int .i64 n,.string t,.int .i64 a,.int .i64 b]).keep (hb.block _ hlt);have HB1:Hid (Below w.heap.size w w1∧w.heap.size<w1.heap.size):=⟨((sA _ w).alloc (sB _) _).trans (hb.mono (by simp)),sD hlt hb.size⟩;have BK1:=Hi bk1;obtain⟨c0,c1,c2,c3,c4⟩:=ce5 bk1
   clear bk1 hb;go_wp2_with fail
   go_ret;exact⟨aL HV.o.symm,HB1.o.1⟩
theorem refValue_1(n a b:Int)(t:ByteArray)(w:World):
 Calls Tryz.prog 68 #[.agg #[.int .i64 1,.int .i64 n,.string t,.int .i64 a,.int .i64 b]] w fun e w'=>e=.returned (.bool (aE 1 n t a b))∧Below w.heap.size w w':=by
 have R1:=cB a b;have RI:=eY a b;have hlt:w.heap.size<(w.alloc (.cells #[.int .i64 1,.int .i64 n,.string t,.int .i64 a,.int .i64 b] 50)).heap.size:=by simp
 cases ht:t.toList.isEmpty with
 |false =>
  have HV:Hid (aE 1 n t a b=false):=by show aE 1 n t a b=false;simp[aE,bU,ht]
  clear R1 RI;go_enter Tryz.func68,Tryz.ntmps68;go_wp2_with fail
  go_ret;exact⟨aL HV.o.symm,(sA _ w).alloc (sB _) _⟩
 |true =>
  cases hz:bD a b with
  |true =>
   by_cases hn:n=0
   ·subst hn;have HV:Hid (aE 1 0 t a b=true):=by show aE 1 0 t a b=true;simp[aE,bU,ht,hz]
    rw[hz]at R1;clear RI;clear hz;go_enter Tryz.func68,Tryz.ntmps68;go_wp2_with fail
    go_at_call 34;refine(R1 _).mono ?_
    rintro e w1 ⟨rfl,hb⟩;have bk1:=(Blk.new w 50 #[.int .i64 1,.int .i64 0,.string t,.int .i64 a,.int .i64 b]).keep (hb.block _ hlt);have HB1:Hid (Below w.heap.size w w1∧w.heap.size<w1.heap.size):=⟨((sA _ w).alloc (sB _) _).trans (hb.mono (by simp)),sD hlt hb.size⟩;have BK1:=Hi bk1;obtain⟨c0,c1,c2,c3,c4⟩:=ce5 bk1
    clear bk1 hb;go_wp2_with fail
    go_ret;exact⟨aL HV.o.symm,HB1.o.1⟩
   by_cases hn1:n=1
   ·subst hn1;have HV:Hid (aE 1 1 t a b=true):=by show aE 1 1 t a b=true;simp[aE,bU,ht,hz]
    rw[hz]at R1;clear RI;clear hz hn;go_enter Tryz.func68,Tryz.ntmps68;go_wp2_with fail
    go_at_call 34;refine(R1 _).mono ?_
    rintro e w1 ⟨rfl,hb⟩;have bk1:=(Blk.new w 50 #[.int .i64 1,.int .i64 1,.string t,.int .i64 a,.int .i64 b]).keep (hb.block _ hlt);have HB1:Hid (Below w.heap.size w w1∧w.heap.size<w1.heap.size):=⟨((sA _ w).alloc (sB _) _).trans (hb.mono (by simp)),sD hlt hb.size⟩;have BK1:=Hi bk1;obtain⟨c0,c1,c2,c3,c4⟩:=ce5 bk1
    clear bk1 hb;go_wp2_with fail
    go_ret;exact⟨aL HV.o.symm,HB1.o.1⟩
   ·have HV:Hid (aE 1 n t a b=false):=by show aE 1 n t a b=false;simp[aE,bU,hn,hn1]
    have dn:(n == 0)=false:=by simpa using hn
    have dn1:(n == 1)=false:=by simpa using hn1
    rw[hz]at R1;clear RI;clear hz hn hn1;go_enter Tryz.func68,Tryz.ntmps68;go_wp2_with fail
    go_at_call 34;refine(R1 _).mono ?_
    rintro e w1 ⟨rfl,hb⟩;have bk1:=(Blk.new w 50 #[.int .i64 1,.int .i64 n,.string t,.int .i64 a,.int .i64 b]).keep (hb.block _ hlt);have HB1:Hid (Below w.heap.size w w1∧w.heap.size<w1.heap.size):=⟨((sA _ w).alloc (sB _) _).trans (hb.mono (by simp)),sD hlt hb.size⟩;have BK1:=Hi bk1;obtain⟨c0,c1,c2,c3,c4⟩:=ce5 bk1
    clear bk1 hb;go_wp2_with fail
    go_ret;exact⟨aL HV.o.symm,HB1.o.1⟩
  |false =>
   have HV:Hid (aE 1 n t a b=false):=by show aE 1 n t a b=false;simp[aE,bU,ht,hz]
   rw[hz]at R1;clear RI;clear hz;go_enter Tryz.func68,Tryz.ntmps68;go_wp2_with fail
   go_at_call 34;refine(R1 _).mono ?_
   rintro e w1 ⟨rfl,hb⟩;have bk1:=(Blk.new w 50 #[.int .i64 1,.int .i64 n,.string t,.int .i64 a,.int .i64 b]).keep (hb.block _ hlt);have HB1:Hid (Below w.heap.size w w1∧w.heap.size<w1.heap.size):=⟨((sA _ w).alloc (sB _) _).trans (hb.mono (by simp)),sD hlt hb.size⟩;have BK1:=Hi bk1;obtain⟨c0,c1,c2,c3,c4⟩:=ce5 bk1
   clear bk1 hb;go_wp2_with fail
   go_ret;exact⟨aL HV.o.symm,HB1.o.1⟩
theorem refValue_2(n a b:Int)(t:ByteArray)(w:World):
 Calls Tryz.prog 68 #[.agg #[.int .i64 2,.int .i64 n,.string t,.int .i64 a,.int .i64 b]] w fun e w'=>e=.returned (.bool (aE 2 n t a b))∧Below w.heap.size w w':=by
 have R1:=cB a b;have RI:=eY a b;have hlt:w.heap.size<(w.alloc (.cells #[.int .i64 2,.int .i64 n,.string t,.int .i64 a,.int .i64 b] 50)).heap.size:=by simp
 cases ht:t.toList.isEmpty with
 |false =>
  have HV:Hid (aE 2 n t a b=false):=by show aE 2 n t a b=false;simp[aE,bU,ht]
  clear R1 RI;go_enter Tryz.func68,Tryz.ntmps68;go_wp2_with fail
  go_ret;exact⟨aL HV.o.symm,(sA _ w).alloc (sB _) _⟩
 |true =>
  cases hz:bD a b with
  |true =>
   have HV:Hid (aE 2 n t a b=true):=by show aE 2 n t a b=true;simp[aE,bU,ht,hz]
   rw[hz]at R1;clear RI;clear hz;go_enter Tryz.func68,Tryz.ntmps68;go_wp2_with fail
   go_at_call 34;refine(R1 _).mono ?_
   rintro e w1 ⟨rfl,hb⟩;have bk1:=(Blk.new w 50 #[.int .i64 2,.int .i64 n,.string t,.int .i64 a,.int .i64 b]).keep (hb.block _ hlt);have HB1:Hid (Below w.heap.size w w1∧w.heap.size<w1.heap.size):=⟨((sA _ w).alloc (sB _) _).trans (hb.mono (by simp)),sD hlt hb.size⟩;have BK1:=Hi bk1;obtain⟨c0,c1,c2,c3,c4⟩:=ce5 bk1
   clear bk1 hb;go_wp2_with fail
   go_ret;exact⟨aL HV.o.symm,HB1.o.1⟩
  |false =>
   have HV:Hid (aE 2 n t a b=false):=by show aE 2 n t a b=false;simp[aE,bU,ht,hz]
   rw[hz]at R1;clear RI;clear hz;go_enter Tryz.func68,Tryz.ntmps68;go_wp2_with fail
   go_at_call 34;refine(R1 _).mono ?_
   rintro e w1 ⟨rfl,hb⟩;have bk1:=(Blk.new w 50 #[.int .i64 2,.int .i64 n,.string t,.int .i64 a,.int .i64 b]).keep (hb.block _ hlt);have HB1:Hid (Below w.heap.size w w1∧w.heap.size<w1.heap.size):=⟨((sA _ w).alloc (sB _) _).trans (hb.mono (by simp)),sD hlt hb.size⟩;have BK1:=Hi bk1;obtain⟨c0,c1,c2,c3,c4⟩:=ce5 bk1
   clear bk1 hb;go_wp2_with fail
   go_ret;exact⟨aL HV.o.symm,HB1.o.1⟩
theorem refValue_4(n a b:Int)(t:ByteArray)(w:World):
 Calls Tryz.prog 68 #[.agg #[.int .i64 4,.int .i64 n,.string t,.int .i64 a,.int .i64 b]] w fun e w'=>e=.returned (.bool (aE 4 n t a b))∧Below w.heap.size w w':=by
 have R1:=cB a b;have RI:=eY a b;have hlt:w.heap.size<(w.alloc (.cells #[.int .i64 4,.int .i64 n,.string t,.int .i64 a,.int .i64 b] 50)).heap.size:=by simp
 cases ht:t.toList.isEmpty with
 |false =>
  have HV:Hid (aE 4 n t a b=false):=by show aE 4 n t a b=false;simp[aE,bU,ht]
  clear R1 RI;go_enter Tryz.func68,Tryz.ntmps68;go_wp2_with fail
  go_ret;exact⟨aL HV.o.symm,(sA _ w).alloc (sB _) _⟩
 |true =>
  cases hz:bD a b with
  |true =>
   have HV:Hid (aE 4 n t a b=true):=by show aE 4 n t a b=true;simp[aE,bU,ht,hz]
   rw[hz]at R1;clear RI;clear hz;go_enter Tryz.func68,Tryz.ntmps68;go_wp2_with fail
   go_at_call 34;refine(R1 _).mono ?_
   rintro e w1 ⟨rfl,hb⟩;have bk1:=(Blk.new w 50 #[.int .i64 4,.int .i64 n,.string t,.int .i64 a,.int .i64 b]).keep (hb.block _ hlt);have HB1:Hid (Below w.heap.size w w1∧w.heap.size<w1.heap.size):=⟨((sA _ w).alloc (sB _) _).trans (hb.mono (by simp)),sD hlt hb.size⟩;have BK1:=Hi bk1;obtain⟨c0,c1,c2,c3,c4⟩:=ce5 bk1
   clear bk1 hb;go_wp2_with fail
   go_ret;exact⟨aL HV.o.symm,HB1.o.1⟩
  |false =>
   have HV:Hid (aE 4 n t a b=false):=by show aE 4 n t a b=false;simp[aE,bU,ht,hz]
   rw[hz]at R1;clear RI;clear hz;go_enter Tryz.func68,Tryz.ntmps68;go_wp2_with fail
   go_at_call 34;refine(R1 _).mono ?_
   rintro e w1 ⟨rfl,hb⟩;have bk1:=(Blk.new w 50 #[.int .i64 4,.int .i64 n,.string t,.int .i64 a,.int .i64 b]).keep (hb.block _ hlt);have HB1:Hid (Below w.heap.size w w1∧w.heap.size<w1.heap.size):=⟨((sA _ w).alloc (sB _) _).trans (hb.mono (by simp)),sD hlt hb.size⟩;have BK1:=Hi bk1;obtain⟨c0,c1,c2,c3,c4⟩:=ce5 bk1
   clear bk1 hb;go_wp2_with fail
   go_ret;exact⟨aL HV.o.symm,HB1.o.1⟩
theorem refValue_3(n a b:Int)(t:ByteArray)(w:World):
 Calls Tryz.prog 68 #[.agg #[.int .i64 3,.int .i64 n,.string t,.int .i64 a,.int .i64 b]] w fun e w'=>e=.returned (.bool (aE 3 n t a b))∧Below w.heap.size w w':=by
 have R1:=cB a b;have RI:=eY a b;have hlt:w.heap.size<(w.alloc (.cells #[.int .i64 3,.int .i64 n,.string t,.int .i64 a,.int .i64 b] 50)).heap.size:=by simp
 cases ht:t.toList.isEmpty with
 |false =>
  by_cases hn:n=0
  ·subst hn;by_cases h60:t.size≤60
   ·have d60:decide ((t.size:Int)≤60)=true:=sH (by omega);cases hz:bD a b with
    |true =>
     have HV:Hid (aE 3 0 t a b=true):=by show aE 3 0 t a b=true;simp[aE,bU,hz,h60]
     rw[hz]at R1;clear RI h60;go_enter Tryz.func68,Tryz.ntmps68;go_wp2_with fail
     go_at_call 34;refine(R1 _).mono ?_
     rintro e w1 ⟨rfl,hb⟩;have bk1:=(Blk.new w 50 #[.int .i64 3,.int .i64 0,.string t,.int .i64 a,.int .i64 b]).keep (hb.block _ hlt);have HB1:Hid (Below w.heap.size w w1∧w.heap.size<w1.heap.size):=⟨((sA _ w).alloc (sB _) _).trans (hb.mono (by simp)),sD hlt hb.size⟩;have BK1:=Hi bk1;obtain⟨c0,c1,c2,c3,c4⟩:=ce5 bk1
     clear bk1 hb;go_wp2_with fail
     go_ret;exact⟨aL HV.o.symm,HB1.o.1⟩
    |false =>
     have HV:Hid (aE 3 0 t a b=false):=by show aE 3 0 t a b=false;simp[aE,bU,hz,h60]
     rw[hz]at R1;clear RI h60;go_enter Tryz.func68,Tryz.ntmps68;go_wp2_with fail
     go_at_call 34;refine(R1 _).mono ?_
     rintro e w1 ⟨rfl,hb⟩;have bk1:=(Blk.new w 50 #[.int .i64 3,.int .i64 0,.string t,.int .i64 a,.int .i64 b]).keep (hb.block _ hlt);have HB1:Hid (Below w.heap.size w w1∧w.heap.size<w1.heap.size):=⟨((sA _ w).alloc (sB _) _).trans (hb.mono (by simp)),sD hlt hb.size⟩;have BK1:=Hi bk1;obtain⟨c0,c1,c2,c3,c4⟩:=ce5 bk1
     clear bk1 hb;go_wp2_with fail
     go_ret;exact⟨aL HV.o.symm,HB1.o.1⟩
   ·have d60:decide ((t.size:Int)≤60)=false:=sI (by omega);cases hz:bD a b with
    |true =>
     have HV:Hid (aE 3 0 t a b=false):=by show aE 3 0 t a b=false;simp[aE,bU,hz,h60]
     rw[hz]at R1;clear RI h60;go_enter Tryz.func68,Tryz.ntmps68;go_wp2_with fail
     go_at_call 34;refine(R1 _).mono ?_
     rintro e w1 ⟨rfl,hb⟩;have bk1:=(Blk.new w 50 #[.int .i64 3,.int .i64 0,.string t,.int .i64 a,.int .i64 b]).keep (hb.block _ hlt);have HB1:Hid (Below w.heap.size w w1∧w.heap.size<w1.heap.size):=⟨((sA _ w).alloc (sB _) _).trans (hb.mono (by simp)),sD hlt hb.size⟩;have BK1:=Hi bk1;obtain⟨c0,c1,c2,c3,c4⟩:=ce5 bk1
     clear bk1 hb;go_wp2_with fail
     go_ret;exact⟨aL HV.o.symm,HB1.o.1⟩
    |false =>
     have HV:Hid (aE 3 0 t a b=false):=by show aE 3 0 t a b=false;simp[aE,bU,hz,h60]
     rw[hz]at R1;clear RI h60;go_enter Tryz.func68,Tryz.ntmps68;go_wp2_with fail
     go_at_call 34;refine(R1 _).mono ?_
     rintro e w1 ⟨rfl,hb⟩;have bk1:=(Blk.new w 50 #[.int .i64 3,.int .i64 0,.string t,.int .i64 a,.int .i64 b]).keep (hb.block _ hlt);have HB1:Hid (Below w.heap.size w w1∧w.heap.size<w1.heap.size):=⟨((sA _ w).alloc (sB _) _).trans (hb.mono (by simp)),sD hlt hb.size⟩;have BK1:=Hi bk1;obtain⟨c0,c1,c2,c3,c4⟩:=ce5 bk1
     clear bk1 hb;go_wp2_with fail
     go_ret;exact⟨aL HV.o.symm,HB1.o.1⟩
  ·have HV:Hid (aE 3 n t a b=false):=by show aE 3 n t a b=false;simp[aE,bU,hn]
   have dn:(n == 0)=false:=by simpa using hn
   clear R1 RI hn;go_enter Tryz.func68,Tryz.ntmps68;go_wp2_with fail
   go_ret;exact⟨aL HV.o.symm,(sA _ w).alloc (sB _) _⟩
 |true =>
  cases hz:bD a b with
  |true =>
   by_cases hn:n=0
   ·subst hn;by_cases h60:t.size≤60
    ·have d60:decide ((t.size:Int)≤60)=true:=sH (by omega);have HV:Hid (aE 3 0 t a b=true):=by show aE 3 0 t a b=true;simp[aE,bU,hz,h60]
     rw[hz]at R1;clear RI;clear hz h60;go_enter Tryz.func68,Tryz.ntmps68;go_wp2_with fail
     go_at_call 34;refine(R1 _).mono ?_
     rintro e w1 ⟨rfl,hb⟩;have bk1:=(Blk.new w 50 #[.int .i64 3,.int .i64 0,.string t,.int .i64 a,.int .i64 b]).keep (hb.block _ hlt);have HB1:Hid (Below w.heap.size w w1∧w.heap.size<w1.heap.size):=⟨((sA _ w).alloc (sB _) _).trans (hb.mono (by simp)),sD hlt hb.size⟩;have BK1:=Hi bk1;obtain⟨c0,c1,c2,c3,c4⟩:=ce5 bk1
     clear bk1 hb;go_wp2_with fail
     go_at_call 34;refine(R1 _).mono ?_
     rintro e w2 ⟨rfl,hb⟩;have bk2:=BK1.out.keep (hb.block _ HB1.o.2);have HB2:Hid (Below w.heap.size w w2):=HB1.o.1.trans (hb.mono HB1.o.1.size);clear c0 c1 c2 c3 c4;obtain⟨c0,c1,c2,c3,c4⟩:=ce5 bk2
     clear bk2 hb;go_wp2_with fail
     go_ret;exact⟨aL HV.o.symm,HB2.o⟩
    ·have d60:decide ((t.size:Int)≤60)=false:=sI (by omega);have HV:Hid (aE 3 0 t a b=false):=by show aE 3 0 t a b=false;simp[aE,bU,hz,h60]
     rw[hz]at R1;clear RI;clear hz h60;go_enter Tryz.func68,Tryz.ntmps68;go_wp2_with fail
     go_at_call 34;refine(R1 _).mono ?_
     rintro e w1 ⟨rfl,hb⟩;have bk1:=(Blk.new w 50 #[.int .i64 3,.int .i64 0,.string t,.int .i64 a,.int .i64 b]).keep (hb.block _ hlt);have HB1:Hid (Below w.heap.size w w1∧w.heap.size<w1.heap.size):=⟨((sA _ w).alloc (sB _) _).trans (hb.mono (by simp)),sD hlt hb.size⟩;have BK1:=Hi bk1;obtain⟨c0,c1,c2,c3,c4⟩:=ce5 bk1
     clear bk1 hb;go_wp2_with fail
     go_at_call 34;refine(R1 _).mono ?_
     rintro e w2 ⟨rfl,hb⟩;have bk2:=BK1.out.keep (hb.block _ HB1.o.2);have HB2:Hid (Below w.heap.size w w2):=HB1.o.1.trans (hb.mono HB1.o.1.size);clear c0 c1 c2 c3 c4;obtain⟨c0,c1,c2,c3,c4⟩:=ce5 bk2
     clear bk2 hb;go_wp2_with fail
     go_ret;exact⟨aL HV.o.symm,HB2.o⟩
   ·have HV:Hid (aE 3 n t a b=false):=by show aE 3 n t a b=false;simp[aE,bU,hn]
    have dn:(n == 0)=false:=by simpa using hn
    rw[hz]at R1;clear RI;clear hz hn;go_enter Tryz.func68,Tryz.ntmps68;go_wp2_with fail
    go_at_call 34;refine(R1 _).mono ?_
    rintro e w1 ⟨rfl,hb⟩;have bk1:=(Blk.new w 50 #[.int .i64 3,.int .i64 n,.string t,.int .i64 a,.int .i64 b]).keep (hb.block _ hlt);have HB1:Hid (Below w.heap.size w w1∧w.heap.size<w1.heap.size):=⟨((sA _ w).alloc (sB _) _).trans (hb.mono (by simp)),sD hlt hb.size⟩;have BK1:=Hi bk1;obtain⟨c0,c1,c2,c3,c4⟩:=ce5 bk1
    clear bk1 hb;go_wp2_with fail
    go_ret;exact⟨aL HV.o.symm,HB1.o.1⟩
  |false =>
   by_cases hn:n=0
   ·subst hn;by_cases h60:t.size≤60
    ·have d60:decide ((t.size:Int)≤60)=true:=sH (by omega);have HV:Hid (aE 3 0 t a b=false):=by show aE 3 0 t a b=false;simp[aE,bU,hz,h60]
     rw[hz]at R1;clear RI;clear hz h60;go_enter Tryz.func68,Tryz.ntmps68;go_wp2_with fail
     go_at_call 34;refine(R1 _).mono ?_
     rintro e w1 ⟨rfl,hb⟩;have bk1:=(Blk.new w 50 #[.int .i64 3,.int .i64 0,.string t,.int .i64 a,.int .i64 b]).keep (hb.block _ hlt);have HB1:Hid (Below w.heap.size w w1∧w.heap.size<w1.heap.size):=⟨((sA _ w).alloc (sB _) _).trans (hb.mono (by simp)),sD hlt hb.size⟩;have BK1:=Hi bk1;obtain⟨c0,c1,c2,c3,c4⟩:=ce5 bk1
     clear bk1 hb;go_wp2_with fail
     go_at_call 34;refine(R1 _).mono ?_
     rintro e w2 ⟨rfl,hb⟩;have bk2:=BK1.out.keep (hb.block _ HB1.o.2);have HB2:Hid (Below w.heap.size w w2):=HB1.o.1.trans (hb.mono HB1.o.1.size);clear c0 c1 c2 c3 c4;obtain⟨c0,c1,c2,c3,c4⟩:=ce5 bk2
     clear bk2 hb;go_wp2_with fail
     go_ret;exact⟨aL HV.o.symm,HB2.o⟩
    ·have d60:decide ((t.size:Int)≤60)=false:=sI (by omega);have HV:Hid (aE 3 0 t a b=false):=by show aE 3 0 t a b=false;simp[aE,bU,hz,h60]
     rw[hz]at R1;clear RI;clear hz h60;go_enter Tryz.func68,Tryz.ntmps68;go_wp2_with fail
     go_at_call 34;refine(R1 _).mono ?_
     rintro e w1 ⟨rfl,hb⟩;have bk1:=(Blk.new w 50 #[.int .i64 3,.int .i64 0,.string t,.int .i64 a,.int .i64 b]).keep (hb.block _ hlt);have HB1:Hid (Below w.heap.size w w1∧w.heap.size<w1.heap.size):=⟨((sA _ w).alloc (sB _) _).trans (hb.mono (by simp)),sD hlt hb.size⟩;have BK1:=Hi bk1;obtain⟨c0,c1,c2,c3,c4⟩:=ce5 bk1
     clear bk1 hb;go_wp2_with fail
     go_at_call 34;refine(R1 _).mono ?_
     rintro e w2 ⟨rfl,hb⟩;have bk2:=BK1.out.keep (hb.block _ HB1.o.2);have HB2:Hid (Below w.heap.size w w2):=HB1.o.1.trans (hb.mono HB1.o.1.size);clear c0 c1 c2 c3 c4;obtain⟨c0,c1,c2,c3,c4⟩:=ce5 bk2
     clear bk2 hb;go_wp2_with fail
     go_ret;exact⟨aL HV.o.symm,HB2.o⟩
   ·have HV:Hid (aE 3 n t a b=false):=by show aE 3 n t a b=false;simp[aE,bU,hn]
    have dn:(n == 0)=false:=by simpa using hn
    rw[hz]at R1;clear RI;clear hz hn;go_enter Tryz.func68,Tryz.ntmps68;go_wp2_with fail
    go_at_call 34;refine(R1 _).mono ?_
    rintro e w1 ⟨rfl,hb⟩;have bk1:=(Blk.new w 50 #[.int .i64 3,.int .i64 n,.string t,.int .i64 a,.int .i64 b]).keep (hb.block _ hlt);have HB1:Hid (Below w.heap.size w w1∧w.heap.size<w1.heap.size):=⟨((sA _ w).alloc (sB _) _).trans (hb.mono (by simp)),sD hlt hb.size⟩;have BK1:=Hi bk1;obtain⟨c0,c1,c2,c3,c4⟩:=ce5 bk1
    clear bk1 hb;go_wp2_with fail
    go_ret;exact⟨aL HV.o.symm,HB1.o.1⟩
theorem refValue_5(n a b:Int)(t:ByteArray)(w:World):
 Calls Tryz.prog 68 #[.agg #[.int .i64 5,.int .i64 n,.string t,.int .i64 a,.int .i64 b]] w fun e w'=>e=.returned (.bool (aE 5 n t a b))∧Below w.heap.size w w':=by
 have R1:=cB a b;have RI:=eY a b;have hlt:w.heap.size<(w.alloc (.cells #[.int .i64 5,.int .i64 n,.string t,.int .i64 a,.int .i64 b] 50)).heap.size:=by simp
 cases ht:t.toList.isEmpty with
 |false =>
  by_cases hn:n=0
  ·subst hn;have HV:Hid (aE 5 0 t a b=false):=by show aE 5 0 t a b=false;simp[aE,bU,ht]
   clear R1 RI;go_enter Tryz.func68,Tryz.ntmps68;go_wp2_with fail
   go_ret;exact⟨aL HV.o.symm,(sA _ w).alloc (sB _) _⟩
  ·have HV:Hid (aE 5 n t a b=false):=by show aE 5 n t a b=false;simp[aE,bU,hn]
   have dn:(n == 0)=false:=by simpa using hn
   clear R1 RI hn;go_enter Tryz.func68,Tryz.ntmps68;go_wp2_with fail
   go_ret;exact⟨aL HV.o.symm,(sA _ w).alloc (sB _) _⟩
 |true =>
  by_cases hn:n=0
  ·subst hn;cases hz:bD a b with
   |true =>
    have HV:Hid (aE 5 0 t a b=idB a b):=by show aE 5 0 t a b=idB a b;simp[aE,bU,ht]
    rw[hz]at R1;generalize idB a b=i at RI HV;clear hz;go_enter Tryz.func68,Tryz.ntmps68;go_wp2_with fail
    go_at_call 34;refine(R1 _).mono ?_
    rintro e w1 ⟨rfl,hb⟩;have bk1:=(Blk.new w 50 #[.int .i64 5,.int .i64 0,.string t,.int .i64 a,.int .i64 b]).keep (hb.block _ hlt);have HB1:Hid (Below w.heap.size w w1∧w.heap.size<w1.heap.size):=⟨((sA _ w).alloc (sB _) _).trans (hb.mono (by simp)),sD hlt hb.size⟩;have BK1:=Hi bk1;obtain⟨c0,c1,c2,c3,c4⟩:=ce5 bk1
    clear bk1 hb;go_wp2_with fail
    go_at_call 106;refine(RI _).mono ?_
    rintro e w2 ⟨rfl,hb⟩;have HB2:Hid (Below w.heap.size w w2):=HB1.o.1.trans (hb.mono HB1.o.1.size);clear hb;go_wp2_with fail
    go_ret;exact⟨aL HV.o.symm,HB2.o⟩
   |false =>
    have HV:Hid (aE 5 0 t a b=idB a b):=by show aE 5 0 t a b=idB a b;simp[aE,bU,ht]
    rw[hz]at R1;generalize idB a b=i at RI HV;clear hz;go_enter Tryz.func68,Tryz.ntmps68;go_wp2_with fail
    go_at_call 34;refine(R1 _).mono ?_
    rintro e w1 ⟨rfl,hb⟩;have bk1:=(Blk.new w 50 #[.int .i64 5,.int .i64 0,.string t,.int .i64 a,.int .i64 b]).keep (hb.block _ hlt);have HB1:Hid (Below w.heap.size w w1∧w.heap.size<w1.heap.size):=⟨((sA _ w).alloc (sB _) _).trans (hb.mono (by simp)),sD hlt hb.size⟩;have BK1:=Hi bk1;obtain⟨c0,c1,c2,c3,c4⟩:=ce5 bk1
    clear bk1 hb;go_wp2_with fail
    go_at_call 106;refine(RI _).mono ?_
    rintro e w2 ⟨rfl,hb⟩;have HB2:Hid (Below w.heap.size w w2):=HB1.o.1.trans (hb.mono HB1.o.1.size);clear hb;go_wp2_with fail
    go_ret;exact⟨aL HV.o.symm,HB2.o⟩
  ·have HV:Hid (aE 5 n t a b=false):=by show aE 5 n t a b=false;simp[aE,bU,hn]
   have dn:(n == 0)=false:=by simpa using hn
   clear hn;cases hz:bD a b with
   |true =>
    rw[hz]at R1;clear RI hz;go_enter Tryz.func68,Tryz.ntmps68;go_wp2_with fail
    go_at_call 34;refine(R1 _).mono ?_
    rintro e w1 ⟨rfl,hb⟩;have bk1:=(Blk.new w 50 #[.int .i64 5,.int .i64 n,.string t,.int .i64 a,.int .i64 b]).keep (hb.block _ hlt);have HB1:Hid (Below w.heap.size w w1∧w.heap.size<w1.heap.size):=⟨((sA _ w).alloc (sB _) _).trans (hb.mono (by simp)),sD hlt hb.size⟩;have BK1:=Hi bk1;obtain⟨c0,c1,c2,c3,c4⟩:=ce5 bk1
    clear bk1 hb;go_wp2_with fail
    go_ret;exact⟨aL HV.o.symm,HB1.o.1⟩
   |false =>
    rw[hz]at R1;clear RI hz;go_enter Tryz.func68,Tryz.ntmps68;go_wp2_with fail
    go_at_call 34;refine(R1 _).mono ?_
    rintro e w1 ⟨rfl,hb⟩;have bk1:=(Blk.new w 50 #[.int .i64 5,.int .i64 n,.string t,.int .i64 a,.int .i64 b]).keep (hb.block _ hlt);have HB1:Hid (Below w.heap.size w w1∧w.heap.size<w1.heap.size):=⟨((sA _ w).alloc (sB _) _).trans (hb.mono (by simp)),sD hlt hb.size⟩;have BK1:=Hi bk1;obtain⟨c0,c1,c2,c3,c4⟩:=ce5 bk1
    clear bk1 hb;go_wp2_with fail
    go_ret;exact⟨aL HV.o.symm,HB1.o.1⟩
theorem refValue_6(n a b:Int)(t:ByteArray)(w:World):
 Calls Tryz.prog 68 #[.agg #[.int .i64 6,.int .i64 n,.string t,.int .i64 a,.int .i64 b]] w fun e w'=>e=.returned (.bool (aE 6 n t a b))∧Below w.heap.size w w':=by
 have R1:=cB a b;have RI:=eY a b;have hlt:w.heap.size<(w.alloc (.cells #[.int .i64 6,.int .i64 n,.string t,.int .i64 a,.int .i64 b] 50)).heap.size:=by simp
 cases ht:t.toList.isEmpty with
 |false =>
  by_cases hn:n=0
  ·subst hn;have HV:Hid (aE 6 0 t a b=false):=by show aE 6 0 t a b=false;simp[aE,bU,ht]
   clear R1 RI;go_enter Tryz.func68,Tryz.ntmps68;go_wp2_with fail
   go_ret;exact⟨aL HV.o.symm,(sA _ w).alloc (sB _) _⟩
  ·have HV:Hid (aE 6 n t a b=false):=by show aE 6 n t a b=false;simp[aE,bU,hn]
   have dn:(n == 0)=false:=by simpa using hn
   clear R1 RI hn;go_enter Tryz.func68,Tryz.ntmps68;go_wp2_with fail
   go_ret;exact⟨aL HV.o.symm,(sA _ w).alloc (sB _) _⟩
 |true =>
  by_cases hn:n=0
  ·subst hn;cases hz:bD a b with
   |true =>
    have HV:Hid (aE 6 0 t a b=idB a b):=by show aE 6 0 t a b=idB a b;simp[aE,bU,ht]
    rw[hz]at R1;generalize idB a b=i at RI HV;clear hz;go_enter Tryz.func68,Tryz.ntmps68;go_wp2_with fail
    go_at_call 34;refine(R1 _).mono ?_
    rintro e w1 ⟨rfl,hb⟩;have bk1:=(Blk.new w 50 #[.int .i64 6,.int .i64 0,.string t,.int .i64 a,.int .i64 b]).keep (hb.block _ hlt);have HB1:Hid (Below w.heap.size w w1∧w.heap.size<w1.heap.size):=⟨((sA _ w).alloc (sB _) _).trans (hb.mono (by simp)),sD hlt hb.size⟩;have BK1:=Hi bk1;obtain⟨c0,c1,c2,c3,c4⟩:=ce5 bk1
    clear bk1 hb;go_wp2_with fail
    go_at_call 106;refine(RI _).mono ?_
    rintro e w2 ⟨rfl,hb⟩;have HB2:Hid (Below w.heap.size w w2):=HB1.o.1.trans (hb.mono HB1.o.1.size);clear hb;go_wp2_with fail
    go_ret;exact⟨aL HV.o.symm,HB2.o⟩
   |false =>
    have HV:Hid (aE 6 0 t a b=idB a b):=by show aE 6 0 t a b=idB a b;simp[aE,bU,ht]
    rw[hz]at R1;generalize idB a b=i at RI HV;clear hz;go_enter Tryz.func68,Tryz.ntmps68;go_wp2_with fail
    go_at_call 34;refine(R1 _).mono ?_
    rintro e w1 ⟨rfl,hb⟩;have bk1:=(Blk.new w 50 #[.int .i64 6,.int .i64 0,.string t,.int .i64 a,.int .i64 b]).keep (hb.block _ hlt);have HB1:Hid (Below w.heap.size w w1∧w.heap.size<w1.heap.size):=⟨((sA _ w).alloc (sB _) _).trans (hb.mono (by simp)),sD hlt hb.size⟩;have BK1:=Hi bk1;obtain⟨c0,c1,c2,c3,c4⟩:=ce5 bk1
    clear bk1 hb;go_wp2_with fail
    go_at_call 106;refine(RI _).mono ?_
    rintro e w2 ⟨rfl,hb⟩;have HB2:Hid (Below w.heap.size w w2):=HB1.o.1.trans (hb.mono HB1.o.1.size);clear hb;go_wp2_with fail
    go_ret;exact⟨aL HV.o.symm,HB2.o⟩
  ·have HV:Hid (aE 6 n t a b=false):=by show aE 6 n t a b=false;simp[aE,bU,hn]
   have dn:(n == 0)=false:=by simpa using hn
   clear hn;cases hz:bD a b with
   |true =>
    rw[hz]at R1;clear RI hz;go_enter Tryz.func68,Tryz.ntmps68;go_wp2_with fail
    go_at_call 34;refine(R1 _).mono ?_
    rintro e w1 ⟨rfl,hb⟩;have bk1:=(Blk.new w 50 #[.int .i64 6,.int .i64 n,.string t,.int .i64 a,.int .i64 b]).keep (hb.block _ hlt);have HB1:Hid (Below w.heap.size w w1∧w.heap.size<w1.heap.size):=⟨((sA _ w).alloc (sB _) _).trans (hb.mono (by simp)),sD hlt hb.size⟩;have BK1:=Hi bk1;obtain⟨c0,c1,c2,c3,c4⟩:=ce5 bk1
    clear bk1 hb;go_wp2_with fail
    go_ret;exact⟨aL HV.o.symm,HB1.o.1⟩
   |false =>
    rw[hz]at R1;clear RI hz;go_enter Tryz.func68,Tryz.ntmps68;go_wp2_with fail
    go_at_call 34;refine(R1 _).mono ?_
    rintro e w1 ⟨rfl,hb⟩;have bk1:=(Blk.new w 50 #[.int .i64 6,.int .i64 n,.string t,.int .i64 a,.int .i64 b]).keep (hb.block _ hlt);have HB1:Hid (Below w.heap.size w w1∧w.heap.size<w1.heap.size):=⟨((sA _ w).alloc (sB _) _).trans (hb.mono (by simp)),sD hlt hb.size⟩;have BK1:=Hi bk1;obtain⟨c0,c1,c2,c3,c4⟩:=ce5 bk1
    clear bk1 hb;go_wp2_with fail
    go_ret;exact⟨aL HV.o.symm,HB1.o.1⟩
theorem refValue_no(k n a b:Int)(t:ByteArray)(hk:k≠0∧k≠1∧k≠2∧k≠3∧k≠4∧k≠5∧k≠6)(w:World):
 Calls Tryz.prog 68 #[.agg #[.int .i64 k,.int .i64 n,.string t,.int .i64 a,.int .i64 b]] w fun e w'=>e=.returned (.bool (aE k n t a b))∧Below w.heap.size w w':=by
 have R1:=cB a b;have hlt:w.heap.size<(w.alloc (.cells #[.int .i64 k,.int .i64 n,.string t,.int .i64 a,.int .i64 b] 50)).heap.size:=by simp
 obtain⟨h0,h1,h2,h3,h4,h5,h6⟩:=hk
 have HV:Hid (aE k n t a b=false):=by show aE k n t a b=false;simp[aE, *]
 have e0:(k == 0)=false:=by simpa using h0
 have e1:(k == 1)=false:=by simpa using h1
 have e2:(k == 2)=false:=by simpa using h2
 have e3:(k == 3)=false:=by simpa using h3
 have e4:(k == 4)=false:=by simpa using h4
 have e5:(k == 5)=false:=by simpa using h5
 have e6:(k == 6)=false:=by simpa using h6
 clear h0 h1 h2 h3 h4 h5 h6;cases ht:t.toList.isEmpty with
 |false =>
  clear R1;go_enter Tryz.func68,Tryz.ntmps68;go_wp2_with fail
  go_ret;exact⟨aL HV.o.symm,(sA _ w).alloc (sB _) _⟩
 |true =>
  cases hz:bD a b with
  |true =>
   rw[hz]at R1;clear hz;go_enter Tryz.func68,Tryz.ntmps68;go_wp2_with fail
   go_at_call 34;refine(R1 _).mono ?_
   rintro e w1 ⟨rfl,hb⟩;have bk1:=(Blk.new w 50 #[.int .i64 k,.int .i64 n,.string t,.int .i64 a,.int .i64 b]).keep (hb.block _ hlt);have HB1:Hid (Below w.heap.size w w1∧w.heap.size<w1.heap.size):=⟨((sA _ w).alloc (sB _) _).trans (hb.mono (by simp)),sD hlt hb.size⟩;have BK1:=Hi bk1;obtain⟨c0,c1,c2,c3,c4⟩:=ce5 bk1
   clear bk1 hb;go_wp2_with fail
   go_ret;exact⟨aL HV.o.symm,HB1.o.1⟩
  |false =>
   rw[hz]at R1;clear hz;go_enter Tryz.func68,Tryz.ntmps68;go_wp2_with fail
   go_at_call 34;refine(R1 _).mono ?_
   rintro e w1 ⟨rfl,hb⟩;have bk1:=(Blk.new w 50 #[.int .i64 k,.int .i64 n,.string t,.int .i64 a,.int .i64 b]).keep (hb.block _ hlt);have HB1:Hid (Below w.heap.size w w1∧w.heap.size<w1.heap.size):=⟨((sA _ w).alloc (sB _) _).trans (hb.mono (by simp)),sD hlt hb.size⟩;have BK1:=Hi bk1;obtain⟨c0,c1,c2,c3,c4⟩:=ce5 bk1
   clear bk1 hb;go_wp2_with fail
   go_ret;exact⟨aL HV.o.symm,HB1.o.1⟩
theorem jT(k n a b:Int)(t:ByteArray)(w:World):
 Calls Tryz.prog 68 #[.agg #[.int .i64 k,.int .i64 n,.string t,.int .i64 a,.int .i64 b]] w fun e w'=>e=.returned (.bool (aE k n t a b))∧Below w.heap.size w w':=by
 by_cases h0:k=0
 ·subst h0;exact refValue_0 n a b t w
 by_cases h1:k=1
 ·subst h1;exact refValue_1 n a b t w
 by_cases h2:k=2
 ·subst h2;exact refValue_2 n a b t w
 by_cases h3:k=3
 ·subst h3;exact refValue_3 n a b t w
 by_cases h4:k=4
 ·subst h4;exact refValue_4 n a b t w
 by_cases h5:k=5
 ·subst h5;exact refValue_5 n a b t w
 by_cases h6:k=6
 ·subst h6;exact refValue_6 n a b t w
 exact refValue_no k n a b t ⟨h0,h1,h2,h3,h4,h5,h6⟩ w
end Go.Proofs.YtjhkcbideddlgaaGreat
