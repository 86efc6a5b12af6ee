/- errors.As at a target '*api.Errno', by the entries of internal/reflectlite (turned from the guide's worked walk of errors.As); Told; is an error the one told? -/
import Derived.Test.YtmpkejflgpodkaaGreatDoorP0
import Derived.WalkKit
import Derived.LaidEql
import Derived.Stop.Asserts
import Derived.RowKitTokens
set_option maxHeartbeats 4000000
set_option maxRecDepth 20000
set_option linter.unusedVariables false
set_option linter.unusedSimpArgs false
namespace Go.Proofs.YtmpkejflgpodkaaGreatDoor
open Go.RowKit Go.Extern.Stop Go.Stop Go.Extern
theorem rl_valueOf27(t:Addr)(w:World):(ReflectliteValue.unpack (.iface 128 (.pointer (some t)))).run Tryz.prog w
 = .ok (.agg #[.pointer (some ⟨4,128,none⟩),.pointer (some ⟨w.heap.size,0,none⟩),.int .u64 150]) (w.alloc (.cells #[.pointer (some t)] 128)):=by kernel_rfl
theorem rl_type27 (a : Addr) (w : World) : (ReflectliteValue.methodAny (ReflectliteValue.valueError "reflectlite.Value.Type" 0) (fun t _ _ _ => ReflectliteType.toType t) #[.agg #[.pointer (some ⟨4, 128, none⟩), .pointer (some a), .int .u64 150]]).run Tryz.prog w
 = .ok (.iface 212 (.agg #[.pointer (some ⟨4,128,none⟩)])) w:=by kernel_rfl
theorem rl_methodKind (h : Value) (w : World) : (Go.method 419 212 (.agg #[h]) "Kind").run Tryz.prog w = .ok (230, h) w := by kernel_rfl
theorem rl_kind27(w:World):((ReflectliteType.abiMethod fun t=>(fun a:Nat=>Value.int IntKind.u8 (a:Int)) <$> Rtype.kind t) #[.pointer (some ⟨4,128,none⟩)]).run Tryz.prog w=.ok (.int .u8 22) w:=by kernel_rfl
theorem rl_kind25(w:World):((ReflectliteType.abiMethod fun t=>(fun a:Nat=>Value.int IntKind.u8 (a:Int)) <$> Rtype.kind t) #[.pointer (some ⟨4,101,none⟩)]).run Tryz.prog w=.ok (.int .u8 2) w:=by kernel_rfl
theorem rlm(z:Sem Value)(f:TypeId→Addr→Nat→Nat→Sem Value)(v:Value):
 ReflectliteValue.method z f #[v]=(do match ←ReflectliteValue.parts v with|none=>z|some (t,a,fl)=>f t a fl (fl % 32)):=rfl
theorem rl_parts27(a:Addr)(w:World):(ReflectliteValue.parts (.agg #[.pointer (some ⟨4,128,none⟩),.pointer (some a),.int .u64 150])).run Tryz.prog w=.ok (some (128,a,150)) w:=by kernel_rfl
theorem rl_isNil27(a p:Addr)(W:World)(ha:W.cell? a=some (.pointer (some p))):
 (ReflectliteValue.method (ReflectliteValue.valueError "reflectlite.Value.IsNil" 0) ReflectliteValue.isNil #[.agg #[.pointer (some ⟨4, 128, none⟩), .pointer (some a), .int .u64 150]]).run Tryz.prog W = .ok (.bool false) W := by
 rw[rlm];simp only[xG,rl_parts27,Result.andThen];simp[ReflectliteValue.isNil,loadVar,isAgg,underlying,Tryz.underlying128,ha,Result.andThen]
theorem rl_methodElem (h : Value) (w : World) : (Go.method 419 212 (.agg #[h]) "Elem").run Tryz.prog w = .ok (243, .agg #[h]) w := by kernel_rfl
theorem nA (h : Value) (w : World) : (Go.method 419 212 (.agg #[h]) "Implements").run Tryz.prog w = .ok (244, .agg #[h]) w := by kernel_rfl
theorem lM (h : Value) (w : World) : (Go.method 419 212 (.agg #[h]) "AssignableTo").run Tryz.prog w = .ok (241, .agg #[h]) w := by kernel_rfl
theorem rl_elem27(w:World):(ReflectliteType.method ReflectliteType.elem #[.agg #[.pointer (some ⟨4,128,none⟩)]]).run Tryz.prog w=.ok (.iface 212 (.agg #[.pointer (some ⟨4,101,none⟩)])) w:=by kernel_rfl
theorem rl_implements25 (w : World) : (ReflectliteType.relation "Implements" ReflectliteType.implements_ #[.agg #[.pointer (some ⟨4, 101, none⟩)], .iface 212 (.agg #[.pointer (some ⟨4, 38, none⟩)])]).run Tryz.prog w = .ok (.bool true) w := by kernel_rfl
theorem rl_typeOf25(v:Value)(w:World):(ReflectliteType.typeOf #[.iface 101 v]).run Tryz.prog w=.ok (.iface 212 (.agg #[.pointer (some ⟨4,101,none⟩)])) w:=by kernel_rfl
theorem rl_assignable25 (w : World) : (ReflectliteType.relation "AssignableTo" ReflectliteType.assignableTo #[.agg #[.pointer (some ⟨4, 101, none⟩)], .iface 212 (.agg #[.pointer (some ⟨4, 101, none⟩)])]).run Tryz.prog w = .ok (.bool true) w := by kernel_rfl
theorem rl_valueOf25(e:Int)(w:World):(ReflectliteValue.unpack (.iface 101 (.int .i64 e))).run Tryz.prog w
 = .ok (.agg #[.pointer (some ⟨4,101,none⟩),.pointer (some ⟨w.heap.size,0,none⟩),.int .u64 130]) (w.alloc (.cells #[.int .i64 e] 101)):=by kernel_rfl
theorem rl_elemOf27(w:World):(Rtype.elem? 128).run Tryz.prog w=.ok (some 101) w:=by kernel_rfl
theorem rl_mk25(p:Addr)(w:World):(ReflectliteValue.mk 101 p ReflectliteValue.flagAddr).run Tryz.prog w=.ok (.agg #[.pointer (some ⟨4,101,none⟩),.pointer (some p),.int .u64 386]) w:=by kernel_rfl
theorem rl_elemV27(a p:Addr)(W:World)(ha:W.cell? a=some (.pointer (some p))):
 (ReflectliteValue.method (ReflectliteValue.valueError "reflectlite.Value.Elem" 0) ReflectliteValue.elem #[.agg #[.pointer (some ⟨4, 128, none⟩), .pointer (some a), .int .u64 150]]).run Tryz.prog W
   = .ok (.agg #[.pointer (some ⟨4,101,none⟩),.pointer (some p),.int .u64 386]) W:=by
 rw[rlm];simp only[xG,rl_parts27,Result.andThen];simp[ReflectliteValue.elem,loadVar,isAgg,underlying,Tryz.underlying128,ha,Result.andThen,rl_elemOf27,rl_mk25]
theorem rl_parts25a(a:Addr)(w:World):(ReflectliteValue.parts (.agg #[.pointer (some ⟨4,101,none⟩),.pointer (some a),.int .u64 386])).run Tryz.prog w=.ok (some (101,a,386)) w:=by kernel_rfl
theorem rl_parts25(a:Addr)(w:World):(ReflectliteValue.parts (.agg #[.pointer (some ⟨4,101,none⟩),.pointer (some a),.int .u64 130])).run Tryz.prog w=.ok (some (101,a,130)) w:=by kernel_rfl
theorem rl_direct25(w:World):(Rtype.directlyAssignable 101 101).run Tryz.prog w=.ok true w:=by kernel_rfl
theorem lit0(v x:Value)(n:Nat)(h:(#[v,x]:Array Value).size=n)(h':0<n):(#[v,x]:Array Value).getLit 0 h h'=v:=rfl
theorem lit1(v x:Value)(n:Nat)(h:(#[v,x]:Array Value).size=n)(h':1<n):(#[v,x]:Array Value).getLit 1 h h'=x:=rfl
theorem rl_set25(ta b:Addr)(e:Int)(old:Value)(W:World)(hb:W.cell? b=some (.int .i64 e))(ht:W.cell? ta=some old)(hf:W.frozen? ta=false):
 (ReflectliteValue.set #[.agg #[.pointer (some ⟨4,101,none⟩),.pointer (some ta),.int .u64 386],.agg #[.pointer (some ⟨4,101,none⟩),.pointer (some b),.int .u64 130]]).run Tryz.prog W
   = .ok (.tuple #[]) (W.setCell ta (.int .i64 e)):=by
 change Sem.run _ (ReflectliteValue.parts _ >>= _) _=_;simp only[lit0,lit1,xG,rl_parts25a,rl_parts25,Result.andThen];simp[ReflectliteValue.flagAddr,loadVar,isAgg,underlying,Tryz.underlying101,hb,Result.andThen,rl_direct25,storeVar,Value.cells,storeCells,Addr.add];rw[run_store Tryz.prog W ta _ _ (by rfl)];simp[ht,hf]
theorem as_hit(e:Int)(t:Addr)(old:Value)(w:World)(hg:w.cell? ⟨0,0,none⟩=some (.iface 212 (.agg #[.pointer (some ⟨4,38,none⟩)])))(ht0:w.cell? t=some old)(hf0:w.frozen? t=false):
 Calls Tryz.prog 61 #[.iface 101 (.int .i64 e),.iface 128 (.pointer (some t))] w fun ev w'=>ev=.returned (.bool true)∧w'=((((w.alloc (.cells #[.pointer (some t)] 128)).alloc (.cells #[.pointer (some ⟨4,128,none⟩),.pointer (some ⟨w.heap.size,0,none⟩),.int .u64 150] 170)).alloc (.cells #[.pointer (some ⟨4,128,none⟩),.pointer (some ⟨w.heap.size,0,none⟩),.int .u64 150] 170)).alloc (.cells #[.int .i64 e] 101)).setCell t (.int .i64 e):=by
 have h6:=@run_callFunc_extern Tryz.prog 94 _ (fun args=>ReflectliteValue.unpack (args.getD 0 (.tuple #[]))) Tryz.func94 (by kernel_rfl) (by kernel_rfl) (by kernel_rfl) (by kernel_rfl)
 have h7 := @run_callFunc_extern Tryz.prog 95 _ (ReflectliteValue.methodAny (ReflectliteValue.valueError "reflectlite.Value.Type" 0) (fun t _ _ _ => ReflectliteType.toType t)) Tryz.func95 (by kernel_rfl) (by kernel_rfl) (by kernel_rfl) (by kernel_rfl)
 have h8 := @run_callFunc_extern Tryz.prog 96 _ (ReflectliteValue.method (ReflectliteValue.valueError "reflectlite.Value.IsNil" 0) ReflectliteValue.isNil) Tryz.func96 (by kernel_rfl) (by kernel_rfl) (by kernel_rfl) (by kernel_rfl)
 have h27:=@run_callFunc_extern Tryz.prog 230 _ (ReflectliteType.abiMethod fun t=>do pure (.int .u8 (←Rtype.kind t))) Tryz.func230 (by kernel_rfl) (by kernel_rfl) (by kernel_rfl) (by kernel_rfl);have h37:=@run_callFunc_extern Tryz.prog 243 _ (ReflectliteType.method ReflectliteType.elem) Tryz.func243 (by kernel_rfl) (by kernel_rfl) (by kernel_rfl) (by kernel_rfl)
 have h38 := @run_callFunc_extern Tryz.prog 244 _ (ReflectliteType.relation "Implements" ReflectliteType.implements_) Tryz.func244 (by kernel_rfl) (by kernel_rfl) (by kernel_rfl) (by kernel_rfl)
 have h10:=@run_callFunc_extern Tryz.prog 135 _ ReflectliteType.typeOf Tryz.func135 (by kernel_rfl) (by kernel_rfl) (by kernel_rfl) (by kernel_rfl)
 have h35 := @run_callFunc_extern Tryz.prog 241 _ (ReflectliteType.relation "AssignableTo" ReflectliteType.assignableTo) Tryz.func241 (by kernel_rfl) (by kernel_rfl) (by kernel_rfl) (by kernel_rfl)
 have h11 := @run_callFunc_extern Tryz.prog 136 _ (ReflectliteValue.method (ReflectliteValue.valueError "reflectlite.Value.Elem" 0) ReflectliteValue.elem) Tryz.func136 (by kernel_rfl) (by kernel_rfl) (by kernel_rfl) (by kernel_rfl)
 have h12:=@run_callFunc_extern Tryz.prog 137 _ ReflectliteValue.set Tryz.func137 (by kernel_rfl) (by kernel_rfl) (by kernel_rfl) (by kernel_rfl);have tO:=rl_typeOf25;have mA:=lM;have a25:=rl_assignable25;have v25:=rl_valueOf25;have f6:=rl_valueOf27;have f7:=rl_type27;have mK:=rl_methodKind;have mE:=rl_methodElem;have mI:=nA;have k27:=rl_kind27;have k25:=rl_kind25;have e27:=rl_elem27;have i25:=rl_implements25;have n8:=rl_isNil27 ⟨w.heap.size,0,none⟩ t ((w.alloc (.cells #[.pointer (some t)] 128)).alloc (.cells #[.pointer (some ⟨4,128,none⟩),.pointer (some ⟨w.heap.size,0,none⟩),.int .u64 150] 170)) (by simp);have hlt:0<w.heap.size:=by
  rcases uS w.heap.size with h0|h
  ·simp[World.cell?,h0]at hg
  ·exact h
 have hg2:((w.alloc (.cells #[.pointer (some t)] 128)).alloc (.cells #[.pointer (some ⟨4,128,none⟩),.pointer (some ⟨w.heap.size,0,none⟩),.int .u64 150] 170)).cell? ⟨0,0,none⟩=some (.iface 212 (.agg #[.pointer (some ⟨4,38,none⟩)])):=by
  rw[tI _ _ ⟨0,0,none⟩ (by simp),tI _ _ ⟨0,0,none⟩ hlt];exact hg
 have htl:t.block<w.heap.size:=by
  rcases vF t.block w.heap.size with h|h
  ·exact h
  ·simp[World.cell?,xR h]at ht0
 have el:=rl_elemV27 ⟨w.heap.size,0,none⟩ t (((w.alloc (.cells #[.pointer (some t)] 128)).alloc (.cells #[.pointer (some ⟨4,128,none⟩),.pointer (some ⟨w.heap.size,0,none⟩),.int .u64 150] 170)).alloc (.cells #[.pointer (some ⟨4,128,none⟩),.pointer (some ⟨w.heap.size,0,none⟩),.int .u64 150] 170)) (by rw[tI _ _ ⟨w.heap.size,0,none⟩ (by simp;omega)];simp);have st:=rl_set25 t ⟨w.heap.size+1+1+1,0,none⟩ e old ((((w.alloc (.cells #[.pointer (some t)] 128)).alloc (.cells #[.pointer (some ⟨4,128,none⟩),.pointer (some ⟨w.heap.size,0,none⟩),.int .u64 150] 170)).alloc (.cells #[.pointer (some ⟨4,128,none⟩),.pointer (some ⟨w.heap.size,0,none⟩),.int .u64 150] 170)).alloc (.cells #[.int .i64 e] 101))
  (by rw[World.cell?_alloc_at _ _ _ _ (by simp)];rfl)
  (by rw[tI _ _ t (by simp;omega),tI _ _ t (by simp;omega),tI _ _ t (by simp;omega),tI _ _ t htl];exact ht0)
  (by rw[xM _ _ t (by simp;omega),xM _ _ t (by simp;omega),xM _ _ t (by simp;omega),xM _ _ t (Nat.ne_of_lt htl)];exact hf0)
 go_enter Tryz.func61,Tryz.ntmps61;go_wp2
 refine wp_loop_rounds 1 ?_;rw[rounds_succ];go_wp2
 go_ret;exact⟨rfl,rfl⟩
def qH(w:World):Prop:=w.cell? ⟨0,0,none⟩=some (.iface 212 (.agg #[.pointer (some ⟨4,38,none⟩)]))
theorem qH.lt{w:World}(h:qH w):0<w.heap.size:=by
 rcases uS w.heap.size with h0|h1
 ·simp[qH,World.cell?,h0]at h
 ·exact h1
theorem qH.keep{w w':World}(h:qH w)(hk:Below w.heap.size w w'):qH w':=by
 unfold qH at h ⊢;rw[sM (w:=w) (hk.block 0 (qH.lt h))];exact h
theorem told_nil(w:World):
 Calls Tryz.prog 35 #[.nilIface] w fun e w'=>e=.returned (.int .i64 0)∧w'=w:=by
 go_enter Tryz.func35,Tryz.ntmps35;go_wp2
 go_ret;exact⟨rfl,rfl⟩
theorem told_hit(k:Int)(w:World)(hE:qH w):
 Calls Tryz.prog 35 #[.iface 101 (.int .i64 k)] w fun e w'=>e=.returned (.int .i64 k)∧Below w.heap.size w w':=by
 go_enter Tryz.func35,Tryz.ntmps35;go_wp2_with fail
 refine(as_hit k ⟨w.heap.size,0,none⟩ (.int .i64 0) _ (hE.keep ((sB _ w).alloc (sC _) _)) (by simp) (by simp)).mono ?_
 rintro e w1 ⟨rfl,rfl⟩;go_wp2
 go_ret;refine⟨rfl,?_⟩
 repeat (first|exact sB _ _|refine Below.setCell ?_ (by first|(simp;done)|(simp;omega)) _|refine tW ?_ (by first|(simp;done)|(simp;omega)) _)
def errV(k:Nat):Value:=if k=0 then .nilIface else .iface 101 (.int .i64 k)
theorem same_error(k:Nat)(x:Int)(w:World)(hE:qH w):
 Calls Tryz.prog 11 #[errV k,.int .i64 x] w fun e w'=>e=.returned (.bool ((k:Int) == x))∧Below w.heap.size w w':=by
 go_enter Tryz.func11,Tryz.ntmps11;by_cases hk:k=0
 ·subst hk;simp only[errV,if_true];go_wp2_with fail
  refine(told_nil w).mono ?_
  rintro e w1 ⟨rfl,rfl⟩;go_wp2
  go_ret;exact⟨rfl,sB _ _⟩
 ·simp only[errV,if_neg hk];go_wp2_with fail
  refine(told_hit k w hE).mono ?_
  rintro e w1 ⟨rfl,hb⟩;go_wp2
  go_ret;exact⟨rfl,hb⟩
end Go.Proofs.YtmpkejflgpodkaaGreatDoor
