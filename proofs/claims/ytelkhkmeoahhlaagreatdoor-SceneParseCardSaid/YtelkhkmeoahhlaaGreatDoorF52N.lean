/- errors.Is over the errors of package scene, by its contracts. No conditions. -/
import Derived.Test.YtelkhkmeoahhlaaGreatDoorQD
import Derived.Test.YtelkhkmeoahhlaaGreatDoorProg
import Derived.WalkKit
import Derived.LaidEql
import Derived.Stop.Asserts
import Derived.RowKitTokens
set_option maxRecDepth 100000
open Go Go.Rx Go.Proofs Go.RowKit Go.Extern.Stop Go.Stop Go.Extern
namespace GoForm
theorem jiu (v:Value)(w:World):(Extern.ReflectliteType.typeOf #[.iface 102 v]).run Tryz.prog w=.ok (.iface 185 (.agg #[.pointer (some ⟨3,102,none⟩)])) w:=by kernel_rfl
theorem jbr (w:World):((Extern.ReflectliteType.method fun t=>do Extern.Rtype.noPackHeld "Comparable" t;(fun a=>Value.bool a.comparable) <$> typeInfo t) #[.agg #[.pointer (some ⟨3,102,none⟩)]]).run Tryz.prog w=.ok (.bool true) w:=by kernel_rfl
theorem jkC (v:Value)(xT:TypeId)(w:World):(Instr.typeAssert (.iface 104 v) xT 187 true).run Tryz.prog w=.ok (.tuple #[.nilIface,.bool false]) w:=run_typeAssert_lacksB Tryz.underlying187 (by kernel_rfl) (by kernel_rfl) v xT w
theorem jbu (v:Value)(xT:TypeId)(w:World):(Instr.typeAssert (.iface 104 v) xT 190 true).run Tryz.prog w=.ok (.tuple #[.iface 104 v,.bool true]) w:=run_typeAssert_hasB Tryz.underlying190 (by kernel_rfl) v xT w
theorem eqErr (w:World):(binOp .eql 97 (.iface 102 (.agg #[])) (.iface 102 (.agg #[]))).run Tryz.prog w=.ok (.bool true) w:=by kernel_rfl
theorem jgy (b:Value)(w:World):Calls Tryz.prog 39 #[.nilIface,.iface 102 b] w fun e w'=>e=.returned (.bool false)/\w'=w:=by
 have hn:=run_eql_iface_nil_left (P:=Tryz.prog) (w:=w) 102 b Tryz.underlying97
 go_enter Tryz.func39,Tryz.ntmps39
 go_wp2
 go_ret
 exact⟨rfl,rfl⟩
theorem jkH (v:Value)(w:World):(Go.method 396 104 v "Unwrap").run Tryz.prog w=.ok (249,v) w:=by kernel_rfl
theorem jcn (v:Value)(w:World):(Go.method 396 185 v "Comparable").run Tryz.prog w=.ok (253,v) w:=by kernel_rfl
theorem jgx (l:Int)(w:World):Calls Tryz.prog 39 #[.iface 104 (.agg #[.int .i64 l,.iface 102 (.agg #[])]),.iface 102 (.agg #[])] w fun e w'=>e=.returned (.bool true)/\Below w.heap.size w w':=by
 have h79:=@run_callFunc_extern Tryz.prog 79 _ Extern.ReflectliteType.typeOf Tryz.func79 (by kernel_rfl) (by kernel_rfl) (by kernel_rfl) (by kernel_rfl)
 have h253:=@run_callFunc_extern Tryz.prog 253 _ (Extern.ReflectliteType.method fun t=>do Extern.Rtype.noPackHeld "Comparable" t;pure (.bool (<-typeInfo t).comparable)) Tryz.func253 (by kernel_rfl) (by kernel_rfl) (by kernel_rfl) (by kernel_rfl)
 have tT:=jiu
 have cT:=jbr
 have mR:=jcn
 have n1:=jkC
 have n2:=jbu
 have mU:=jkH
 have heq:=eqErr
 have hty:=run_eql_iface_types (P:=Tryz.prog) 104 102 (.agg #[.int .i64 l,.iface 102 (.agg #[])]) (.agg #[]) Tryz.underlying97 (by decide) w
 go_enter Tryz.func39,Tryz.ntmps39
 go_wp2
 refine wp_loop_rounds 2 ?_
 rw[rounds_succ]
 go_wp2
 rw[rounds_succ]
 go_wp2
 go_ret
 exact⟨rfl,(Below.refl _ _).alloc (Nat.le_refl _) _⟩
end GoForm
