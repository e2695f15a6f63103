/- errors.Is at a sentinel: nil, itself, a joined error whose first one it is. After the kit's SentryIs. -/
import Derived.Test.YtcdmkmkjppbkgaaDoorKa
import Derived.Test.YtcdmkmkjppbkgaaDoorChecked
import Derived.LaidEql
import Derived.Stop.Asserts
import Derived.RowKitTokens
set_option linter.unusedSimpArgs false
set_option linter.unusedVariables false
namespace Go.Proofs.YtcdmkmkjppbkgaaDoor
open Go.RowKit Go.Extern.Stop Go.Stop Go.Extern

theorem isTypeOf (v : Value) (w : World) : (Extern.ReflectliteType.typeOf #[.iface 119 v]).run Tryd.prog w = .ok (.iface 123 (.agg #[.pointer (some ⟨5, 119, none⟩)])) w := by kernel_rfl
noncomputable def cmpE : Array Value → Sem Value := Extern.ReflectliteType.method fun t => do Rtype.noPackHeld "Comparable" t; pure (.bool (← typeInfo t).comparable)
theorem isComparable (w : World) : (cmpE #[.agg #[.pointer (some ⟨5, 119, none⟩)]]).run Tryd.prog w = .ok (.bool true) w := by kernel_rfl
theorem comp_call (w : World) : (callFunc 138 #[.agg #[.pointer (some ⟨5, 119, none⟩)]]).run Tryd.prog w = .ok (.value (.bool true)) w := by
  have h := @run_callFunc_extern Tryd.prog 138 _ cmpE Tryd.func138 (by kernel_rfl) (by kernel_rfl) (by kernel_rfl) (by kernel_rfl)
  rw [h, isComparable]; rfl
theorem isComp : (Tryd.prog.info? 119).map (·.comparable) = some true := by kernel_rfl
theorem isSize : (Tryd.prog.info? 121).map (·.size) = some 1 := by kernel_rfl
theorem noIsJ (v : Value) (xT : TypeId) (w : World) : (Instr.typeAssert (.iface 116 v) xT 125 true).run Tryd.prog w = .ok (.tuple #[.nilIface, .bool false]) w := run_typeAssert_lacksB Tryd.underlying125 (by kernel_rfl) (by kernel_rfl) v xT w
theorem noUnwrapJ (v : Value) (xT : TypeId) (w : World) : (Instr.typeAssert (.iface 116 v) xT 128 true).run Tryd.prog w = .ok (.tuple #[.nilIface, .bool false]) w := run_typeAssert_lacksB Tryd.underlying128 (by kernel_rfl) (by kernel_rfl) v xT w
theorem hasUnwrapsJ (v : Value) (xT : TypeId) (w : World) : (Instr.typeAssert (.iface 116 v) xT 130 true).run Tryd.prog w = .ok (.tuple #[.iface 116 v, .bool true]) w := run_typeAssert_hasB Tryd.underlying130 (by kernel_rfl) v xT w

theorem isMethodComparable (v : Value) (w : World) : (Go.method 284 123 v "Comparable").run Tryd.prog w = .ok (138, v) w := by kernel_rfl
theorem isMethodUnwrap (v : Value) (w : World) : (Go.method 284 116 v "Unwrap").run Tryd.prog w = .ok (133, v) w := by kernel_rfl

/-- errors.is(x, x). -/
theorem is1_same (a : Addr) (w : World) :
    Calls Tryd.prog 76 #[.iface 119 (.pointer (some a)), .iface 119 (.pointer (some a)), .bool true] w fun e w' => e = .returned (.bool true) ∧ w' = w := by
  obtain ⟨i, hi, hcmp⟩ := Option.map_eq_some_iff.1 isComp
  obtain ⟨j, hj, hjs⟩ := Option.map_eq_some_iff.1 isSize
  have heq := run_eql_iface_ptr_same (P := Tryd.prog) w a Tryd.underlying61 Tryd.underlying119 hi hcmp hj
  go_enter Tryd.func76, Tryd.ntmps76
  go_wp2
  refine wp_loop_rounds 1 ?_
  rw [rounds_succ]
  go_wp2
  go_ret
  exact ⟨rfl, rfl⟩
/-- errors.is(a joined error whose first is x, x). -/
theorem is1_join (pb g n c : Nat) (a : Addr) (w : World) (hn : 0 < n) (h1 : w.cell? ⟨pb, 0, none⟩ = some (.slice (some ⟨g, 0, none⟩) n c)) (h2 : w.cell? ⟨g, 0, none⟩ = some (.iface 119 (.pointer (some a)))) :
    Calls Tryd.prog 76 #[.iface 116 (.pointer (some ⟨pb, 0, none⟩)), .iface 119 (.pointer (some a)), .bool true] w fun e w' => e = .returned (.bool true) ∧ w' = w := by
  have nI := noIsJ
  have nU := noUnwrapJ
  have hU := hasUnwrapsJ
  have mU := isMethodUnwrap
  have hty := run_eql_iface_types (P := Tryd.prog) 116 119 (.pointer (some ⟨pb, 0, none⟩)) (.pointer (some a)) Tryd.underlying61 (by decide) w
  go_enter Tryd.func76, Tryd.ntmps76
  go_wp2
  refine wp_loop_rounds 1 ?_
  rw [rounds_succ]
  go_wp2_with (first | (go_at_call 76; refine (is1_same _ _).mono ?_; rintro e w' ⟨rfl, rfl⟩) | go_in)
  refine wp_loop_rounds 1 ?_
  rw [rounds_succ]
  go_wp2_with (first | (go_at_call 76; refine (is1_same _ _).mono ?_; rintro e w' ⟨rfl, rfl⟩) | go_in)
  go_ret
  exact ⟨rfl, rfl⟩
/-- errors.Is(nil, x). -/
theorem is_nil (a : Addr) (w : World) :
    Calls Tryd.prog 46 #[.nilIface, .iface 119 (.pointer (some a))] w fun e w' => e = .returned (.bool false) ∧ w' = w := by
  have hn := run_eql_iface_nil_left (P := Tryd.prog) w 119 (.pointer (some a)) Tryd.underlying61
  go_enter Tryd.func46, Tryd.ntmps46
  go_wp2
  go_ret
  exact ⟨rfl, rfl⟩
/-- errors.Is(a joined error whose first is x, x). -/
theorem is_join (pb g n c : Nat) (a : Addr) (w : World) (hn : 0 < n) (h1 : w.cell? ⟨pb, 0, none⟩ = some (.slice (some ⟨g, 0, none⟩) n c)) (h2 : w.cell? ⟨g, 0, none⟩ = some (.iface 119 (.pointer (some a)))) :
    Calls Tryd.prog 46 #[.iface 116 (.pointer (some ⟨pb, 0, none⟩)), .iface 119 (.pointer (some a))] w fun e w' => e = .returned (.bool true) ∧ w' = w := by
  have h8 := @run_callFunc_extern Tryd.prog 75 _ Extern.ReflectliteType.typeOf Tryd.func75 (by kernel_rfl) (by kernel_rfl) (by kernel_rfl) (by kernel_rfl)
  have h32 := comp_call
  have tT := isTypeOf
  have mR := isMethodComparable
  go_enter Tryd.func46, Tryd.ntmps46
  go_wp2_with (first | (go_at_call 76; refine (is1_join _ _ _ _ _ _ hn h1 h2).mono ?_; rintro e w' ⟨rfl, rfl⟩) | go_in)
  go_ret
  exact ⟨rfl, rfl⟩
end Go.Proofs.YtcdmkmkjppbkgaaDoor
