/- errors.Is of the sentinel: itself, a fault (an error of another make). -/
import Derived.Test.YtfbjmhipjfjaeaaGreatDoorM17
import Derived.LaidEql
import Derived.Stop.Asserts
import Derived.RowKitTokens
namespace Go.Proofs.YtfbjmhipjfjaeaaGreatDoor
open Go.RowKit Go.Extern.Stop Go.Stop Go.Extern
set_option linter.unusedVariables false
theorem is_typeOf (v : Value) (w : World) : (callFunc 88 #[.iface 193 v]).run Tryz.prog w = .ok (.value (.iface 158 (.agg #[.pointer (some ⟨3, 193, none⟩)]))) w := by kernel_rfl
theorem is_comparable (w : World) : (callFunc 144 #[.agg #[.pointer (some ⟨3, 193, none⟩)]]).run Tryz.prog w = .ok (.value (.bool true)) w := by kernel_rfl
theorem is_methodC (v : Value) (w : World) : (Go.method 325 158 v "Comparable").run Tryz.prog w = .ok (144, v) w := by kernel_rfl
theorem is_comp : (Tryz.prog.info? 193).map (·.comparable) = some true := by kernel_rfl
theorem is_size : (Tryz.prog.info? 213).map (·.size) = some 1 := by kernel_rfl
theorem fault_noIs (v : Value) (xT : TypeId) (w : World) : (Instr.typeAssert (.iface 122 v) xT 160 true).run Tryz.prog w = .ok (.tuple #[.nilIface, .bool false]) w := run_typeAssert_lacksB Tryz.underlying160 (by kernel_rfl) (by kernel_rfl) v xT w
theorem fault_noUnwrap (v : Value) (xT : TypeId) (w : World) : (Instr.typeAssert (.iface 122 v) xT 163 true).run Tryz.prog w = .ok (.tuple #[.nilIface, .bool false]) w := run_typeAssert_lacksB Tryz.underlying163 (by kernel_rfl) (by kernel_rfl) v xT w
theorem fault_noUnwraps (v : Value) (xT : TypeId) (w : World) : (Instr.typeAssert (.iface 122 v) xT 164 true).run Tryz.prog w = .ok (.tuple #[.nilIface, .bool false]) w := run_typeAssert_lacksB Tryz.underlying164 (by kernel_rfl) (by kernel_rfl) v xT w
set_option maxRecDepth 100000 in
/-- errors.Is(x, x), x of errors.New's make. -/
theorem is_same (a : Addr) (w : World) :
    Calls Tryz.prog 76 #[.iface 193 (.pointer (some a)), .iface 193 (.pointer (some a))] w fun e w' => e = .returned (.bool true) ∧ w' = w := by
  obtain ⟨i, hi, hcmp⟩ := Option.map_eq_some_iff.1 is_comp
  obtain ⟨j, hj, hjs⟩ := Option.map_eq_some_iff.1 is_size
  have tT := is_typeOf
  have cT := is_comparable
  have mR := is_methodC
  have heq := run_eql_iface_ptr_same (P := Tryz.prog) w a Tryz.underlying73 Tryz.underlying193 hi hcmp hj
  go_enter Tryz.func76, Tryz.ntmps76
  go_wp2
  refine wp_loop_rounds 1 ?_
  rw [rounds_succ]
  go_wp2
  go_ret
  exact ⟨rfl, rfl⟩
set_option maxRecDepth 100000 in
/-- errors.Is(e, x), e a fault. -/
theorem is_fault (v : Value) (b : Addr) (w : World) :
    Calls Tryz.prog 76 #[.iface 122 v, .iface 193 (.pointer (some b))] w fun e w' => e = .returned (.bool false) ∧ w' = w := by
  have tT := is_typeOf
  have cT := is_comparable
  have mR := is_methodC
  have nE := fault_noIs
  have uE := fault_noUnwrap
  have vE := fault_noUnwraps
  have hty := run_eql_iface_types (P := Tryz.prog) 122 193 v (.pointer (some b)) Tryz.underlying73 (by decide) w
  go_enter Tryz.func76, Tryz.ntmps76
  go_wp2
  refine wp_loop_rounds 1 ?_
  rw [rounds_succ]
  go_wp2
  go_ret
  exact ⟨rfl, rfl⟩
end Go.Proofs.YtfbjmhipjfjaeaaGreatDoor
