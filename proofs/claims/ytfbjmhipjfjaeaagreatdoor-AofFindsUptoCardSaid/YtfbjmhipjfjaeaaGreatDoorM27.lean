/- What the row's listed variables give a walk: errBroken's cell, the cell of errors.As's own variable. -/
import Derived.Test.YtfbjmhipjfjaeaaGreatDoorM26
import Derived.Test.YtfbjmhipjfjaeaaGreatDoorCards
import Derived.Test.YtfbjmhipjfjaeaaGreatDoorTie
import Derived.LaidMore
import Derived.Deep.DeepHandedRow
import Derived.Deep.DeepWitnessRowRef
import Derived.Stop.Joined
import Derived.Stop.LaidErr
import Derived.Stop.LaidTwo
import Derived.LaidLaws
import Derived.LaidHandle
namespace Go.Proofs.YtfbjmhipjfjaeaaGreatDoor
open Go.ChangeShapes Go.WideShapes Go.RowKit
set_option linter.unusedVariables false
theorem sn_et : Tryz.prog.globalNamed "errors.errorType" = some 2 := by kernel_rfl
theorem sn_rt : (Tryz.prog.cutTypes.find? (·.1 == "internal/reflectlite.rtype")).map (·.2) = some 158 := by kernel_rfl
theorem sn_oneRow : ((List.range 225).filter fun t => Tryz.prog.rowNamed t [101, 114, 114, 111, 114]) = [73] := by kernel_rfl
theorem sn_size : Tryz.prog.types.size = 225 := by kernel_rfl
theorem sn_gB : Tryz.prog.globalNamed "covenant/aof.errBroken" = some 1 := by kernel_rfl
theorem sn_gBType : (Tryz.prog.globals[1]?).map (·.type) = some 73 := by kernel_rfl
theorem sn_cellsE : Tryz.prog.cellsOf 213 = 1 := by kernel_rfl
theorem sn_cellsS : Tryz.prog.cellsOf 9 = 1 := by kernel_rfl
theorem sn_star : "*" ++ "errors.errorString" = "*errors.errorString" := by decide
theorem sn_row (u : TypeId) (h : Tryz.prog.typeName? 3 u = some "*errors.errorString") : u = 193 :=
  typeName_ptr_named (nm := "errors.errorString") (by rw [sn_star]; kernel_rfl) (by kernel_rfl) (by decide) u (by rw [sn_star]; exact h)
theorem sent_of {W : World} (h : laidMetH Tryz.prog [("errors.errorType", Rows.laid_errors_errorType), ("covenant/aof.errBroken", Rows.laid_covenant_aof_errBroken), ("covenant/aof.errLog", Rows.laid_covenant_aof_errLog)] W) : ∃ a, Sent W a ∧ 3 ≤ W.heap.size := by
  have h' : laidMet Tryz.prog [("covenant/aof.errBroken", Rows.laid_covenant_aof_errBroken), ("covenant/aof.errLog", Rows.laid_covenant_aof_errLog)] W ∧ handlesMet Tryz.prog [("errors.errorType", Rows.laid_errors_errorType)] W := h
  obtain ⟨a0, s0, hv0, -, -, -⟩ := laid_sentinel h'.1 sn_gB sn_gBType Tryz.underlying73 sn_row Tryz.underlying193 Tryz.underlying213 rfl rfl Tryz.underlying9 sn_cellsE sn_cellsS
  obtain ⟨name, u, ty, e1, e2, e3, e4, e5⟩ := h'.2 _ (List.mem_singleton.2 rfl)
  have en : name = [101, 114, 114, 111, 114] := (Option.some.inj e1).symm
  subst en
  obtain rfl := Option.some.inj (sn_rt.symm.trans e2)
  have hm : ty ∈ (List.range 225).filter fun t => Tryz.prog.rowNamed t [101, 114, 114, 111, 114] := List.mem_filter.2 ⟨List.mem_range.2 (by rw [← sn_size]; exact e3), e4⟩
  rw [sn_oneRow] at hm
  obtain rfl := List.mem_singleton.1 hm
  have hh : typeHandle Tryz.prog 73 = .pointer (some ⟨3, 73, none⟩) := by kernel_rfl
  rw [hh] at e5
  have c2 : W.cell? ⟨2, 0, none⟩ = some (.iface 158 (.agg #[.pointer (some ⟨3, 73, none⟩)])) := by simpa using World.var?_cell sn_et e5 0
  have c1 : W.cell? ⟨1, 0, none⟩ = some (.iface 193 (.pointer (some a0))) := by simpa using World.var?_cell sn_gB hv0 0
  refine ⟨a0, ⟨c1, c2⟩, ?_⟩
  rcases Nat.lt_or_ge 2 W.heap.size with h | h
  · exact h
  · simp [World.cell?, Array.getElem?_eq_none h] at c2
end Go.Proofs.YtfbjmhipjfjaeaaGreatDoor
