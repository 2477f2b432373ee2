/- Boxes: a struct of two cells that a call laid for itself, read whole and handed back. -/
import Derived.Test.YtehggdflhjgkeaaBase
import Derived.Laws.Rows
namespace Go.Proofs.Ytehggdflhjgkeaa
open Go.ChangeShapes Go.WideShapes Go.ChangeAt Go.RowKit
set_option linter.unusedVariables false

/-- A box of two cells that the call laid first: what is known of it in every later world. -/
theorem box2 (w : World) (a b : Value) (t : TypeId) : ∃ wb, w.alloc (.cells #[a, b] t) = wb ∧ Below w.heap.size w wb ∧ w.heap.size < wb.heap.size ∧
    (∀ W, Below wb.heap.size wb W → W.cell? ⟨w.heap.size, 0, none⟩ = some a) ∧ (∀ W, Below wb.heap.size wb W → W.cell? ⟨w.heap.size, 1, none⟩ = some b) ∧
    (∀ W, Below wb.heap.size wb W → W.frozen? ⟨w.heap.size, 0, none⟩ = false) ∧ (∀ W, Below wb.heap.size wb W → W.frozen? ⟨w.heap.size, 1, none⟩ = false) := by
  have hlt : w.heap.size < (w.alloc (.cells #[a, b] t)).heap.size := by simp
  exact ⟨_, rfl, (Below.refl _ _).alloc (Nat.le_refl _) _, hlt, fun W h => (h.cell hlt).trans (World.cell?_alloc_mark _ _ _ _ _), fun W h => (h.cell hlt).trans (World.cell?_alloc_mark _ _ _ _ _),
    fun W h => (h.frozen hlt).trans (World.frozen?_alloc_new _ _ _ _), fun W h => (h.frozen hlt).trans (World.frozen?_alloc_new _ _ _ _)⟩

section
variable {P : Program}
theorem run_loadVar_two (w : World) (g : Nat) (ty : TypeId) (x y : Value) (fs : Array Field) (hu : P.underlying ty = some (.struct fs)) (hi : (P.info? ty).map (·.size) = some 2)
    (h0 : w.cell? ⟨g, 0, none⟩ = some x) (h1 : w.cell? ⟨g, 1, none⟩ = some y) : (loadVar ty ⟨g, 0, none⟩).run P w = .ok (.agg #[x, y]) w := by
  have hl : (loadCells ⟨g, 0, none⟩ 2).run P w = .ok #[x, y] w :=
    run_loadCells_list (P := P) w ⟨g, 0, none⟩ [x, y] (fun j v hv => by
      have hadd : (⟨g, 0, none⟩ : Addr).add j = ⟨g, j, none⟩ := by unfold Addr.add; split <;> simp_all
      rw [hadd]
      rcases j with _ | _ | j
      · simp at hv; subst hv; exact h0
      · simp at hv; subst hv; exact h1
      · simp at hv)
  cases hq : P.info? ty with
  | none => simp [hq] at hi
  | some i =>
    have hs : i.size = 2 := by simpa [hq] using hi
    have hagg : (isAgg ty).run P w = .ok true w := by
      unfold isAgg
      rw [Sem.run_bind, run_underlying hu w]
      simp
    simp [loadVar, Sem.run_bind, hagg, sizeOf, typeInfo, hq, hs, hl]

theorem results_cell_tmp_tmp {fn : Func} {p u v : Tmp} {ty : TypeId} (h : fn.results = #[.cell p ty, .tmp u, .tmp v]) (tmps : Array Value) (w : World) (g : Nat) (val : Value)
    (hp : tmps.getD p undef = .pointer (some ⟨g, 0, none⟩)) (hl : (loadVar ty ⟨g, 0, none⟩).run P w = .ok val w) :
    (results fn tmps).run P w = .ok (.tuple #[val, tmps.getD u undef, tmps.getD v undef]) w := by
  have hp' : tmps[p]?.getD undef = .pointer (some ⟨g, 0, none⟩) := by simpa using hp
  simp [results, h, hp', asAddr, hl]
end
end Go.Proofs.Ytehggdflhjgkeaa
