/- A slice of ints among the arguments. -/
import Derived.Test.YtpngmbdchceikaaDoorBase
import Derived.Test.YtpngmbdchceikaaDoorOpenR
import Derived.ChangeSlices
import Derived.Deep.Strs
namespace Go.Proofs.YtpngmbdchceikaaDoor
open Go.ChangeShapes Go.WideShapes Go.ChangeAt Go.RowKit Go.Deep
set_option linter.unusedVariables false

/-- A slice whose cells hold these ints. -/
def IRow (w : World) (v : Value) (zs : List Int) : Prop :=
  ∃ ao cp, v = .slice ao zs.length cp ∧ (zs = [] ∨ ∃ g off, ao = some ⟨g, off, none⟩ ∧ g < w.heap.size ∧ ∀ j x, zs[j]? = some x → w.cell? ⟨g, off + j, none⟩ = some (.int .i64 x))
theorem IRow.kept {w w' : World} {v : Value} {zs : List Int} (h : IRow w v zs) (hb : Below w.heap.size w w') : IRow w' v zs := by
  obtain ⟨ao, cp, rfl, h⟩ := h
  refine ⟨ao, cp, rfl, h.imp id ?_⟩
  rintro ⟨g, off, rfl, hg, hc⟩
  exact ⟨g, off, rfl, Nat.lt_of_lt_of_le hg hb.size, fun j x hx => (hb.cell (by exact hg)).trans (hc j x hx)⟩
theorem IRow.at {w : World} {ao : Option Addr} {n cp : Nat} {zs : List Int} (h : IRow w (.slice ao n cp) zs) {j : Nat} (hj : j < zs.length) : ∃ g off x, ao = some ⟨g, off, none⟩ ∧ zs[j]? = some x ∧ w.cell? ⟨g, off + j, none⟩ = some (.int .i64 x) := by
  obtain ⟨ao', cp', e, h⟩ := h
  obtain ⟨rfl, rfl, rfl⟩ : ao = ao' ∧ n = zs.length ∧ cp = cp' := by simpa using e
  rcases h with rfl | ⟨g, off, rfl, hg, hc⟩
  · simp at hj
  · exact ⟨g, off, zs[j], rfl, List.getElem?_eq_getElem hj, hc j _ (List.getElem?_eq_getElem hj)⟩
section
variable {H : Type} {enc : TypeId × Value → H} {P : Program} {W : World}
theorem irow_open {r : Reach} {b0 : Nat} {t e : TypeId} {v : Value} {d : DataW H} {ps : List MemPlace} {sp : Nat → Bool} (ht : P.underlying t = some (.slice e)) (he : P.underlying e = some (.int .i64)) (hc : P.cellsOf e = 1)
    (hval : Value.okWide P W r b0 t v) (h : DataW.Trod enc P W 0 sp true t v d ps) (hlt : ∀ x ∈ ps, x.block < W.heap.size) :
    ∃ zs, IRow W v zs ∧ zs.length ≤ Rows.uptoBulk d := by
  obtain ⟨a0, len, cap, rfl⟩ := okWide_slice ht hval
  obtain ⟨fuel, hf⟩ := h
  rcases open_ints ht he hc hf with ⟨hcs, hx⟩ | ⟨a, len', cap', zs, hcs, _, hl, hm, hz, hx, hcell, _⟩
  · simp [Value.cells] at hcs
    obtain ⟨rfl, rfl, rfl⟩ := hcs
    exact ⟨[], ⟨none, 0, rfl, .inl rfl⟩, by simp⟩
  · simp [Value.cells] at hcs
    obtain ⟨rfl, rfl, rfl⟩ := hcs
    simp only [Prod.mk.injEq] at hx
    obtain ⟨rfl, rfl⟩ := hx
    have hlm : len ≤ zs.length := by rw [hz]; split <;> omega
    have htl : (zs.take len).length = len := by rw [List.length_take]; omega
    refine ⟨zs.take len, ⟨some a, cap, by rw [htl], ?_⟩, ?_⟩
    rotate_left
    · simp only [Rows.uptoBulk]
      have := bulk_len (lits (H := H) .i64 (zs.take len))
      simp only [lits, List.length_map] at this ⊢
      omega
    by_cases h0 : len = 0
    · left; rw [h0]; rfl
    · right
      obtain ⟨g, off, spot⟩ := a
      have hspot : spot = none := by simpa [Addr.add] using World.cell?_spot (hcell 0 (by omega))
      subst hspot
      refine ⟨g, off, rfl, hlt (MemPlace.cell g off) (MemPlace.mem_row.2 ⟨0, by omega, rfl⟩), fun j x hx => ?_⟩
      have hj : j < len := by have := (List.getElem?_eq_some_iff.1 hx).1; omega
      rw [← add_plain, hcell j (by omega)]
      rw [List.getElem?_take, if_pos hj] at hx
      rw [List.getD_eq_getElem?_getD, hx]; rfl
end
end Go.Proofs.YtpngmbdchceikaaDoor
