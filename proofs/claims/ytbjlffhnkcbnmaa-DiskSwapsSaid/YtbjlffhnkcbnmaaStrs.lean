/- A slice of texts among the arguments: its value, its cells, its bulk. -/
import Derived.Test.YtbjlffhnkcbnmaaBase
import Derived.Deep.Strs
namespace Go.Proofs.Ytbjlffhnkcbnmaa
open Go.ChangeShapes Go.WideShapes Go.ChangeAt Go.RowKit Go.Deep
set_option linter.unusedVariables false

/-- A slice whose cells hold these texts. -/
def SRow (w : World) (v : Value) (bs : List ByteArray) : Prop :=
  ∃ ao cp, v = .slice ao bs.length cp ∧ (bs = [] ∨ ∃ g off, ao = some ⟨g, off, none⟩ ∧ g < w.heap.size ∧ ∀ j x, bs[j]? = some x → w.cell? ⟨g, off + j, none⟩ = some (.string x))
theorem SRow.kept {w w' : World} {v : Value} {bs : List ByteArray} (h : SRow w v bs) (hb : Below w.heap.size w w') : SRow w' v bs := by
  obtain ⟨ao, cp, rfl, h⟩ := h
  refine ⟨ao, cp, rfl, h.imp id ?_⟩
  rintro ⟨g, off, rfl, hg, hc⟩
  exact ⟨g, off, rfl, Nat.lt_of_lt_of_le hg hb.size, fun j x hx => (hb.cell (by exact hg)).trans (hc j x hx)⟩
/-- Letters and places of texts. -/
def bulkS (bs : List ByteArray) : Nat := (bs.map fun b => b.size + 1).sum
theorem bulkS_append (a b : List ByteArray) : bulkS (a ++ b) = bulkS a + bulkS b := by simp [bulkS]
theorem bulkS_mem {bs : List ByteArray} {b : ByteArray} (h : b ∈ bs) : b.size + 1 ≤ bulkS bs := by
  obtain ⟨s, t, rfl⟩ := List.append_of_mem h
  rw [bulkS_append]
  simp [bulkS]; omega
theorem bulkS_length (bs : List ByteArray) : bs.length ≤ bulkS bs := by
  induction bs with
  | nil => exact Nat.le_refl _
  | cons b l ih => simp [bulkS] at ih ⊢; omega

theorem uptoStrs {H : Type} (Sx : Nat → ByteArray) (l : List Nat) : Rows.uptoBulkAll (l.map fun i => (DataW.lit (H := H) (.string (Sx i).data.toList))) = bulkS (l.map Sx) := by
  induction l with
  | nil => simp [bulkS, Rows.uptoBulkAll]
  | cons i l ih =>
    rw [List.map_cons, List.map_cons]
    simp only [Rows.uptoBulkAll, Rows.uptoBulk]
    rw [ih]
    simp [bulkS]

section
variable {H : Type} {enc : TypeId × Value → H} {P : Program} {W : World}
theorem srow_open {r : Reach} {b0 : Nat} {t e : TypeId} {v : Value} {d : DataW H} {ps : List MemPlace} {sp : Nat → Bool} (ht : P.underlying t = some (.slice e)) (he : P.underlying e = some .string) (hc : P.cellsOf e = 1)
    (hval : Value.okWide P W r b0 t v) (h : DataW.Trod enc P W 0 sp true t v d ps) (hlt : ∀ x ∈ ps, x.block < W.heap.size) :
    ∃ bs, SRow W v bs ∧ (∀ b ∈ bs, b.size ≤ maxLen) ∧ bs.length ≤ maxLen ∧ bulkS bs + 1 ≤ Rows.uptoBulk d := by
  obtain ⟨a0, len, cap, rfl⟩ := okWide_slice ht hval
  obtain ⟨fuel, hf⟩ := h
  rcases open_strs ht he hc hf with ⟨hcs, hx⟩ | ⟨a, len', cap', m, Sx, hcs, _, hl, hm, hmm, hx, hcell⟩
  · simp [Value.cells] at hcs
    obtain ⟨rfl, rfl, rfl⟩ := hcs
    simp only [Prod.mk.injEq] at hx
    obtain ⟨rfl, rfl⟩ := hx
    exact ⟨[], ⟨none, 0, rfl, .inl rfl⟩, by simp, by simp, by simp [bulkS, Rows.uptoBulk]⟩
  · simp [Value.cells] at hcs
    obtain ⟨rfl, rfl, rfl⟩ := hcs
    simp only [Prod.mk.injEq] at hx
    obtain ⟨rfl, rfl⟩ := hx
    have hlm : len ≤ m := by rw [hmm]; split <;> omega
    refine ⟨(List.range len).map Sx, ⟨some a, cap, by simp, ?_⟩, fun b hb => ?_, by simp; omega, ?_⟩
    · by_cases h0 : len = 0
      · left; rw [h0]; rfl
      · right
        obtain ⟨g, off, spot⟩ := a
        have hspot : spot = none := by simpa [Addr.add] using World.cell?_spot (hcell 0 (by omega)).1
        subst hspot
        refine ⟨g, off, rfl, hlt (MemPlace.cell g off) (MemPlace.mem_row.2 ⟨0, by omega, rfl⟩), fun j x hx => ?_⟩
        have hj : j < len := by simpa using (List.getElem?_eq_some_iff.1 hx).1
        rw [← add_plain, (hcell j (by omega)).1]
        simp [hj] at hx
        rw [hx]
    · obtain ⟨i, hi, rfl⟩ := List.mem_map.1 hb
      have := List.mem_range.1 hi
      exact (hcell i (by omega)).2
    · simp only [Rows.uptoBulk]
      rw [uptoStrs]
      omega
end
end Go.Proofs.Ytbjlffhnkcbnmaa
