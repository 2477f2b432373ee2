/- Slices of texts and slices of these among the arguments: values, cells, bulk, reach. -/
import Derived.Test.YtjceoigekifgdaaStrs
import Derived.SizedLaws
namespace Go.Proofs.Ytjceoigekifgdaa
open Go.ChangeShapes Go.WideShapes Go.ChangeAt Go.RowKit Go.Deep
set_option linter.unusedVariables false

/-- A slice whose cells hold slices of these texts. -/
def LRow (w : World) (v : Value) (rs : List (List ByteArray)) : Prop :=
  ∃ ao cp, v = .slice ao rs.length cp ∧ (rs = [] ∨ ∃ g off, ao = some ⟨g, off, none⟩ ∧ g < w.heap.size ∧ ∀ (j : Nat) r, rs[j]? = some r → ∃ x, w.cell? ⟨g, off + j, none⟩ = some x ∧ SRow w x r)
theorem LRow.kept {w w' : World} {v : Value} {rs : List (List ByteArray)} (h : LRow w v rs) (hb : Below w.heap.size w w') : LRow w' v rs := by
  obtain ⟨ao, cp, rfl, h⟩ := h
  refine ⟨ao, cp, rfl, h.imp id ?_⟩
  rintro ⟨g, off, rfl, hg, hc⟩
  refine ⟨g, off, rfl, Nat.lt_of_lt_of_le hg hb.size, fun j r hr => ?_⟩
  obtain ⟨x, hx, hs⟩ := hc j r hr
  exact ⟨x, (hb.cell (by exact hg)).trans hx, hs.kept hb⟩
def bulkL (rs : List (List ByteArray)) : Nat := (rs.map fun r => bulkS r + 1).sum
theorem bulkL_mem {rs : List (List ByteArray)} {r : List ByteArray} (h : r ∈ rs) : bulkS r + 1 ≤ bulkL rs := by
  obtain ⟨s, t, rfl⟩ := List.append_of_mem h
  simp [bulkL]; omega
theorem bulkL_length (rs : List (List ByteArray)) : rs.length ≤ bulkL rs := by
  induction rs with
  | nil => exact Nat.le_refl _
  | cons b l ih => simp [bulkL] at ih ⊢; omega

section
variable {H : Type} {enc : TypeId × Value → H} {P : Program} {W : World}
theorem srow_trod {t e : TypeId} {fuel : Nat} {cs : List Value} {d : DataW H} {ps : List MemPlace} {sp : Nat → Bool} (ht : P.underlying t = some (.slice e)) (he : P.underlying e = some .string) (hc : P.cellsOf e = 1)
    (hf : DataW.trod enc P W 0 sp true fuel t cs = some (d, ps)) (hlt : ∀ x ∈ ps, x.block < W.heap.size) :
    ∃ v bs, cs = [v] ∧ SRow W v bs ∧ (∀ b ∈ bs, b.size ≤ maxLen) ∧ bs.length ≤ maxLen ∧ bulkS bs + 1 ≤ Rows.uptoBulk d ∧ ((d.weights P t).all (· ≤ reachBytes) = true → bs.length * P.bytesOf e ≤ reachBytes) := by
  rcases open_strs ht he hc hf with ⟨rfl, hx⟩ | ⟨a, len, cap, m, Sx, rfl, _, hl, hm, hmm, hx, hcell⟩
  · simp only [Prod.mk.injEq] at hx
    obtain ⟨rfl, rfl⟩ := hx
    exact ⟨_, [], rfl, ⟨none, 0, rfl, .inl rfl⟩, by simp, by simp, by simp [bulkS, Rows.uptoBulk], by simp⟩
  · simp only [Prod.mk.injEq] at hx
    obtain ⟨rfl, rfl⟩ := hx
    have hlm : len ≤ m := by rw [hmm]; split <;> omega
    refine ⟨_, (List.range len).map Sx, rfl, ⟨some a, cap, by simp, ?_⟩, fun b hb => ?_, by simp; omega, ?_, fun hw => ?_⟩
    · by_cases h0 : len = 0
      · left; rw [h0]; rfl
      · right
        obtain ⟨g, off, spot⟩ := a
        have hspot : spot = none := by simpa [Addr.add] using World.cell?_spot (hcell 0 (by omega)).1
        subst hspot
        refine ⟨g, off, rfl, hlt (MemPlace.cell g off) (MemPlace.mem_row.2 ⟨0, by omega, rfl⟩), fun j x hx => ?_⟩
        have hj : j < len := by simpa using (List.getElem?_eq_some_iff.1 hx).1
        rw [← add_plain, (hcell j (by omega)).1]
        simp [hj] at hx
        rw [hx]
    · obtain ⟨i, hi, rfl⟩ := List.mem_map.1 hb
      have := List.mem_range.1 hi
      exact (hcell i (by omega)).2
    · simp only [Rows.uptoBulk]
      rw [uptoStrs]
      omega
    · have := List.all_eq_true.1 hw ((len + (m - len)) * P.bytesOf e) (by simp [DataW.weights, ht])
      have h2 : (len + (m - len)) * P.bytesOf e ≤ reachBytes := by simpa using this
      refine Nat.le_trans (Nat.mul_le_mul_right _ ?_) h2
      simp
theorem srow_sized {r : Reach} {b0 : Nat} {t e : TypeId} {v : Value} {d : DataW H} {ps : List MemPlace} {sp : Nat → Bool} (ht : P.underlying t = some (.slice e)) (he : P.underlying e = some .string) (hc : P.cellsOf e = 1)
    (hval : Value.okWide P W r b0 t v) (h : DataW.Trod enc P W 0 sp true t v d ps) (hlt : ∀ x ∈ ps, x.block < W.heap.size) :
    ∃ bs, SRow W v bs ∧ (∀ b ∈ bs, b.size ≤ maxLen) ∧ bs.length ≤ maxLen ∧ bulkS bs + 1 ≤ Rows.uptoBulk d ∧ ((d.weights P t).all (· ≤ reachBytes) = true → bs.length * P.bytesOf e ≤ reachBytes) := by
  obtain ⟨a0, len, cap, rfl⟩ := okWide_slice ht hval
  obtain ⟨fuel, hf⟩ := h
  obtain ⟨v, bs, e, r⟩ := srow_trod ht he hc hf hlt
  have : v = .slice a0 len cap := by simpa [Value.cells] using e.symm
  subst this
  exact ⟨bs, r⟩
theorem weightsAll_mem {e : TypeId} : ∀ {l : List (DataW H)} {d : DataW H}, d ∈ l → ∀ n ∈ d.weights P e, n ∈ DataW.weightsAll P e l
  | x :: l, d, h, n, hn => by
    simp only [DataW.weightsAll, List.mem_append]
    rcases List.mem_cons.1 h with rfl | h
    · exact .inl hn
    · exact .inr (weightsAll_mem h n hn)
theorem uptoAll_ge (f : Nat → DataW H) (g : Nat → Nat) : ∀ l : List Nat, (∀ i ∈ l, g i ≤ Rows.uptoBulk (f i)) → (l.map g).sum ≤ Rows.uptoBulkAll (l.map f)
  | [], _ => by simp
  | i :: l, h => by
    have h1 := h i (by simp)
    have h2 := uptoAll_ge f g l (fun j hj => h j (by simp [hj]))
    simp only [List.map_cons, List.sum_cons, Rows.uptoBulkAll]
    omega
/-- A slice of slices of texts. -/
theorem lrow_sized {r : Reach} {b0 : Nat} {t e e2 : TypeId} {v : Value} {d : DataW H} {ps : List MemPlace} {sp : Nat → Bool} (ht : P.underlying t = some (.slice e)) (he : P.underlying e = some (.slice e2)) (hs : P.underlying e2 = some .string) (hc : P.cellsOf e = 1) (hc2 : P.cellsOf e2 = 1)
    (hval : Value.okWide P W r b0 t v) (h : DataW.Trod enc P W 0 sp true t v d ps) (hlt : ∀ x ∈ ps, x.block < W.heap.size) :
    ∃ rs, LRow W v rs ∧ (∀ q ∈ rs, ∀ b ∈ q, b.size ≤ maxLen) ∧ rs.length ≤ maxLen ∧ bulkL rs + 1 ≤ Rows.uptoBulk d ∧ ((d.weights P t).all (· ≤ reachBytes) = true → rs.length * P.bytesOf e ≤ reachBytes ∧ ∀ q ∈ rs, q.length * P.bytesOf e2 ≤ reachBytes) := by
  obtain ⟨a0, len, cap, rfl⟩ := okWide_slice ht hval
  obtain ⟨fuel, hf⟩ := h
  rcases open_slice1 ht hc hf with ⟨hcs, hx⟩ | ⟨a, len', cap', m, n, V, D, Pl, hcs, _, hl, hm, hmm, hx, hcell⟩
  · simp [Value.cells] at hcs
    obtain ⟨rfl, rfl, rfl⟩ := hcs
    simp only [Prod.mk.injEq] at hx
    obtain ⟨rfl, rfl⟩ := hx
    exact ⟨[], ⟨none, 0, rfl, .inl rfl⟩, by simp, by simp, by simp [bulkL, Rows.uptoBulk], by simp⟩
  · simp [Value.cells] at hcs
    obtain ⟨rfl, rfl, rfl⟩ := hcs
    simp only [Prod.mk.injEq] at hx
    obtain ⟨rfl, rfl⟩ := hx
    have hlm : len ≤ m := by rw [hmm]; split <;> omega
    have each : ∀ i, i < len → ∃ q : List ByteArray, SRow W (V i) q ∧ (∀ b ∈ q, b.size ≤ maxLen) ∧ q.length ≤ maxLen ∧ bulkS q + 1 ≤ Rows.uptoBulk (D i) ∧ (((D i).weights P e).all (· ≤ reachBytes) = true → q.length * P.bytesOf e2 ≤ reachBytes) := fun i hi => by
      obtain ⟨v, q, e1, r⟩ := srow_trod he hs hc2 (hcell i (by omega)).2 (fun x hx => hlt x (List.mem_append.2 (.inr (List.mem_flatMap.2 ⟨i, List.mem_range.2 (by omega), hx⟩))))
      have : v = V i := by simpa using e1.symm
      subst this
      exact ⟨q, r⟩
    obtain ⟨Q, hQ⟩ := choose_lt each
    refine ⟨(List.range len).map Q, ⟨some a, cap, by simp, ?_⟩, fun q hq => ?_, by simp; omega, ?_, fun hw => ⟨?_, fun q hq => ?_⟩⟩
    · by_cases h0 : len = 0
      · left; rw [h0]; rfl
      · right
        obtain ⟨g, off, spot⟩ := a
        have hspot : spot = none := by simpa [Addr.add] using World.cell?_spot (hcell 0 (by omega)).1
        subst hspot
        refine ⟨g, off, rfl, hlt (MemPlace.cell g off) (List.mem_append.2 (.inl (MemPlace.mem_row.2 ⟨0, by omega, rfl⟩))), fun j x hx => ?_⟩
        have hj : j < len := by simpa using (List.getElem?_eq_some_iff.1 hx).1
        simp [hj] at hx
        subst hx
        exact ⟨V j, by rw [← add_plain]; exact (hcell j (by omega)).1, (hQ j hj).1⟩
    · obtain ⟨i, hi, rfl⟩ := List.mem_map.1 hq
      exact (hQ i (List.mem_range.1 hi)).2.1
    · simp only [Rows.uptoBulk]
      have := uptoAll_ge D (fun i => bulkS (Q i) + 1) (List.range len) (fun i hi => (hQ i (List.mem_range.1 hi)).2.2.2.1)
      simp only [bulkL, List.map_map, Function.comp_def]
      omega
    · have := List.all_eq_true.1 hw ((len + (m - len)) * P.bytesOf e) (by simp [DataW.weights, ht])
      have h2 : (len + (m - len)) * P.bytesOf e ≤ reachBytes := by simpa using this
      refine Nat.le_trans (Nat.mul_le_mul_right _ ?_) h2
      simp
    · obtain ⟨i, hi, rfl⟩ := List.mem_map.1 hq
      have hi2 := List.mem_range.1 hi
      refine (hQ i hi2).2.2.2.2 (List.all_eq_true.2 fun n hn => List.all_eq_true.1 hw n ?_)
      simp only [DataW.weights, ht, List.mem_cons, List.mem_append]
      exact .inr (.inl (weightsAll_mem (List.mem_map.2 ⟨i, hi, rfl⟩) n hn))
end
end Go.Proofs.Ytjceoigekifgdaa
