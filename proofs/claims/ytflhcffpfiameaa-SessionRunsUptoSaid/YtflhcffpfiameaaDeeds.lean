/- A slice of deeds among the arguments: its values, its bulk. -/
import Derived.Test.YtflhcffpfiameaaLRow
import Derived.ChangeArms
import Derived.ChangeSame
import Derived.ChangeOld
namespace Go.Proofs.Ytflhcffpfiameaa
open Go.ChangeShapes Go.WideShapes Go.ChangeAt Go.RowKit Go.Deep
set_option linter.unusedVariables false

/-- A slice whose cells hold these deeds. -/
def DRow (w : World) (v : Value) (ds : List (Int × List ByteArray)) : Prop :=
  ∃ ao cp, v = .slice ao ds.length cp ∧ (ds = [] ∨ ∃ g off, ao = some ⟨g, off, none⟩ ∧ g < w.heap.size ∧ ∀ (j : Nat) d, ds[j]? = some d → ∃ va vc, w.cell? ⟨g, off + j * 2, none⟩ = some (.int .i64 d.1) ∧ w.cell? ⟨g, off + j * 2 + 1, none⟩ = some (.slice va d.2.length vc) ∧ SRow w (.slice va d.2.length vc) d.2)
theorem DRow.shape {w : World} {v : Value} {ds : List (Int × List ByteArray)} (h : DRow w v ds) : ∃ ao cp, v = .slice ao ds.length cp := by
  obtain ⟨ao, cp, e, _⟩ := h; exact ⟨ao, cp, e⟩
theorem DRow.kept {w w' : World} {v : Value} {ds : List (Int × List ByteArray)} (h : DRow w v ds) (hb : Below w.heap.size w w') : DRow w' v ds := by
  obtain ⟨ao, cp, rfl, h⟩ := h
  refine ⟨ao, cp, rfl, h.imp id ?_⟩
  rintro ⟨g, off, rfl, hg, hc⟩
  refine ⟨g, off, rfl, Nat.lt_of_lt_of_le hg hb.size, fun j d hd => ?_⟩
  obtain ⟨va, vc, h1, h2, h3⟩ := hc j d hd
  exact ⟨va, vc, (hb.cell (by exact hg)).trans h1, (hb.cell (by exact hg)).trans h2, h3.kept hb⟩
theorem DRow.at {w : World} {ao : Option Addr} {n cp : Nat} {ds : List (Int × List ByteArray)} (h : DRow w (.slice ao n cp) ds) {j : Nat} {d : Int × List ByteArray} (hd : ds[j]? = some d) :
    ∃ g off va vc, ao = some ⟨g, off, none⟩ ∧ g < w.heap.size ∧ w.cell? ⟨g, off + j * 2, none⟩ = some (.int .i64 d.1) ∧ w.cell? ⟨g, off + j * 2 + 1, none⟩ = some (.slice va d.2.length vc) ∧ SRow w (.slice va d.2.length vc) d.2 := by
  obtain ⟨a, c, e, h⟩ := h
  cases e
  rcases h with h | ⟨g, off, rfl, hg, hc⟩
  · rw [h] at hd; simp at hd
  · obtain ⟨va, vc, h1, h2, h3⟩ := hc j d hd
    exact ⟨g, off, va, vc, rfl, hg, h1, h2, h3⟩
section
variable {H : Type} {enc : TypeId × Value → H} {W : World} {sp : Nat → Bool}
theorem bulk_pos (d : DataW H) : 1 ≤ Rows.uptoBulk d := by
  cases d with
  | lit x => cases x <;> simp [Rows.uptoBulk]
  | nil => simp [Rows.uptoBulk]
  | ptr d => simp [Rows.uptoBulk]
  | slice a b => simp [Rows.uptoBulk]
  | agg a => simp [Rows.uptoBulk]
  | iface a b => simp [Rows.uptoBulk]
  | map a => simp [Rows.uptoBulk]
  | held a => simp [Rows.uptoBulk]
theorem bulk_len : ∀ l : List (DataW H), l.length ≤ Rows.uptoBulkAll l
  | [] => by simp
  | d :: l => by
    have h1 := bulk_pos d
    have h2 := bulk_len l
    simp only [Rows.uptoBulkAll, List.length_cons]
    omega
theorem bulk_of {l : List (DataW H)} {d : DataW H} (h : d ∈ l) : Rows.uptoBulk d ≤ Rows.uptoBulkAll l := by
  induction l with
  | nil => cases h
  | cons e l ih =>
    simp only [Rows.uptoBulkAll]
    rcases List.mem_cons.1 h with rfl | h
    · omega
    · have := ih h; omega
set_option maxRecDepth 100000 in
theorem open_deeds {r : Reach} {b0 : Nat} {v : Value} {d : DataW H} {ps : List MemPlace}
    (hval : Value.okWide Try.prog W r b0 38 v) (h : DataW.Trod enc Try.prog W 0 sp true 38 v d ps) (hlt : ∀ x ∈ ps, x.block < W.heap.size) :
    ∃ ds, DRow W v ds ∧ (∀ e ∈ ds, (∀ b ∈ e.2, b.size ≤ maxLen) ∧ e.2.length + 1 ≤ Rows.uptoBulk d) ∧ ds.length + 1 ≤ Rows.uptoBulk d := by
  obtain ⟨a0, len, cap, rfl⟩ := okWide_slice Try.underlying38 hval
  obtain ⟨fuel, hf⟩ := h
  rcases DataW.trod_slice Try.underlying38 hf with ⟨hcs, hx⟩ | ⟨a, len', cap', elems, rest, n, _, hcs, hx, _, hl, hm, hel, hat, _, _⟩
  · simp [Value.cells] at hcs
    obtain ⟨rfl, rfl, rfl⟩ := hcs
    simp only [Prod.mk.injEq] at hx
    obtain ⟨rfl, rfl⟩ := hx
    exact ⟨[], ⟨none, 0, rfl, .inl rfl⟩, by simp, by simp [Rows.uptoBulk]⟩
  · simp [Value.cells] at hcs
    obtain ⟨rfl, rfl, rfl⟩ := hcs
    simp only [Prod.mk.injEq] at hx
    obtain ⟨rfl, rfl⟩ := hx
    have hb1 := bulk_len (elems.map (·.1))
    rw [List.length_map] at hb1
    have each : ∀ i, i < len → ∃ q : (Int × List ByteArray) × Value, W.cell? (a.add (i * 2)) = some (.int .i64 q.1.1) ∧ W.cell? ((a.add (i * 2)).add 1) = some q.2 ∧ SRow W q.2 q.1.2 ∧ (∀ b ∈ q.1.2, b.size ≤ maxLen) ∧ q.1.2.length + 1 ≤ Rows.uptoBulkAll (elems.map (·.1)) ∧ a.block < W.heap.size := fun i hi => by
      obtain ⟨y, hy⟩ : ∃ y, elems[i]? = some y := ⟨_, List.getElem?_eq_getElem (by omega)⟩
      have h1 := hat i hi
      rw [hy] at h1
      obtain ⟨cs', h2, h3⟩ := Option.bind_eq_some_iff.1 h1
      rw [show Try.prog.cellsOf 45 = 2 by kernel_rfl] at h2
      obtain ⟨y0, y1, m, e, hl2, f0, f1⟩ := trod_struct2 Try.underlying45 h3
      have hl2' : cs'.length = 2 := hl2.trans (by kernel_rfl)
      match cs', hl2' with
      | [c0, c1], _ =>
      have f0' : DataW.trod enc Try.prog W 0 sp true m 3 [c0] = some y0 := f0
      have f1' : DataW.trod enc Try.prog W 0 sp true m 23 [c1] = some y1 := f1
      obtain ⟨k, e0, rfl, wk⟩ := DataW.trod_int Try.underlying3 f0'
      obtain rfl : c0 = .int .i64 k := by simpa using e0
      have hbl := World.cells?_block h2 (by omega)
      have hab : (a.add (i * 2)).block = a.block := by unfold Addr.add; split <;> rfl
      rw [hab] at hbl
      have hmem : y ∈ elems := List.mem_of_getElem? hy
      obtain ⟨v, bs, e1, s1, s2, s3, s4, _⟩ := srow_trod Try.underlying23 Try.underlying9 (by kernel_rfl) f1' (fun x hx => hlt x (List.mem_append.2 (.inr (List.mem_flatMap.2 ⟨y, List.mem_append.2 (.inl hmem), by rw [e]; exact List.mem_append.2 (.inr hx)⟩))))
      obtain rfl : c1 = v := by simpa using e1
      have hcc := (World.cells?_some h2).2.2
      have g0 := hcc 0 (by omega)
      have g1 := hcc 1 (by omega)
      have hby := bulk_of (List.mem_map.2 ⟨y, hmem, rfl⟩ : y.1 ∈ elems.map (·.1))
      rw [e] at hby
      simp only [Rows.uptoBulk, Rows.uptoBulkAll] at hby
      have hbl2 := bulkS_length bs
      refine ⟨((k, bs), c1), ?_, g1, s1, s2, by simp only; omega, hbl⟩
      simpa [Addr.add] using g0
    obtain ⟨Q, hQ⟩ := choose_lt each
    refine ⟨(List.range len).map fun i => (Q i).1, ⟨some a, cap, by simp, ?_⟩, fun e he => ?_, ?_⟩
    · by_cases h0 : len = 0
      · left; rw [h0]; rfl
      · right
        obtain ⟨g, off, spot⟩ := a
        have hspot : spot = none := by simpa [Addr.add] using World.cell?_spot (hQ 0 (by omega)).1
        subst hspot
        refine ⟨g, off, rfl, (hQ 0 (by omega)).2.2.2.2.2, fun j d hd => ?_⟩
        have hj : j < len := by simpa using (List.getElem?_eq_some_iff.1 hd).1
        simp [hj] at hd
        subst hd
        obtain ⟨q1, q2, q3, -, -, -⟩ := hQ j hj
        obtain ⟨qa, qc, e3, -⟩ := id q3
        rw [e3] at q2 q3
        rw [add_plain] at q1
        rw [add_plain, add_plain] at q2
        refine ⟨qa, qc, ?_, ?_, q3⟩
        · exact q1
        · exact q2
    · obtain ⟨i, hi, rfl⟩ := List.mem_map.1 he
      obtain ⟨-, -, -, q4, q5, -⟩ := hQ i (List.mem_range.1 hi)
      refine ⟨q4, ?_⟩
      simp only [Rows.uptoBulk]
      omega
    · simp only [Rows.uptoBulk, List.length_map, List.length_range]
      omega
end
end Go.Proofs.Ytflhcffpfiameaa
