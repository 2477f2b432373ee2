/- Deeds among the arguments: their values, their bulk. -/
import Derived.Test.YtbjlffhnkcbnmaaRef11
import Derived.Test.YtbjlffhnkcbnmaaOpenD
import Derived.Test.YtbjlffhnkcbnmaaLRow
namespace Go.Proofs.Ytbjlffhnkcbnmaa
open Go.ChangeShapes Go.WideShapes Go.ChangeAt Go.RowKit Go.Deep
set_option linter.unusedVariables false

/-- A deed. -/
structure Dd where
  kind : Int
  A : List UInt8
  B : List UInt8
  n : Int
  faults : List Flt
  k : Int
  bytes : List Int
instance : Inhabited Dd := ⟨⟨0, [], [], 0, [], 0, []⟩⟩
/-- Nothing of it is too great. -/
def Dd.Ok (a : Dd) : Prop := a.A.length ≤ 1048576 ∧ a.B.length ≤ 1048576 ∧ a.faults.length ≤ 1048576 ∧ a.bytes.length ≤ 1048576
def DdV (w : World) (F : Nat → Prop) (v : Value) (a : Dd) : Prop := ∃ fv bv, v = .agg #[.int .i64 a.kind, .string (str a.A), .string (str a.B), .int .i64 a.n, fv, .int .i64 a.k, bv] ∧ QRow w F fv a.faults ∧ IRow w F bv a.bytes
/-- A slice whose cells hold these deeds. -/
def DdRow (w : World) (F : Nat → Prop) (v : Value) (ds : List Dd) : Prop :=
  ∃ ao cp, v = .slice ao ds.length cp ∧ (ds = [] ∨ ∃ g off, ao = some ⟨g, off, none⟩ ∧ F g ∧ g < w.heap.size ∧ ∀ (j : Nat) d, ds[j]? = some d → ∃ fv bv, w.cell? ⟨g, off + j * 7, none⟩ = some (.int .i64 d.kind) ∧ w.cell? ⟨g, off + j * 7 + 1, none⟩ = some (.string (str d.A)) ∧ w.cell? ⟨g, off + j * 7 + 2, none⟩ = some (.string (str d.B)) ∧ w.cell? ⟨g, off + j * 7 + 3, none⟩ = some (.int .i64 d.n) ∧ w.cell? ⟨g, off + j * 7 + 4, none⟩ = some fv ∧ w.cell? ⟨g, off + j * 7 + 5, none⟩ = some (.int .i64 d.k) ∧ w.cell? ⟨g, off + j * 7 + 6, none⟩ = some bv ∧ QRow w F fv d.faults ∧ IRow w F bv d.bytes)
theorem DdRow.shape {w : World} {F : Nat → Prop} {v : Value} {ds : List Dd} (h : DdRow w F v ds) : ∃ ao cp, v = .slice ao ds.length cp := by
  obtain ⟨ao, cp, e, _⟩ := h; exact ⟨ao, cp, e⟩
theorem DdRow.kept {w w' : World} {F G : Nat → Prop} {v : Value} {ds : List Dd} (h : DdRow w F v ds) (hw : Wr G w w') (hFG : ∀ k, F k → ¬ G k) : DdRow w' F v ds := by
  obtain ⟨ao, cp, rfl, h⟩ := h
  refine ⟨ao, cp, rfl, h.imp id ?_⟩
  rintro ⟨g, off, rfl, hF, hg, hc⟩
  refine ⟨g, off, rfl, hF, Nat.lt_of_lt_of_le hg hw.size, fun j d hd => ?_⟩
  obtain ⟨fv, bv, c0, c1, c2, c3, c4, c5, c6, q, i⟩ := hc j d hd
  have hcell : ∀ o, w'.cell? ⟨g, o, none⟩ = w.cell? ⟨g, o, none⟩ := fun o => World.cell?_of_block (hw.block g hg (hFG g hF))
  exact ⟨fv, bv, (hcell _).trans c0, (hcell _).trans c1, (hcell _).trans c2, (hcell _).trans c3, (hcell _).trans c4, (hcell _).trans c5, (hcell _).trans c6, q.kept hw hFG, i.kept hw hFG⟩
theorem DdRow.at_ {w : World} {F : Nat → Prop} {ao : Option Addr} {n cp : Nat} {ds : List Dd} (h : DdRow w F (.slice ao n cp) ds) {j : Nat} {d : Dd} (hd : ds[j]? = some d) :
    ∃ g off fv bv, ao = some ⟨g, off, none⟩ ∧ F g ∧ g < w.heap.size ∧ w.cell? ⟨g, off + j * 7, none⟩ = some (.int .i64 d.kind) ∧ w.cell? ⟨g, off + j * 7 + 1, none⟩ = some (.string (str d.A)) ∧ w.cell? ⟨g, off + j * 7 + 2, none⟩ = some (.string (str d.B)) ∧ w.cell? ⟨g, off + j * 7 + 3, none⟩ = some (.int .i64 d.n) ∧ w.cell? ⟨g, off + j * 7 + 4, none⟩ = some fv ∧ w.cell? ⟨g, off + j * 7 + 5, none⟩ = some (.int .i64 d.k) ∧ w.cell? ⟨g, off + j * 7 + 6, none⟩ = some bv ∧ QRow w F fv d.faults ∧ IRow w F bv d.bytes := by
  obtain ⟨a, c, e, h⟩ := h
  cases e
  rcases h with h | ⟨g, off, rfl, hF, hg, hc⟩
  · rw [h] at hd; simp at hd
  · obtain ⟨fv, bv, r⟩ := hc j d hd
    exact ⟨g, off, fv, bv, rfl, hF, hg, r⟩
section
variable {H : Type} {enc : TypeId × Value → H} {W : World} {sp : Nat → Bool}
set_option maxRecDepth 100000 in
theorem qrow_trod {fuel : Nat} {cs : List Value} {d : DataW H} {ps : List MemPlace} (hf : DataW.trod enc Try.prog W 0 sp true fuel 40 cs = some (d, ps)) (hlt : ∀ x ∈ ps, x.block < W.heap.size) :
    ∃ v l, cs = [v] ∧ QRow W (fun g => g < W.heap.size) v l ∧ l.length + 1 ≤ Rows.uptoBulk d := by
  rcases DataW.trod_slice Try.underlying40 hf with ⟨hcs, hx⟩ | ⟨a, len', cap', elems, rest, n, _, hcs, hx, _, hl, hm, hel, hat, _, _⟩
  · simp only [Prod.mk.injEq] at hx
    obtain ⟨rfl, rfl⟩ := hx
    exact ⟨_, [], hcs, ⟨none, 0, rfl, .inl rfl⟩, by simp [Rows.uptoBulk]⟩
  · simp only [Prod.mk.injEq] at hx
    obtain ⟨rfl, rfl⟩ := hx
    have hb1 := bulk_len (elems.map (·.1))
    rw [List.length_map] at hb1
    have each : ∀ i, i < len' → ∃ q : Flt, W.cell? (a.add (i * 3)) = some (.int .i64 q.1) ∧ W.cell? ((a.add (i * 3)).add 1) = some (.int .i64 q.2.1) ∧ W.cell? ((a.add (i * 3)).add 2) = some (.int .i64 q.2.2) ∧ a.block < W.heap.size := fun i hi => by
      obtain ⟨y, hy⟩ : ∃ y, elems[i]? = some y := ⟨_, List.getElem?_eq_getElem (by omega)⟩
      have h1 := hat i hi
      rw [hy] at h1
      obtain ⟨cs', h2, h3⟩ := Option.bind_eq_some_iff.1 h1
      rw [show Try.prog.cellsOf 58 = 3 by kernel_rfl] at h2
      obtain ⟨xs, m, _, e, hlc, hlen, hat2⟩ := DataW.trod_struct Try.underlying58 h3
      have hl2' : cs'.length = 3 := hlc.trans (by kernel_rfl)
      match cs', hl2' with
      | [c0, c1, c2], _ =>
      match xs, hlen with
      | [y0, y1, y2], _ =>
      have f0 : DataW.trod enc Try.prog W 0 sp true m 3 [c0] = some y0 := hat2 0 _ rfl
      have f1 : DataW.trod enc Try.prog W 0 sp true m 3 [c1] = some y1 := hat2 1 _ rfl
      have f2 : DataW.trod enc Try.prog W 0 sp true m 3 [c2] = some y2 := hat2 2 _ rfl
      obtain ⟨k0, e0, -, -⟩ := DataW.trod_int Try.underlying3 f0
      obtain ⟨k1, e1, -, -⟩ := DataW.trod_int Try.underlying3 f1
      obtain ⟨k2, e2, -, -⟩ := DataW.trod_int Try.underlying3 f2
      simp only [List.cons.injEq, and_true] at e0 e1 e2
      subst e0 e1 e2
      have hbl := World.cells?_block h2 (by omega)
      have hab : (a.add (i * 3)).block = a.block := by unfold Addr.add; split <;> rfl
      rw [hab] at hbl
      have hcc := (World.cells?_some h2).2.2
      refine ⟨(k0, k1, k2), ?_, hcc 1 (by omega), hcc 2 (by omega), hbl⟩
      have g0 := hcc 0 (by omega)
      simpa [Addr.add] using g0
    obtain ⟨Q, hQ⟩ := choose_lt each
    refine ⟨_, (List.range len').map Q, hcs, ⟨some a, cap', by simp, ?_⟩, ?_⟩
    · by_cases h0 : len' = 0
      · left; rw [h0]; rfl
      · right
        obtain ⟨g, off, spot⟩ := a
        have hspot : spot = none := by simpa [Addr.add] using World.cell?_spot (hQ 0 (by omega)).1
        subst hspot
        have hg := (hQ 0 (by omega)).2.2.2
        refine ⟨g, off, rfl, hg, hg, fun j d hd => ?_⟩
        have hj : j < len' := by simpa using (List.getElem?_eq_some_iff.1 hd).1
        simp [hj] at hd
        subst hd
        obtain ⟨q0, q1, q2, -⟩ := hQ j hj
        rw [add_plain] at q0
        rw [add_plain, add_plain] at q1 q2
        exact ⟨q0, q1, q2⟩
    · simp only [Rows.uptoBulk, List.length_map, List.length_range]
      omega
set_option maxRecDepth 100000 in
theorem dd_trod {fuel : Nat} {cs : List Value} {d : DataW H} {ps : List MemPlace} (hf : DataW.trod enc Try.prog W 0 sp true fuel 42 cs = some (d, ps)) (hlt : ∀ x ∈ ps, x.block < W.heap.size) :
    ∃ (a : Dd) (fv bv : Value), cs = [.int .i64 a.kind, .string (str a.A), .string (str a.B), .int .i64 a.n, fv, .int .i64 a.k, bv] ∧ QRow W (fun g => g < W.heap.size) fv a.faults ∧ IRow W (fun g => g < W.heap.size) bv a.bytes ∧ a.A.length + a.B.length + a.faults.length + a.bytes.length ≤ Rows.uptoBulk d := by
  obtain ⟨xs, m, hj, e, hl, hlen, hat⟩ := DataW.trod_struct Try.underlying42 hf
  have hl2' : cs.length = 7 := hl.trans (by kernel_rfl)
  match cs, hl2' with
  | [c0, c1, c2, c3, c4, c5, c6], _ =>
  match xs, hlen with
  | [y0, y1, y2, y3, y4, y5], _ =>
  have f0 : DataW.trod enc Try.prog W 0 sp true m 3 [c0] = some y0 := hat 0 _ rfl
  have f1 : DataW.trod enc Try.prog W 0 sp true m 9 [c1] = some y1 := hat 1 _ rfl
  have f2 : DataW.trod enc Try.prog W 0 sp true m 9 [c2] = some y2 := hat 2 _ rfl
  have f3 : DataW.trod enc Try.prog W 0 sp true m 3 [c3] = some y3 := hat 3 _ rfl
  have f4 : DataW.trod enc Try.prog W 0 sp true m 40 [c4] = some y4 := hat 4 _ rfl
  have f5 : DataW.trod enc Try.prog W 0 sp true m 24 [c5, c6] = some y5 := hat 5 _ rfl
  obtain ⟨k0, e0, r0, -⟩ := DataW.trod_int Try.underlying3 f0
  obtain ⟨A, e1, r1, -⟩ := DataW.trod_string Try.underlying9 f1
  obtain ⟨B, e2, r2, -⟩ := DataW.trod_string Try.underlying9 f2
  obtain ⟨k3, e3, r3, -⟩ := DataW.trod_int Try.underlying3 f3
  obtain ⟨z0, z1, m2, e5, -, g0, g1⟩ := trod_struct2 Try.underlying24 f5
  have g0' : DataW.trod enc Try.prog W 0 sp true m2 3 [c5] = some z0 := g0
  have g1' : DataW.trod enc Try.prog W 0 sp true m2 22 [c6] = some z1 := g1
  obtain ⟨k5, e6, r6, -⟩ := DataW.trod_int Try.underlying3 g0'
  simp only [Prod.mk.injEq] at e
  obtain ⟨rfl, rfl⟩ := e
  obtain ⟨y4a, y4b⟩ := y4
  obtain ⟨z1a, z1b⟩ := z1
  subst e5
  obtain ⟨fv, fl, e4, q4, b4⟩ := qrow_trod f4 (fun x hx => hlt x (by simp; exact .inr (.inr (.inr (.inr (.inl hx))))))
  obtain ⟨bv, bl, e7, q7, b7⟩ := irow_trod Try.underlying22 Try.underlying3 (by kernel_rfl) g1' (fun x hx => hlt x (by simp; exact .inr (.inr (.inr (.inr (.inr (.inr hx)))))))
  simp only [List.cons.injEq, and_true] at e0 e1 e2 e3 e4 e6 e7
  subst e0 e1 e2 e3 e4 e6 e7 r0 r1 r2 r3 r6
  have sA : A = str A.data.toList := by simp [str]
  have sB : B = str B.data.toList := by simp [str]
  refine ⟨⟨k0, A.data.toList, B.data.toList, k3, fl, k5, bl⟩, c4, c6, by rw [← sA, ← sB], q4, q7, ?_⟩
  simp only [Rows.uptoBulk, Rows.uptoBulkAll, List.map_cons, List.map_nil]
  omega
set_option maxRecDepth 100000 in
theorem open_dds {r : Reach} {b0 : Nat} {v : Value} {d : DataW H} {ps : List MemPlace}
    (hval : Value.okWide Try.prog W r b0 27 v) (h : DataW.Trod enc Try.prog W 0 sp true 27 v d ps) (hlt : ∀ x ∈ ps, x.block < W.heap.size) (hb : Rows.uptoBulk d ≤ 1048576) :
    ∃ ds, DdRow W (fun g => g < W.heap.size) v ds ∧ (∀ a ∈ ds, a.Ok) ∧ ds.length ≤ 1048576 := by
  obtain ⟨a0, len, cap, rfl⟩ := okWide_slice Try.underlying27 hval
  obtain ⟨fuel, hf⟩ := h
  rcases DataW.trod_slice Try.underlying27 hf with ⟨hcs, hx⟩ | ⟨a, len', cap', elems, rest, n, _, hcs, hx, _, hl, hm, hel, hat, _, _⟩
  · simp [Value.cells] at hcs
    obtain ⟨rfl, rfl, rfl⟩ := hcs
    exact ⟨[], ⟨none, 0, rfl, .inl rfl⟩, by simp, by simp⟩
  · simp [Value.cells] at hcs
    obtain ⟨rfl, rfl, rfl⟩ := hcs
    simp only [Prod.mk.injEq] at hx
    obtain ⟨rfl, rfl⟩ := hx
    have hb1 := bulk_len (elems.map (·.1))
    rw [List.length_map] at hb1
    simp only [Rows.uptoBulk] at hb
    have each : ∀ i, i < len → ∃ q : Dd × Value × Value, W.cell? (a.add (i * 7)) = some (.int .i64 q.1.kind) ∧ W.cell? ((a.add (i * 7)).add 1) = some (.string (str q.1.A)) ∧ W.cell? ((a.add (i * 7)).add 2) = some (.string (str q.1.B)) ∧ W.cell? ((a.add (i * 7)).add 3) = some (.int .i64 q.1.n) ∧ W.cell? ((a.add (i * 7)).add 4) = some q.2.1 ∧ W.cell? ((a.add (i * 7)).add 5) = some (.int .i64 q.1.k) ∧ W.cell? ((a.add (i * 7)).add 6) = some q.2.2 ∧ QRow W (fun g => g < W.heap.size) q.2.1 q.1.faults ∧ IRow W (fun g => g < W.heap.size) q.2.2 q.1.bytes ∧ q.1.Ok ∧ a.block < W.heap.size := fun i hi => by
      obtain ⟨y, hy⟩ : ∃ y, elems[i]? = some y := ⟨_, List.getElem?_eq_getElem (by omega)⟩
      have h1 := hat i hi
      rw [hy] at h1
      obtain ⟨cs', h2, h3⟩ := Option.bind_eq_some_iff.1 h1
      rw [show Try.prog.cellsOf 42 = 7 by kernel_rfl] at h2
      have hmem : y ∈ elems := List.mem_of_getElem? hy
      obtain ⟨yd, yp⟩ := y
      obtain ⟨q, fv, bv, e, q4, q7, hbk⟩ := dd_trod h3 (fun x hx => hlt x (List.mem_append.2 (.inr (List.mem_flatMap.2 ⟨_, List.mem_append.2 (.inl hmem), hx⟩))))
      subst e
      have hbl := World.cells?_block h2 (by omega)
      have hab : (a.add (i * 7)).block = a.block := by unfold Addr.add; split <;> rfl
      rw [hab] at hbl
      have hcc := (World.cells?_some h2).2.2
      have hby := bulk_of (List.mem_map.2 ⟨_, hmem, rfl⟩ : yd ∈ elems.map (·.1))
      have g0 := hcc 0 (by omega)
      refine ⟨(q, fv, bv), by simpa [Addr.add] using g0, hcc 1 (by omega), hcc 2 (by omega), hcc 3 (by omega), hcc 4 (by omega), hcc 5 (by omega), hcc 6 (by omega), q4, q7, ⟨?_, ?_, ?_, ?_⟩, hbl⟩ <;> simp only <;> omega
    obtain ⟨Q, hQ⟩ := choose_lt each
    refine ⟨(List.range len).map fun i => (Q i).1, ⟨some a, cap, by simp, ?_⟩, fun e he => ?_, ?_⟩
    · by_cases h0 : len = 0
      · left; rw [h0]; rfl
      · right
        obtain ⟨g, off, spot⟩ := a
        have hspot : spot = none := by simpa [Addr.add] using World.cell?_spot (hQ 0 (by omega)).1
        subst hspot
        have hg := (hQ 0 (by omega)).2.2.2.2.2.2.2.2.2.2
        refine ⟨g, off, rfl, hg, hg, fun j d hd => ?_⟩
        have hj : j < len := by simpa using (List.getElem?_eq_some_iff.1 hd).1
        simp [hj] at hd
        subst hd
        obtain ⟨q0, q1, q2, q3, q4, q5, q6, q7, q8, -, -⟩ := hQ j hj
        rw [add_plain] at q0
        rw [add_plain, add_plain] at q1 q2 q3 q4 q5 q6
        exact ⟨_, _, q0, q1, q2, q3, q4, q5, q6, q7, q8⟩
    · obtain ⟨i, hi, rfl⟩ := List.mem_map.1 he
      obtain ⟨-, -, -, -, -, -, -, -, -, q9, -⟩ := hQ i (List.mem_range.1 hi)
      exact q9
    · simp only [List.length_map, List.length_range]
      omega
end
end Go.Proofs.Ytbjlffhnkcbnmaa
