/- covenantlaw26: lives among the arguments: their values, their bulk. covenantlaw26: Plan and Crash of a log's disk. -/
import Derived.Test.YtfbjmhipjfjaeaaGreatDoorM34
import Derived.Test.YtfbjmhipjfjaeaaGreatDoorM01
import Derived.ChangeSlices
import Derived.ChangeArms
import Derived.ChangeSame
import Derived.ChangeOld
import Derived.Deep.Strs
namespace Go.Proofs.YtfbjmhipjfjaeaaGreatDoor
open Go.ChangeShapes Go.WideShapes Go.ChangeAt Go.RowKit Go.Deep
set_option linter.unusedVariables false
set_option linter.unusedSimpArgs false
/-- A life. -/
structure Lf where
  pol : Int
  every : Int
  faults : List Flt
  os : List Oq
  k : Int
  bytes : List Int
  calm : Bool
instance : Inhabited Lf := ⟨⟨0, 0, [], [], 0, [], false⟩⟩
def Lf.row (w : World) (x : Lf) (fv sv bv : Value) : Prop := QRow w fv x.faults ∧ OpRow w sv x.os ∧ IRow w (fun g => g < w.heap.size) bv x.bytes ∧ x.every ≤ 9223372036854775807
def LfV (w : World) (v : Value) (x : Lf) : Prop := ∃ fv sv bv, v = .agg #[.int .i64 x.pol, .int .i64 x.every, fv, sv, .int .i64 x.k, bv, .bool x.calm] ∧ x.row w fv sv bv
/-- A slice whose cells hold these lives. -/
def LfRow (w : World) (v : Value) (xs : List Lf) : Prop :=
  ∃ ao cp, v = .slice ao xs.length cp ∧ (xs = [] ∨ ∃ g off, ao = some ⟨g, off, none⟩ ∧ g < w.heap.size ∧ ∀ (j : Nat) d, xs[j]? = some d → ∃ fv sv bv, w.cell? ⟨g, off + j * 7, none⟩ = some (.int .i64 d.pol) ∧ w.cell? ⟨g, off + j * 7 + 1, none⟩ = some (.int .i64 d.every) ∧ w.cell? ⟨g, off + j * 7 + 2, none⟩ = some fv ∧ w.cell? ⟨g, off + j * 7 + 3, none⟩ = some sv ∧ w.cell? ⟨g, off + j * 7 + 4, none⟩ = some (.int .i64 d.k) ∧ w.cell? ⟨g, off + j * 7 + 5, none⟩ = some bv ∧ w.cell? ⟨g, off + j * 7 + 6, none⟩ = some (.bool d.calm) ∧ d.row w fv sv bv)
def opW (os : List Oq) : Nat := (os.map fun o => 9 + o.body.length).sum
def Lf.wt (x : Lf) : Nat := 8 + x.faults.length + x.bytes.length + opW x.os
theorem opW_wtO (os : List Oq) : Pl.wtO os + 8 * os.length ≤ opW os := by
  unfold opW Pl.wtO
  induction os with
  | nil => simp
  | cons o r ih => simp only [List.map_cons, List.sum_cons, List.length_cons]; omega
section
variable {H : Type} {enc : TypeId × Value → H} {W : World} {sp : Nat → Bool}
theorem bulk_pos (d : DataW H) : 1 ≤ Rows.uptoBulk d := by
  cases d with
  | lit x => cases x <;> simp [Rows.uptoBulk]
  | nil => simp [Rows.uptoBulk]
  | ptr d => simp [Rows.uptoBulk]
  | slice a b => simp [Rows.uptoBulk]
  | agg a => simp [Rows.uptoBulk]
  | iface a b => simp [Rows.uptoBulk]
  | map a => simp [Rows.uptoBulk]
  | held a => simp [Rows.uptoBulk]
theorem bulk_len : ∀ l : List (DataW H), l.length ≤ Rows.uptoBulkAll l
  | [] => by simp
  | d :: l => by
    have h1 := bulk_pos d
    have h2 := bulk_len l
    simp only [Rows.uptoBulkAll, List.length_cons]
    omega
theorem bulkAll_sum : ∀ l : List (DataW H), Rows.uptoBulkAll l = (l.map Rows.uptoBulk).sum
  | [] => rfl
  | d :: l => by simp only [Rows.uptoBulkAll, List.map_cons, List.sum_cons, bulkAll_sum l]
theorem range_sum_le {l : List Nat} {f : Nat → Nat} (n : Nat) (h : ∀ i, i < n → ∃ y, l[i]? = some y ∧ f i ≤ y) : ((List.range n).map f).sum ≤ l.sum := by
  have h1 : ((List.range n).map f).sum ≤ (l.take n).sum := by
    induction n with
    | zero => simp
    | succ n ih =>
      obtain ⟨y, hy, hf⟩ := h n (Nat.lt_succ_self _)
      have := ih fun i hi => h i (by omega)
      rw [List.range_succ, List.map_append, List.sum_append, List.take_add_one, hy]
      simp only [List.map_cons, List.map_nil, List.sum_cons, List.sum_nil, Option.toList_some, List.sum_append]
      omega
  have h2 : l.sum = (l.take n).sum + (l.drop n).sum := by rw [← List.sum_append, List.take_append_drop]
  omega
theorem irow_trod {P : Program} {t e : TypeId} {fuel : Nat} {cs : List Value} {d : DataW H} {ps : List MemPlace} (ht : P.underlying t = some (.slice e)) (he : P.underlying e = some (.int .i64)) (hc : P.cellsOf e = 1)
    (hf : DataW.trod enc P W 0 sp true fuel t cs = some (d, ps)) (hlt : ∀ x ∈ ps, x.block < W.heap.size) :
    ∃ v zs, cs = [v] ∧ IRow W (fun g => g < W.heap.size) v zs ∧ zs.length + 1 ≤ Rows.uptoBulk d := by
  rcases open_ints ht he hc hf with ⟨rfl, hx⟩ | ⟨a, len, cap, zs, rfl, _, hl, hm, hz, hx, hcell, _⟩
  · simp only [Prod.mk.injEq] at hx
    obtain ⟨rfl, rfl⟩ := hx
    exact ⟨_, [], rfl, ⟨none, 0, rfl, .inl rfl⟩, by simp [Rows.uptoBulk]⟩
  · simp only [Prod.mk.injEq] at hx
    obtain ⟨rfl, rfl⟩ := hx
    have hlm : len ≤ zs.length := by rw [hz]; split <;> omega
    have htl : (zs.take len).length = len := by rw [List.length_take]; omega
    refine ⟨_, zs.take len, rfl, ⟨some a, cap, by rw [htl], ?_⟩, ?_⟩
    rotate_left
    · simp only [Rows.uptoBulk]
      have := bulk_len (lits (H := H) .i64 (zs.take len))
      simp only [lits, List.length_map] at this ⊢
      omega
    by_cases h0 : len = 0
    · left; rw [h0]; rfl
    · right
      obtain ⟨g, off, spot⟩ := a
      have hspot : spot = none := by simpa [Addr.add] using World.cell?_spot (hcell 0 (by omega))
      subst hspot
      have hg := hlt (MemPlace.cell g off) (MemPlace.mem_row.2 ⟨0, by omega, rfl⟩)
      refine ⟨g, off, rfl, hg, hg, fun j x hx => ?_⟩
      have hj : j < len := by have := (List.getElem?_eq_some_iff.1 hx).1; omega
      rw [← add_plain, hcell j (by omega)]
      rw [List.getElem?_take, if_pos hj] at hx
      rw [List.getD_eq_getElem?_getD, hx]; rfl
set_option maxRecDepth 100000 in
theorem qrow_trod {fuel : Nat} {cs : List Value} {d : DataW H} {ps : List MemPlace} (hf : DataW.trod enc Tryz.prog W 0 sp true fuel 53 cs = some (d, ps)) (hlt : ∀ x ∈ ps, x.block < W.heap.size) :
    ∃ v l, cs = [v] ∧ QRow W v l ∧ l.length + 1 ≤ Rows.uptoBulk d := by
  rcases DataW.trod_slice Tryz.underlying53 hf with ⟨hcs, hx⟩ | ⟨a, len', cap', elems, rest, n, _, hcs, hx, _, hl, hm, hel, hat, _, _⟩
  · simp only [Prod.mk.injEq] at hx
    obtain ⟨rfl, rfl⟩ := hx
    exact ⟨_, [], hcs, ⟨none, 0, rfl, .inl rfl⟩, by simp [Rows.uptoBulk]⟩
  · simp only [Prod.mk.injEq] at hx
    obtain ⟨rfl, rfl⟩ := hx
    have hb1 := bulk_len (elems.map (·.1))
    rw [List.length_map] at hb1
    have each : ∀ i, i < len' → ∃ q : Flt, W.cell? (a.add (i * 3)) = some (.int .i64 q.1) ∧ W.cell? ((a.add (i * 3)).add 1) = some (.int .i64 q.2.1) ∧ W.cell? ((a.add (i * 3)).add 2) = some (.int .i64 q.2.2) ∧ a.block < W.heap.size := fun i hi => by
      obtain ⟨y, hy⟩ : ∃ y, elems[i]? = some y := ⟨_, List.getElem?_eq_getElem (by omega)⟩
      have h1 := hat i hi
      rw [hy] at h1
      obtain ⟨cs', h2, h3⟩ := Option.bind_eq_some_iff.1 h1
      rw [show Tryz.prog.cellsOf 96 = 3 by kernel_rfl] at h2
      obtain ⟨xs, m, _, e, hlc, hlen, hat2⟩ := DataW.trod_struct Tryz.underlying96 h3
      have hl2' : cs'.length = 3 := hlc.trans (by kernel_rfl)
      match cs', hl2' with
      | [c0, c1, c2], _ =>
      match xs, hlen with
      | [y0, y1, y2], _ =>
      have f0 : DataW.trod enc Tryz.prog W 0 sp true m 3 [c0] = some y0 := hat2 0 _ rfl
      have f1 : DataW.trod enc Tryz.prog W 0 sp true m 3 [c1] = some y1 := hat2 1 _ rfl
      have f2 : DataW.trod enc Tryz.prog W 0 sp true m 3 [c2] = some y2 := hat2 2 _ rfl
      obtain ⟨k0, e0, -, -⟩ := DataW.trod_int Tryz.underlying3 f0
      obtain ⟨k1, e1, -, -⟩ := DataW.trod_int Tryz.underlying3 f1
      obtain ⟨k2, e2, -, -⟩ := DataW.trod_int Tryz.underlying3 f2
      simp only [List.cons.injEq, and_true] at e0 e1 e2
      subst e0 e1 e2
      have hbl := World.cells?_block h2 (by omega)
      have hab : (a.add (i * 3)).block = a.block := by unfold Addr.add; split <;> rfl
      rw [hab] at hbl
      have hcc := (World.cells?_some h2).2.2
      refine ⟨(k0, k1, k2), ?_, hcc 1 (by omega), hcc 2 (by omega), hbl⟩
      have g0 := hcc 0 (by omega)
      simpa [Addr.add] using g0
    obtain ⟨Q, hQ⟩ := choose_lt each
    refine ⟨_, (List.range len').map Q, hcs, ⟨some a, cap', by simp, ?_⟩, ?_⟩
    · by_cases h0 : len' = 0
      · left; rw [h0]; rfl
      · right
        obtain ⟨g, off, spot⟩ := a
        have hspot : spot = none := by simpa [Addr.add] using World.cell?_spot (hQ 0 (by omega)).1
        subst hspot
        have hg := (hQ 0 (by omega)).2.2.2
        refine ⟨g, off, rfl, hg, fun j d hd => ?_⟩
        have hj : j < len' := by simpa using (List.getElem?_eq_some_iff.1 hd).1
        simp [hj] at hd
        subst hd
        obtain ⟨q0, q1, q2, -⟩ := hQ j hj
        rw [add_plain] at q0
        rw [add_plain, add_plain] at q1 q2
        exact ⟨q0, q1, q2⟩
    · simp only [Rows.uptoBulk, List.length_map, List.length_range]
      omega
theorem IRow.slice {G : Nat → Prop} {w : World} {v : Value} {zs : List Int} (h : IRow w G v zs) : ∃ a n m, v = .slice a n m := by obtain ⟨ao, cp, e, -⟩ := h; exact ⟨ao, _, cp, e⟩
set_option maxRecDepth 100000 in
theorem op_trod {fuel : Nat} {cs : List Value} {d : DataW H} {ps : List MemPlace} (hf : DataW.trod enc Tryz.prog W 0 sp true fuel 105 cs = some (d, ps)) (hlt : ∀ x ∈ ps, x.block < W.heap.size) :
    ∃ (a : Oq) (c2 c3 c4 c5 c6 : Value), cs = [.int .i64 a.kind, .string (str a.body), c2, c3, c4, c5, c6] ∧ OqRest c2 c3 c4 c5 c6 ∧ 9 + a.body.length ≤ Rows.uptoBulk d := by
  obtain ⟨xs, m, hj, e, hl, hlen, hat⟩ := DataW.trod_struct Tryz.underlying105 hf
  have hl2' : cs.length = 7 := hl.trans (by kernel_rfl)
  match cs, hl2' with
  | [c0, c1, c2, c3, c4, c5, c6], _ =>
  match xs, hlen with
  | [y0, y1, y2, y3, y4, y5], _ =>
  have f0 : DataW.trod enc Tryz.prog W 0 sp true m 3 [c0] = some y0 := hat 0 _ rfl
  have f1 : DataW.trod enc Tryz.prog W 0 sp true m 9 [c1] = some y1 := hat 1 _ rfl
  have f2 : DataW.trod enc Tryz.prog W 0 sp true m 3 [c2] = some y2 := hat 2 _ rfl
  have f3 : DataW.trod enc Tryz.prog W 0 sp true m 3 [c3] = some y3 := hat 3 _ rfl
  have f4 : DataW.trod enc Tryz.prog W 0 sp true m 56 [c4, c5] = some y4 := hat 4 _ rfl
  have f5 : DataW.trod enc Tryz.prog W 0 sp true m 53 [c6] = some y5 := hat 5 _ rfl
  obtain ⟨k0, e0, r0, -⟩ := DataW.trod_int Tryz.underlying3 f0
  obtain ⟨A, e1, r1, -⟩ := DataW.trod_string Tryz.underlying9 f1
  obtain ⟨k2, e2, r2, -⟩ := DataW.trod_int Tryz.underlying3 f2
  obtain ⟨k3, e3, r3, -⟩ := DataW.trod_int Tryz.underlying3 f3
  obtain ⟨z0, z1, m2, e4, -, g0, g1⟩ := trod_struct2 Tryz.underlying56 f4
  have g0' : DataW.trod enc Tryz.prog W 0 sp true m2 3 [c4] = some z0 := g0
  have g1' : DataW.trod enc Tryz.prog W 0 sp true m2 40 [c5] = some z1 := g1
  obtain ⟨k4, e5, r5, -⟩ := DataW.trod_int Tryz.underlying3 g0'
  simp only [Prod.mk.injEq] at e
  obtain ⟨rfl, rfl⟩ := e
  obtain ⟨y5a, y5b⟩ := y5
  obtain ⟨z1a, z1b⟩ := z1
  subst e4
  obtain ⟨bv, bl, e7, q7, b7⟩ := irow_trod Tryz.underlying40 Tryz.underlying3 (by kernel_rfl) g1' (fun x hx => hlt x (by simp; exact .inr (.inr (.inr (.inr (.inr (.inl hx)))))))
  obtain ⟨fv, fl, e8, q8, b8⟩ := qrow_trod f5 (fun x hx => hlt x (by simp; exact .inr (.inr (.inr (.inr (.inr (.inr hx)))))))
  simp only [List.cons.injEq, and_true] at e0 e1 e2 e3 e5 e7 e8
  subst e0 e1 e2 e3 e5 e7 e8 r0 r1 r2 r3 r5
  have sA : A = str A.data.toList := by simp [str]
  obtain ⟨a1, n1, m1, rfl⟩ := q7.slice
  obtain ⟨a2, m2', rfl⟩ := q8.shape
  refine ⟨⟨k0, A.data.toList⟩, _, _, _, _, _, by rw [← sA], ⟨k2, k3, k4, a1, a2, n1, _, m1, m2', rfl, rfl, rfl, rfl, rfl⟩, ?_⟩
  simp only [Rows.uptoBulk, Rows.uptoBulkAll, List.map_cons, List.map_nil]
  omega
set_option maxRecDepth 100000 in
theorem oprow_trod {fuel : Nat} {cs : List Value} {d : DataW H} {ps : List MemPlace} (hf : DataW.trod enc Tryz.prog W 0 sp true fuel 54 cs = some (d, ps)) (hlt : ∀ x ∈ ps, x.block < W.heap.size) :
    ∃ v os, cs = [v] ∧ OpRow W v os ∧ opW os + 1 ≤ Rows.uptoBulk d := by
  rcases DataW.trod_slice Tryz.underlying54 hf with ⟨hcs, hx⟩ | ⟨a, len', cap', elems, rest, n, _, hcs, hx, _, hl, hm, hel, hat, _, _⟩
  · simp only [Prod.mk.injEq] at hx
    obtain ⟨rfl, rfl⟩ := hx
    exact ⟨_, [], hcs, ⟨none, 0, rfl, .inl rfl⟩, by simp [Rows.uptoBulk, opW]⟩
  · simp only [Prod.mk.injEq] at hx
    obtain ⟨rfl, rfl⟩ := hx
    have each : ∀ i, i < len' → ∃ q : Oq × Value × Value × Value × Value × Value, OqRest q.2.1 q.2.2.1 q.2.2.2.1 q.2.2.2.2.1 q.2.2.2.2.2 ∧ W.cell? (a.add (i * 7)) = some (.int .i64 q.1.kind) ∧ W.cell? ((a.add (i * 7)).add 1) = some (.string (str q.1.body)) ∧ W.cell? ((a.add (i * 7)).add 2) = some q.2.1 ∧ W.cell? ((a.add (i * 7)).add 3) = some q.2.2.1 ∧ W.cell? ((a.add (i * 7)).add 4) = some q.2.2.2.1 ∧ W.cell? ((a.add (i * 7)).add 5) = some q.2.2.2.2.1 ∧ W.cell? ((a.add (i * 7)).add 6) = some q.2.2.2.2.2 ∧ a.block < W.heap.size ∧ ∃ y, (elems.map fun e => Rows.uptoBulk e.1)[i]? = some y ∧ 9 + q.1.body.length ≤ y := fun i hi => by
      obtain ⟨y, hy⟩ : ∃ y, elems[i]? = some y := ⟨_, List.getElem?_eq_getElem (by omega)⟩
      have h1 := hat i hi
      rw [hy] at h1
      obtain ⟨cs', h2, h3⟩ := Option.bind_eq_some_iff.1 h1
      rw [show Tryz.prog.cellsOf 105 = 7 by kernel_rfl] at h2
      have hmem : y ∈ elems := List.mem_of_getElem? hy
      obtain ⟨yd, yp⟩ := y
      obtain ⟨q, c2, c3, c4, c5, c6, e, hr, hbk⟩ := op_trod h3 (fun x hx => hlt x (List.mem_append.2 (.inr (List.mem_flatMap.2 ⟨_, List.mem_append.2 (.inl hmem), hx⟩))))
      subst e
      have hbl := World.cells?_block h2 (by omega)
      have hab : (a.add (i * 7)).block = a.block := by unfold Addr.add; split <;> rfl
      rw [hab] at hbl
      have hcc := (World.cells?_some h2).2.2
      have g0 := hcc 0 (by omega)
      exact ⟨(q, c2, c3, c4, c5, c6), hr, by simpa [Addr.add] using g0, hcc 1 (by omega), hcc 2 (by omega), hcc 3 (by omega), hcc 4 (by omega), hcc 5 (by omega), hcc 6 (by omega), hbl, Rows.uptoBulk yd, by rw [List.getElem?_map, hy]; rfl, hbk⟩
    obtain ⟨Q, hQ⟩ := choose_lt each
    refine ⟨_, (List.range len').map fun i => (Q i).1, hcs, ⟨some a, cap', by simp, ?_⟩, ?_⟩
    · by_cases h0 : len' = 0
      · left; rw [h0]; rfl
      · right
        obtain ⟨g, off, spot⟩ := a
        have hspot : spot = none := by simpa [Addr.add] using World.cell?_spot (hQ 0 (by omega)).2.1
        subst hspot
        have hg := (hQ 0 (by omega)).2.2.2.2.2.2.2.2.1
        refine ⟨g, off, rfl, hg, fun j d hd => ?_⟩
        have hj : j < len' := by simpa using (List.getElem?_eq_some_iff.1 hd).1
        simp [hj] at hd
        subst hd
        obtain ⟨hr, q0, q1, q2, q3, q4, q5, q6, -, -⟩ := hQ j hj
        rw [add_plain] at q0
        rw [add_plain, add_plain] at q1 q2 q3 q4 q5 q6
        exact ⟨_, _, _, _, _, hr, q0, q1, q2, q3, q4, q5, q6⟩
    · have h1 := range_sum_le (l := elems.map fun e => Rows.uptoBulk e.1) (f := fun i => 9 + (Q i).1.body.length) len' fun i hi => (hQ i hi).2.2.2.2.2.2.2.2.2
      have h2 := bulkAll_sum (elems.map (·.1))
      rw [List.map_map] at h2
      simp only [Rows.uptoBulk]
      rw [h2]
      show ((List.map (fun i => (Q i).1) (List.range len')).map fun o => 9 + o.body.length).sum + 1 ≤ _
      rw [List.map_map]
      have e1 : ((fun o : Oq => 9 + o.body.length) ∘ fun i => (Q i).1) = fun i => 9 + (Q i).1.body.length := rfl
      have e2 : ((Rows.uptoBulk : DataW H → Nat) ∘ fun x : DataW H × List MemPlace => x.1) = fun e => Rows.uptoBulk e.1 := rfl
      rw [e1, e2]
      omega
set_option maxRecDepth 100000 in
theorem lf_trod {fuel : Nat} {cs : List Value} {d : DataW H} {ps : List MemPlace} (hf : DataW.trod enc Tryz.prog W 0 sp true fuel 58 cs = some (d, ps)) (hlt : ∀ x ∈ ps, x.block < W.heap.size) :
    ∃ (x : Lf) (fv sv bv : Value), cs = [.int .i64 x.pol, .int .i64 x.every, fv, sv, .int .i64 x.k, bv, .bool x.calm] ∧ x.row W fv sv bv ∧ x.wt ≤ Rows.uptoBulk d := by
  obtain ⟨xs, m, hj, e, hl, hlen, hat⟩ := DataW.trod_struct Tryz.underlying58 hf
  have hl2' : cs.length = 7 := hl.trans (by kernel_rfl)
  match cs, hl2' with
  | [c0, c1, c2, c3, c4, c5, c6], _ =>
  match xs, hlen with
  | [y0, y1, y2, y3, y4, y5], _ =>
  have f0 : DataW.trod enc Tryz.prog W 0 sp true m 3 [c0] = some y0 := hat 0 _ rfl
  have f1 : DataW.trod enc Tryz.prog W 0 sp true m 3 [c1] = some y1 := hat 1 _ rfl
  have f2 : DataW.trod enc Tryz.prog W 0 sp true m 53 [c2] = some y2 := hat 2 _ rfl
  have f3 : DataW.trod enc Tryz.prog W 0 sp true m 54 [c3] = some y3 := hat 3 _ rfl
  have f4 : DataW.trod enc Tryz.prog W 0 sp true m 56 [c4, c5] = some y4 := hat 4 _ rfl
  have f5 : DataW.trod enc Tryz.prog W 0 sp true m 4 [c6] = some y5 := hat 5 _ rfl
  obtain ⟨k0, e0, r0, -⟩ := DataW.trod_int Tryz.underlying3 f0
  obtain ⟨k1, e1, r1, wk1⟩ := DataW.trod_int Tryz.underlying3 f1
  obtain ⟨z0, z1, m2, e4, -, g0, g1⟩ := trod_struct2 Tryz.underlying56 f4
  have g0' : DataW.trod enc Tryz.prog W 0 sp true m2 3 [c4] = some z0 := g0
  have g1' : DataW.trod enc Tryz.prog W 0 sp true m2 40 [c5] = some z1 := g1
  obtain ⟨k4, e5, r5, -⟩ := DataW.trod_int Tryz.underlying3 g0'
  obtain ⟨cm, e6, r6⟩ := DataW.trod_bool Tryz.underlying4 f5
  simp only [Prod.mk.injEq] at e
  obtain ⟨rfl, rfl⟩ := e
  obtain ⟨y2a, y2b⟩ := y2
  obtain ⟨y3a, y3b⟩ := y3
  obtain ⟨z1a, z1b⟩ := z1
  subst e4
  obtain ⟨fv, fl, e8, q8, b8⟩ := qrow_trod f2 (fun x hx => hlt x (by simp; exact .inr (.inr (.inl hx))))
  obtain ⟨sv, os, e9, q9, b9⟩ := oprow_trod f3 (fun x hx => hlt x (by simp; exact .inr (.inr (.inr (.inl hx)))))
  obtain ⟨bv, bl, e7, q7, b7⟩ := irow_trod Tryz.underlying40 Tryz.underlying3 (by kernel_rfl) g1' (fun x hx => hlt x (by simp; exact .inr (.inr (.inr (.inr (.inr (.inl hx)))))))
  simp only [List.cons.injEq, and_true] at e0 e1 e5 e6 e7 e8 e9
  subst e0 e1 e5 e6 e7 e8 e9 r0 r1 r5 r6
  refine ⟨⟨k0, k1, fl, os, k4, bl, cm⟩, _, _, _, rfl, ⟨q8, q9, q7, (bounds_i64 wk1).2⟩, ?_⟩
  simp only [Rows.uptoBulk, Rows.uptoBulkAll, List.map_cons, List.map_nil, Lf.wt]
  omega
set_option maxRecDepth 100000 in
theorem open_life {r : Reach} {b0 : Nat} {v : Value} {d : DataW H} {ps : List MemPlace}
    (hval : Value.okWide Tryz.prog W r b0 58 v) (h : DataW.Trod enc Tryz.prog W 0 sp true 58 v d ps) (hlt : ∀ x ∈ ps, x.block < W.heap.size) :
    ∃ x, LfV W v x ∧ x.wt ≤ Rows.uptoBulk d := by
  obtain ⟨cs, rfl, hcs⟩ := okWide_struct Tryz.underlying58 hval
  rw [show Tryz.prog.cellsOf 58 = 7 by kernel_rfl] at hcs
  obtain ⟨fuel, hf⟩ := h
  obtain ⟨x, fv, sv, bv, e, hr, hb⟩ := lf_trod hf hlt
  refine ⟨x, ⟨fv, sv, bv, ?_, hr⟩, hb⟩
  obtain ⟨cl⟩ := cs
  have e : cl = _ := e
  rw [e]
set_option maxRecDepth 100000 in
theorem open_lives {r : Reach} {b0 : Nat} {v : Value} {d : DataW H} {ps : List MemPlace}
    (hval : Value.okWide Tryz.prog W r b0 67 v) (h : DataW.Trod enc Tryz.prog W 0 sp true 67 v d ps) (hlt : ∀ x ∈ ps, x.block < W.heap.size) :
    ∃ xs, LfRow W v xs ∧ (xs.map Lf.wt).sum + 1 ≤ Rows.uptoBulk d := by
  obtain ⟨a0, len, cap, rfl⟩ := okWide_slice Tryz.underlying67 hval
  obtain ⟨fuel, hf⟩ := h
  rcases DataW.trod_slice Tryz.underlying67 hf with ⟨hcs, hx⟩ | ⟨a, len', cap', elems, rest, n, _, hcs, hx, _, hl, hm, hel, hat, _, _⟩
  · simp [Value.cells] at hcs
    obtain ⟨rfl, rfl, rfl⟩ := hcs
    simp only [Prod.mk.injEq] at hx
    obtain ⟨rfl, rfl⟩ := hx
    exact ⟨[], ⟨none, 0, rfl, .inl rfl⟩, by simp [Rows.uptoBulk]⟩
  · simp [Value.cells] at hcs
    obtain ⟨rfl, rfl, rfl⟩ := hcs
    simp only [Prod.mk.injEq] at hx
    obtain ⟨rfl, rfl⟩ := hx
    have each : ∀ i, i < len → ∃ q : Lf × Value × Value × Value, W.cell? (a.add (i * 7)) = some (.int .i64 q.1.pol) ∧ W.cell? ((a.add (i * 7)).add 1) = some (.int .i64 q.1.every) ∧ W.cell? ((a.add (i * 7)).add 2) = some q.2.1 ∧ W.cell? ((a.add (i * 7)).add 3) = some q.2.2.1 ∧ W.cell? ((a.add (i * 7)).add 4) = some (.int .i64 q.1.k) ∧ W.cell? ((a.add (i * 7)).add 5) = some q.2.2.2 ∧ W.cell? ((a.add (i * 7)).add 6) = some (.bool q.1.calm) ∧ q.1.row W q.2.1 q.2.2.1 q.2.2.2 ∧ a.block < W.heap.size ∧ ∃ y, (elems.map fun e => Rows.uptoBulk e.1)[i]? = some y ∧ q.1.wt ≤ y := fun i hi => by
      obtain ⟨y, hy⟩ : ∃ y, elems[i]? = some y := ⟨_, List.getElem?_eq_getElem (by omega)⟩
      have h1 := hat i hi
      rw [hy] at h1
      obtain ⟨cs', h2, h3⟩ := Option.bind_eq_some_iff.1 h1
      rw [show Tryz.prog.cellsOf 58 = 7 by kernel_rfl] at h2
      have hmem : y ∈ elems := List.mem_of_getElem? hy
      obtain ⟨yd, yp⟩ := y
      obtain ⟨q, fv, sv, bv, e, hr, hbk⟩ := lf_trod h3 (fun x hx => hlt x (List.mem_append.2 (.inr (List.mem_flatMap.2 ⟨_, List.mem_append.2 (.inl hmem), hx⟩))))
      subst e
      have hbl := World.cells?_block h2 (by omega)
      have hab : (a.add (i * 7)).block = a.block := by unfold Addr.add; split <;> rfl
      rw [hab] at hbl
      have hcc := (World.cells?_some h2).2.2
      have g0 := hcc 0 (by omega)
      exact ⟨(q, fv, sv, bv), by simpa [Addr.add] using g0, hcc 1 (by omega), hcc 2 (by omega), hcc 3 (by omega), hcc 4 (by omega), hcc 5 (by omega), hcc 6 (by omega), hr, hbl, Rows.uptoBulk yd, by rw [List.getElem?_map, hy]; rfl, hbk⟩
    obtain ⟨Q, hQ⟩ := choose_lt each
    refine ⟨(List.range len).map fun i => (Q i).1, ⟨some a, cap, by simp, ?_⟩, ?_⟩
    · by_cases h0 : len = 0
      · left; rw [h0]; rfl
      · right
        obtain ⟨g, off, spot⟩ := a
        have hspot : spot = none := by simpa [Addr.add] using World.cell?_spot (hQ 0 (by omega)).1
        subst hspot
        have hg := (hQ 0 (by omega)).2.2.2.2.2.2.2.2.1
        refine ⟨g, off, rfl, hg, fun j d hd => ?_⟩
        have hj : j < len := by simpa using (List.getElem?_eq_some_iff.1 hd).1
        simp [hj] at hd
        subst hd
        obtain ⟨q0, q1, q2, q3, q4, q5, q6, hr, -, -⟩ := hQ j hj
        rw [add_plain] at q0
        rw [add_plain, add_plain] at q1 q2 q3 q4 q5 q6
        exact ⟨_, _, _, q0, q1, q2, q3, q4, q5, q6, hr⟩
    · have h1 := range_sum_le (l := elems.map fun e => Rows.uptoBulk e.1) (f := fun i => (Q i).1.wt) len fun i hi => (hQ i hi).2.2.2.2.2.2.2.2.2
      have h2 := bulkAll_sum (elems.map (·.1))
      rw [List.map_map] at h2
      simp only [Rows.uptoBulk]
      rw [h2, List.map_map]
      have e1 : (Lf.wt ∘ fun i => (Q i).1) = fun i => (Q i).1.wt := rfl
      have e2 : ((Rows.uptoBulk : DataW H → Nat) ∘ fun x : DataW H × List MemPlace => x.1) = fun e => Rows.uptoBulk e.1 := rfl
      rw [e1, e2]
      omega
end
end Go.Proofs.YtfbjmhipjfjaeaaGreatDoor

namespace Go.Proofs.YtfbjmhipjfjaeaaGreatDoor
open Go.ChangeShapes Go.WideShapes Go.ChangeAt Go.RowKit Go.Maps Pl
set_option linter.unusedVariables false
set_option linter.unusedSimpArgs false
theorem Pl.Alive.plan {S : Dk} {L : Lg} {all : List Tx} {g : Nat} {F : Fl} {f : Nat} {bs : List Tx} {m : Nat} (h : Alive S L all g F f bs m) (l : List Flt) : Alive (S.planS l) L all g F f bs m := by
  unfold Dk.planS
  split
  · exact ⟨h.live, h.names, h.file, h.exact, h.last, h.allN, h.size, h.ok⟩
  · exact h
section
variable {P G : Nat → Prop} {w : World} {l b j : Nat} {a : Addr} {S : Dk} {L : Lg}
/-- One call on a log's disk. -/
theorem LW.oneC {f : FuncId} {args : Array Value} {S2 : Dk} {v : Value} (h : LW P w l b a S L) (hc : ∀ F, (∀ k, F k → P k ∧ k < w.heap.size) → Dsk w b F S → Calls Tryz.prog f args w (OpEnd b F S2 v w)) :
    Calls Tryz.prog f args w fun e w' => e = .returned v ∧ LgEnd P w l b a S2 L w' :=
  (h.start.p hc).mono fun e w' ⟨h1, h2, h3⟩ => ⟨h1, LgEnd.of_each h (Below.refl _ _) h2 (fun k hk => hk) h3⟩
theorem LW.planC (h : LW P w l b a S L) (hS : S.Small j) (hj : j ≤ 4194304) (v : Value) (q : List Flt) (hv : PRow w G v q) (hl : q.length ≤ 4194304) :
    Calls Tryz.prog 27 #[.pointer (some ⟨b, 0, none⟩), v] w fun e w' => e = .returned (.int .i64 (S.planE q)) ∧ LgEnd P w l b a (S.planS q) L w' :=
  h.oneC fun F _ d => plan_any d hS hj v q hv hl
theorem LW.crashC (h : LW P w l b a S L) (hI : S.Inv) (hS : S.Small j) (hj : j ≤ 4194304) (k : Int) (v : Value) (zs : List Int) (hv : IRow w G v zs) (hG : ∀ x, G x → ¬ P x) (hbl : zs.length ≤ 4194304) :
    Calls Tryz.prog 31 #[.pointer (some ⟨b, 0, none⟩), .agg #[.int .i64 k, v]] w fun e w' => e = .returned (.tuple #[]) ∧ LgEnd P w l b a (S.crashS k zs) L w' :=
  h.oneC fun F hF d => crash_any d hI hS hj k v zs hv (fun x hx hf => hG x hx (hF x hf).1) hbl
theorem LW.downC (h : LW P w l b a S L) : Calls Tryz.prog 33 #[.pointer (some ⟨b, 0, none⟩)] w fun e w' => e = .returned (.bool S.down) ∧ w = w' := by
  obtain ⟨F, d, hp⟩ := h.one
  exact down_any d
end
theorem LgEnd.far {P : Nat → Prop} {w w' : World} {l b : Nat} {a : Addr} {S : Dk} {L : Lg} (h : LgEnd P w l b a S L w') : Wr (fun k => P k ∨ k = l) w w' := by
  obtain ⟨P', h1, h2, h3⟩ := h
  exact h3
/-- A block of texts. -/
def StrBlk (w : World) (k : Nat) : Prop := ∃ cur fz, w.heap[k]? = some (.cells cur 9 fz)
theorem notStr {w : World} {k : Nat} {cur : Array Value} {e : TypeId} {fz : Nat × Nat} (he : e ≠ 9) (h : w.heap[k]? = some (.cells cur e fz)) : ¬ StrBlk w k := by
  rintro ⟨cur2, fz2, h2⟩
  rw [h] at h2
  simp only [Option.some.injEq, Obj.cells.injEq] at h2
  exact he h2.2.1
theorem Texts.str {base : Nat} {w : World} {v : Value} {bs : List Tx} (h : Texts w base v bs) {k : Nat} (hk : v.ownBlock = some k) : StrBlk w k := by
  rcases h.2 with ⟨rfl, -⟩ | ⟨g, cap, cur, rfl, h2, h3, _⟩
  · cases hk
  · cases hk; exact ⟨_, _, h3⟩
/-- No block of the disk holds texts. -/
theorem DiskAt.narrow {w : World} {b : Nat} {F : Nat → Prop} {φ : Nat → Nat} {S : Dk} {nm lm : Nat} {ov pv : Value} (h : DiskAt w b F φ S nm lm ov pv) : DiskAt w b (fun k => F k ∧ ¬ StrBlk w k) φ S nm lm ov pv where
  lt := fun k hk => h.lt k hk.1
  own := ⟨h.own, notStr (by decide) h.block⟩
  ownN := ⟨h.ownN, fun ⟨cur, fz, hk⟩ => h.names.notCells hk rfl⟩
  ownL := ⟨h.ownL, fun ⟨cur, fz, hk⟩ => h.last.notCells hk rfl⟩
  ne := h.ne
  block := h.block
  names := h.names
  last := h.last
  files := fun i f hf => ⟨(h.files i f hf).1, (h.files i f hf).2, notStr (by decide) (h.files i f hf).1⟩
  inj := h.inj
  opn := ⟨h.opn.1, fun g hg => ⟨h.opn.2 g hg, by
    rcases h.opn.1.2 with ⟨h1, -⟩ | ⟨g2, cap, cur, h1, h2, h3, _⟩
    · rw [h1] at hg; cases hg
    · rw [h1] at hg; cases hg; exact notStr (by decide) h3⟩⟩
  plan := by
    obtain ⟨ao, cp, e, hp⟩ := h.plan
    refine ⟨ao, cp, e, hp.imp id ?_⟩
    rintro ⟨g, off, h1, hF, hg, ⟨cur, fz, hb⟩, hc⟩
    exact ⟨g, off, h1, ⟨hF, notStr (by decide) hb⟩, hg, ⟨cur, fz, hb⟩, hc⟩
theorem One.narrow {P : Nat → Prop} {w : World} {b : Nat} {S : Dk} (h : One P w b S) : One (fun k => P k ∧ ¬ StrBlk w k) w b S := by
  obtain ⟨F, ⟨φ, nm, lm, ov, pv, d⟩, hp⟩ := h
  exact ⟨_, ⟨φ, nm, lm, ov, pv, d.narrow⟩, fun k hk => ⟨hp k hk.1, hk.2⟩⟩
theorem LW.narrow {P : Nat → Prop} {w : World} {l b : Nat} {a : Addr} {S : Dk} {L : Lg} (h : LW P w l b a S L) : LW (fun k => P k ∧ ¬ StrBlk w k) w l b a S L :=
  ⟨h.one.narrow, h.log, h.sent, fun hk => h.nl hk.1, fun k hk => h.n1 k hk.1, h.ll⟩
theorem DW.since {P : Nat → Prop} {w : World} {b : Nat} {a : Addr} {S : Dk} {B : Nat} (h : DW P w b a S) (hP : ∀ k, P k → B ≤ k) (hB : 3 ≤ B) : DW (fun k => B ≤ k) w b a S :=
  ⟨h.one.mono hP, h.sent, fun k hk => Nat.le_trans hB hk, h.three⟩
theorem irow_from {w w' : World} {B : Nat} {v : Value} {zs : List Int} (h : IRow w (fun g => g < B) v zs) (hb : Below B w w') : IRow w' (fun g => g < B) v zs := by
  obtain ⟨ao, cp, e, h⟩ := h
  refine ⟨ao, cp, e, h.imp id ?_⟩
  rintro ⟨g, off, h1, hG, hg, hc⟩
  exact ⟨g, off, h1, hG, Nat.lt_of_lt_of_le hg hb.size, fun j x hx => (World.cell?_of_block (hb.block g hG)).trans (hc j x hx)⟩
theorem TAt.srow {w : World} {v : Value} {ts : List Tx} (h : TAt w v ts) : SRow w v (ts.map str) := by
  obtain ⟨ao, cp, rfl, h⟩ := h
  refine ⟨ao, cp, by rw [List.length_map], ?_⟩
  rcases h with rfl | ⟨g, off, h1, h2, h3⟩
  · exact .inl rfl
  · refine .inr ⟨g, off, h1, h2, fun j x hx => ?_⟩
    rw [List.getElem?_map, Option.map_eq_some_iff] at hx
    obtain ⟨t, ht, rfl⟩ := hx
    exact h3 j t ht
theorem bulkS_str (ts : List Tx) : bulkS (ts.map str) = ts.length + (ts.map List.length).sum := by
  unfold bulkS
  induction ts with
  | nil => rfl
  | cons t r ih =>
    have e := str_size t
    simp only [List.map_cons, List.sum_cons, List.length_cons] at ih ⊢
    omega
theorem bulkS_bodies (os : List Oq) : bulkS ((os.map Oq.body).map str) = wtO os := by
  rw [bulkS_str]
  unfold wtO
  induction os with
  | nil => rfl
  | cons o r ih => simp only [List.map_cons, List.sum_cons, List.length_cons] at ih ⊢; omega
theorem clean_inv {S : Dk} (h : S.Inv) : (Pl.clean S).1.Inv := by
  unfold Pl.clean
  split
  · exact goL_inv _ h
  · exact h
theorem clean_small {S : Dk} {j : Nat} (h : S.Small j) : (Pl.clean S).1.Small (j + 2) := by
  unfold Pl.clean
  split
  · exact goL_small (xs := [.remove tempN, .names]) (fun x hx => by
      simp only [List.mem_cons, List.not_mem_nil, or_false] at hx
      rcases hx with rfl | rfl
      · exact tempN_len
      · trivial) h
  · exact h.mono (by omega)
section
variable {S : Dk} {all : List Tx} {lo g : Nat} {F : Fl} {f : Nat} {bs : List Tx} {m : Nat}
/-- Opened, and opened again. -/
theorem Pl.Found.twice (h : Found S all lo g F f bs m) (hI : S.Inv) {j : Nat} (hS : S.Small j) (hj : j ≤ 4190000) :
    (Pl.clean S).2 = 0 ∧ ∃ (n : Nat) (R R2 : Dk) (cut : Int), n ≤ bs.length ∧ Opn (Pl.clean S).1 (R, 0) (bs.take n) cut (atF f bs n) (f - 1 + n) ∧ (Pl.clean R).2 = 0 ∧ Opn (Pl.clean R).1 (R2, 0) (bs.take n) 0 (atF f bs n) (f - 1 + n) := by
  have hz : ∀ (T : Dk) (i : Nat), T.Small i → i ≤ 4194000 → ∀ x ∈ T.files, x.text.length ≤ 140737488351232 := fun T i hT hi x hx => by
    have h1 := hT.texts x hx
    have h2 : i * 33554432 ≤ 4194000 * 33554432 := Nat.mul_le_mul_right _ hi
    exact Nat.le_trans h1 (Nat.le_trans h2 (by decide))
  obtain ⟨c1, n, R, h1, h2, h3, hop, hal, hpl, hup⟩ := h.opens hI (hz S j hS (by omega))
  have hIc : (Pl.clean S).1.Inv := clean_inv hI
  have hSc : (Pl.clean S).1.Small (j + 2) := clean_small hS
  have hIR : R.Inv := hop.inv hIc
  have hSR : R.Small (j + 2 + 4) := hop.small hSc
  have ha := hal 1 0
  have hF2 : Found R (all.take (f - 1 + n)) (f - 1 + n) g ⟨logF f (bs.take n), atF f bs n⟩ f (bs.take n) n := ⟨hpl, hup, ha.found hIR, ha.file, ha.ok⟩
  obtain ⟨c2, n2, R2, k1, k2, k3, hop2, -, -, -⟩ := hF2.opens hIR (hz R _ hSR (by omega))
  have hl : (bs.take n).length = n := by rw [List.length_take]; omega
  obtain rfl : n2 = n := by omega
  have e1 : (bs.take n2).take n2 = bs.take n2 := by rw [List.take_take, Nat.min_self]
  have e2 : atF f (bs.take n2) n2 = atF f bs n2 := by unfold atF; rw [e1]
  rw [e1, e2] at hop2
  have e3 : (((⟨logF f (bs.take n2), atF f bs n2⟩ : Fl).text.length : Nat) : Int) - atF f bs n2 = 0 := by
    show (((logF f (bs.take n2)).length : Nat) : Int) - ((logF f (bs.take n2)).length : Nat) = 0
    omega
  rw [e3] at hop2
  exact ⟨c1, n2, R, R2, _, h2, hop, c2, hop2⟩
end
end Go.Proofs.YtfbjmhipjfjaeaaGreatDoor
