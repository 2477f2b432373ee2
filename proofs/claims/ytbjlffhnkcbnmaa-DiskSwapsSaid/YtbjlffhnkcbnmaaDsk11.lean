/- Rows of faults: a copy, one more; the plan. -/
import Derived.Test.YtbjlffhnkcbnmaaDsk10
import Derived.Lib.SliceRun
namespace Go.Proofs.Ytbjlffhnkcbnmaa
open Go.ChangeShapes Go.WideShapes Go.ChangeAt Go.RowKit Go.Maps
open Pl (Tx Fl Ch Nm Dk)
set_option linter.unusedVariables false

abbrev Flt := Int × Int × Int
def flCells (p : Flt) : List Value := [.int .i64 p.1, .int .i64 p.2.1, .int .i64 p.2.2]
theorem fl_len (l : List Flt) : (l.flatMap flCells).length = l.length * 3 := by
  induction l with
  | nil => rfl
  | cons p l ih => rw [List.flatMap_cons, List.length_append, ih, List.length_cons]; simp [flCells]; omega
theorem fl_get : ∀ {l : List Flt} {j : Nat} {p : Flt}, l[j]? = some p → (l.flatMap flCells)[j * 3]? = some (.int .i64 p.1) ∧ (l.flatMap flCells)[j * 3 + 1]? = some (.int .i64 p.2.1) ∧ (l.flatMap flCells)[j * 3 + 2]? = some (.int .i64 p.2.2)
  | [], j, p, h => by simp at h
  | q :: r, 0, p, h => by
    simp at h; subst h
    simp [flCells]
  | q :: r, j + 1, p, h => by
    have ih := fl_get (l := r) (j := j) (p := p) (by simpa using h)
    rw [List.flatMap_cons]
    have e : ∀ k, (flCells q ++ r.flatMap flCells)[(j + 1) * 3 + k]? = (r.flatMap flCells)[j * 3 + k]? := fun k => by
      rw [List.getElem?_append_right (by simp [flCells]; omega)]
      congr 1; simp [flCells]; omega
    exact ⟨by rw [show (j + 1) * 3 = (j + 1) * 3 + 0 from rfl, e 0]; exact ih.1, by rw [e 1]; exact ih.2.1, by rw [e 2]; exact ih.2.2⟩
theorem fl_snoc (l : List Flt) (p : Flt) : (l ++ [p]).flatMap flCells = l.flatMap flCells ++ flCells p := by simp
/-- A row of faults of the call's own. -/
def FRow (w : World) (B : Nat) (v : Value) (l : List Flt) : Prop := w.ownsRow B 58 3 v l.length (l.flatMap flCells)
theorem FRow.shape {w : World} {B : Nat} {v : Value} {l : List Flt} (h : FRow w B v l) : ∃ ao cp, v = .slice ao l.length cp := by
  rcases h.2 with ⟨h1, h2⟩ | ⟨g, cap, cur, h1, _⟩
  · exact ⟨none, 0, by rw [h1, h2]⟩
  · exact ⟨_, _, h1⟩
theorem FRow.prow {w : World} {B : Nat} {v : Value} {l : List Flt} (h : FRow w B v l) : PRow w (fun k => B ≤ k) v l := by
  rcases h.2 with ⟨h1, h2⟩ | ⟨g, cap, cur, rfl, h3, h4, _⟩
  · exact ⟨none, 0, by rw [h1, h2], .inl (List.eq_nil_of_length_eq_zero h2)⟩
  · refine ⟨_, cap, rfl, .inr ⟨g, 0, rfl, h3, (Array.getElem?_eq_some_iff.1 h4).1, ⟨cur, _, h4⟩, fun j p hp => ?_⟩⟩
    have hj := (List.getElem?_eq_some_iff.1 hp).1
    obtain ⟨c0, c1, c2⟩ := fl_get hp
    have hc : ∀ k, k < l.length * 3 → w.cell? ⟨g, k, none⟩ = (l.flatMap flCells)[k]? := fun k hk => World.ownsRow.cellAt h k hk
    refine ⟨?_, ?_, ?_⟩
    · rw [Nat.zero_add, hc _ (by omega)]; exact c0
    · rw [Nat.zero_add, hc _ (by omega)]; exact c1
    · rw [Nat.zero_add, hc _ (by omega)]; exact c2
theorem FRow.empty {w : World} {B g : Nat} (h : w.heap[g]? = some (.cells #[] 58 (0, 0))) (hB : B ≤ g) : FRow w B (.slice (some ⟨g, 0, none⟩) 0 0) [] :=
  ⟨rfl, .inr ⟨g, 0, #[], rfl, hB, h, Nat.le_refl _, Nat.zero_le _, rfl, rfl⟩⟩
theorem infoF : (Try.prog.info? 58).map (fun i => (i.zero, i.size, i.bytes)) = some (some (.agg #[.int .i64 0, .int .i64 0, .int .i64 0]), 3, 24) := by kernel_rfl
section
variable {P : Program} {o : Oper} {a : Act} {Q : Exit → Act → World → Prop} {K : Act → World → Prop}
theorem run_append_nilf {w : World} (base : Nat) (t ty e : TypeId) (i : TypeInfo) (size c : Nat) (ht : P.underlying t = some (.slice e)) (hi : P.info? e = some i)
    (v : Value) (n : Nat) (xs : List Value) (hown : w.ownsRow base e size v n xs) :
    (Builtin.append_ #[t, t] ty #[v, .slice none 0 c]).run P w = .ok v w := by
  rcases hown.2 with ⟨rfl, rfl⟩ | ⟨g, cap, cur, rfl, _, _, hnc, _⟩
  · simp [Builtin.append_, run_underlying ht, sizeOf, typeInfo, hi, Builtin.lenOf, Builtin.firstCells]
  · simp [Builtin.append_, run_underlying ht, sizeOf, typeInfo, hi, Builtin.lenOf, Builtin.firstCells, hnc, storeCells]
/-- 'append([]F{}, l...)': a copy. -/
theorem wp_append_faults {w0 w : World} {F : Nat → Prop} (s x : Operand) (ho : o.op = .call { callee := .builtin .append, args := #[s, x], argTypes := #[40, 40] })
    (l : List Flt) (v u : Value) (hs : a.eval s = v) (hx : a.eval x = u) (hM : FRow w w0.heap.size v []) (hu : PRow w F u l) (hb : Below w0.heap.size w0 w) (hn : l.length ≤ 32768)
    (h : ∀ v' w', FRow w' w0.heap.size v' l → Below w0.heap.size w0 w' → K (a.put o.dst v') w') : o.wp Try.prog a w K Q := by
  obtain ⟨i, hi, hz, hsz, hby⟩ := info_parts infoF
  obtain ⟨ao, cp, rfl, hh⟩ := hu
  have out : ∀ v' w', w'.ownsRow w0.heap.size 58 3 v' (0 + l.length) ([] ++ l.flatMap flCells) → w.grownBy w' v.ownBlock → K (a.put o.dst v') w' := fun v' w' hown hg =>
    h v' w' (by have := hown; rwa [Nat.zero_add, List.nil_append] at this) (hb.grown hg hb.size fun k hk => (hM.lt k hk).1)
  have some_case : ∀ ad : Addr, ao = some ad → (∀ j u, (l.flatMap flCells)[j]? = some u → w.cell? (ad.add j) = some u) → o.wp Try.prog a w K Q := fun ad e hc => by
    subst e
    exact wp_append_own w s x _ ho w0.heap.size 58 i _ 3 24 Try.underlying40 hi hz hsz hby rfl (by omega) v 0 [] hs hM ad l.length cp (l.flatMap flCells) hx (fl_len l) hc (by
      intro u hu
      obtain ⟨p, _, hp⟩ := List.mem_flatMap.1 hu
      simp [flCells] at hp
      rcases hp with rfl | rfl | rfl <;> rfl) (by unfold maxLen; omega) (by omega) hb.size fun v' w' h2 h3 _ => out v' w' h2 h3
  rcases hh with rfl | ⟨g, off, rfl, _, hg, _, hc⟩
  · rcases ao with _ | ad
    · have hrun := run_append_nilf (P := Try.prog) (w := w) w0.heap.size 40 o.type 58 i 3 cp Try.underlying40 hi v 0 [] hM
      have hk := h v w hM hb
      unfold Oper.wp
      simp [execOp, ho, resolve, invoke, builtin, hs, hx, hrun, Result.andThen]
      exact hk
    · exact some_case ad rfl (by simp)
  · refine some_case _ rfl fun j u hu => ?_
    have hj := (List.getElem?_eq_some_iff.1 hu).1
    rw [fl_len] at hj
    obtain ⟨p, hp⟩ : ∃ p, l[j / 3]? = some p := ⟨_, List.getElem?_eq_getElem (by omega)⟩
    obtain ⟨c0, c1, c2⟩ := hc _ p hp
    obtain ⟨d0, d1, d2⟩ := fl_get hp
    rw [add_plain]
    have hm : j % 3 < 3 := Nat.mod_lt _ (by omega)
    rcases hmod : j % 3 with _ | _ | _ | k
    · rw [show j / 3 * 3 = j by omega] at c0 d0
      rw [d0] at hu; rw [c0, hu]
    · rw [show j / 3 * 3 + 1 = j by omega] at d1
      rw [show off + j / 3 * 3 + 1 = off + j by omega] at c1
      rw [d1] at hu; rw [c1, hu]
    · rw [show j / 3 * 3 + 2 = j by omega] at d2
      rw [show off + j / 3 * 3 + 2 = off + j by omega] at c2
      rw [d2] at hu; rw [c2, hu]
    · omega
theorem wpList_append_faults {w0 w : World} {F : Nat → Prop} {ops : Array Oper} {rest : List Oper} (hgd : o.guard = none) (s x : Operand) (ho : o.op = .call { callee := .builtin .append, args := #[s, x], argTypes := #[40, 40] })
    (l : List Flt) (v u : Value) (hs : a.eval s = v) (hx : a.eval x = u) (hM : FRow w w0.heap.size v []) (hu : PRow w F u l) (hb : Below w0.heap.size w0 w) (hn : l.length ≤ 32768)
    (h : ∀ v' w', FRow w' w0.heap.size v' l → Below w0.heap.size w0 w' → wpList Try.prog ops Q rest (a.put o.dst v') w') : wpList Try.prog ops Q (o :: rest) a w :=
  wpList_plain hgd fun _ hK => wp_append_faults s x ho l v u hs hx hM hu hb hn fun v' w' h1 h2 => hK _ _ (h v' w' h1 h2)
end
def CloneFEnd (l : List Flt) (w : World) (e : Ending) (w' : World) : Prop := ∃ ao cp, e = .returned (.slice ao l.length cp) ∧ PRow w' (fun k => w.heap.size ≤ k ∧ k < w'.heap.size) (.slice ao l.length cp) l ∧ Below w.heap.size w w'
theorem PRow.bounded {w : World} {F : Nat → Prop} {v : Value} {l : List Flt} (h : PRow w F v l) : PRow w (fun k => F k ∧ k < w.heap.size) v l := by
  obtain ⟨ao, cp, e, h⟩ := h
  refine ⟨ao, cp, e, h.imp id ?_⟩
  rintro ⟨g, off, h1, hF, hg, r⟩
  exact ⟨g, off, h1, ⟨hF, hg⟩, hg, r⟩
set_option maxRecDepth 100000 in
set_option maxHeartbeats 1600000 in
theorem clonef_any {F : Nat → Prop} (l : List Flt) (v : Value) (w : World) (h : PRow w F v l) (hn : l.length ≤ 32768) :
    Calls Try.prog 48 #[v] w (CloneFEnd l w) := by
  obtain ⟨ao, cp, rfl⟩ := h.shape
  have hq := fun w => Go.Lib.run_eql_slice_nil (P := Try.prog) w 40 58 ao l.length cp 0 0 Try.underlying40
  cases ao with
  | none =>
    have hl : l = [] := by
      obtain ⟨a, c, e, h⟩ := h
      rcases h with h | ⟨g, off, h1, _⟩
      · exact h
      · cases e; cases h1
    subst hl
    clear h
    simp only [Option.isNone_none, List.length_nil] at hq
    go_enter Try.func48, Try.ntmps48
    go_wp2
    go_ret
    exact ⟨none, 0, rfl, PRow.nil _ _, Below.refl _ _⟩
  | some ad =>
    have H := Lib.hid (h.mono (G := fun _ => True) (fun _ _ => trivial))
    clear h
    simp only [Option.isNone_some] at hq
    have H2 := Lib.hid (H.out.same (w' := w.alloc (.cells #[] 58)) (by simp) (fun k cur fz _ hk => heap_alloc_old w _ (Array.getElem?_eq_some_iff.1 hk).1))
    have H3 := Lib.hid (FRow.empty (B := w.heap.size) (heap_alloc_new w (.cells #[] 58)) (Nat.le_refl _))
    have H4 := Lib.hid ((Below.refl w.heap.size w).alloc (Nat.le_refl _) (.cells #[] 58))
    go_enter Try.func48, Try.ntmps48
    go_wp2_with (at_builtin; refine wpList_append_faults (w0 := w) rfl (.tmp 5) (.tmp 6) rfl l _ _ rfl rfl H3.out H2.out H4.out hn ?_; intro v' w' m' b')
    obtain ⟨va, vc, rfl⟩ := m'.shape
    go_ret
    exact ⟨va, vc, rfl, m'.prow.bounded, b'⟩
/-- The plan's cell is written. -/
theorem DiskAt.setPlan {w : World} {b : Nat} {F : Nat → Prop} {φ : Nat → Nat} {S : Dk} {nm lm : Nat} {ov pv : Value} (h : DiskAt w b F φ S nm lm ov pv) {v : Value} {l : List Flt} {lo : Nat} (hv : PRow w (fun k => lo ≤ k ∧ k < w.heap.size) v l) :
    DiskAt (w.setCell ⟨b, 4, none⟩ v) b (fun k => F k ∨ (lo ≤ k ∧ k < w.heap.size)) φ { S with plan := l } nm lm ov v := by
  have ho : ∀ k, k ≠ b → (w.setCell ⟨b, 4, none⟩ v).heap[k]? = w.heap[k]? := fun k hk => Below.heap_setCell _ _ _ _ hk
  have hs : (w.setCell ⟨b, 4, none⟩ v).heap.size = w.heap.size := heap_setCell_size _ _ _
  exact {
    lt := fun k hk => by rw [hs]; rcases hk with hk | hk; exact h.lt k hk; exact hk.2
    own := .inl h.own
    ownN := .inl h.ownN
    ownL := .inl h.ownL
    ne := h.ne
    block := heap_setCell_same h.block
    names := h.names.same (ho nm fun e => h.names.notCells h.block e.symm)
    last := h.last.same (ho lm fun e => h.last.notCells h.block e.symm)
    files := fun i f hf => by
      obtain ⟨f1, f2⟩ := h.files i f hf
      exact ⟨(ho _ (h.notb (by decide) f1)).trans f1, .inl f2⟩
    inj := h.inj
    opn := (h.opn.kept_by fun k cur hk => ho k (h.notb (by decide) hk)).mono fun k hk => .inl hk
    plan := (hv.same (by rw [hs]; exact Nat.le_refl _) fun k cur fz _ hk => ho k (h.notb (by decide) hk)).mono fun k hk => .inr hk }
theorem planOk_cons {k : Int} {p : Flt} {r : List Flt} : Pl.planOk k (p :: r) = (decide (k < p.1 ∧ 1 ≤ p.2.1 ∧ p.2.1 ≤ 3 ∧ 0 ≤ p.2.2 ∧ (p.2.2 ≤ 0 ∨ p.2.1 = 2)) && Pl.planOk p.1 r) := rfl
abbrev fineF (k : Int) (p : Flt) : Prop := k < p.1 ∧ 1 ≤ p.2.1 ∧ p.2.1 ≤ 3 ∧ 0 ≤ p.2.2 ∧ (p.2.2 ≤ 0 ∨ p.2.1 = 2)
theorem planOk_drop {S : Dk} {l : List Flt} {j : Nat} {k : Int} {p : Flt} (hp : l[j]? = some p) (h : Pl.planOk S.steps l = Pl.planOk k (l.drop j)) : (fineF k p → Pl.planOk S.steps l = Pl.planOk p.1 (l.drop (j + 1))) ∧ (¬ fineF k p → Pl.planOk S.steps l = false) := by
  have hd : l.drop j = p :: l.drop (j + 1) := by
    obtain ⟨h1, h2⟩ := List.getElem?_eq_some_iff.1 hp
    rw [List.drop_eq_getElem_cons h1, h2]
  rw [hd, planOk_cons] at h
  refine ⟨fun hf => ?_, fun hf => ?_⟩
  · rw [h, decide_eq_true hf, Bool.true_and]
  · rw [h, decide_eq_false hf, Bool.false_and]
set_option maxRecDepth 100000 in
set_option maxHeartbeats 3200000 in
theorem plan_any {w : World} {b j : Nat} {F G : Nat → Prop} {S : Dk} (h : Dsk w b F S) (hS : S.Small j) (hj : j ≤ 32768) (v : Value) (l : List Flt) (hv : PRow w G v l) (hl : l.length ≤ 32768) :
    Calls Try.prog 22 #[.pointer (some ⟨b, 0, none⟩), v] w (OpEnd b F (S.planS l) (.int .i64 (S.planE l)) w) := by
  obtain ⟨φ, nm, lm, ov, pv, h⟩ := h
  obtain ⟨va, vc, rfl⟩ := hv.shape
  obtain ⟨-, -, -, c3, -, -⟩ := h.cells
  have H := Lib.hid h
  have HV := Lib.hid (hv.mono (G := fun _ => True) (fun _ _ => trivial))
  have hlt := h.lt b h.own
  clear h hv
  by_cases hm : l.length ≤ 1024
  · have hmI : ¬ (1024 : Int) < (l.length : Int) := by omega
    go_enter Try.func22, Try.ntmps22
    go_wp2_with fail
    go_loopw [5, 19] (fun u i wr => ∃ (q : Nat) (k : Int), q ≤ l.length ∧ u = .int .i64 k ∧ i = .int .i64 q ∧ Hid (Pl.planOk S.steps l = Pl.planOk k (l.drop q)) ∧ Hid (Below w.heap.size w wr)) (fun _ i _ => l.length - (intOf i).toNat)
    case atStart => exact ⟨0, S.steps, Nat.zero_le _, rfl, rfl, by show _ = _; rw [List.drop_zero], Below.refl _ _⟩
    case round =>
      obtain ⟨q, k, hq, rfl, rfl, hk, hb⟩ := hrel
      by_cases hql : q < l.length
      · obtain ⟨p, hp⟩ : ∃ p, l[q]? = some p := ⟨_, List.getElem?_eq_getElem hql⟩
        obtain ⟨g, off, rfl, -, hg, p0, p1, p2⟩ := HV.out.at_ hp
        have d0 : wr.cell? ⟨g, off + q * 3, none⟩ = some (.int .i64 p.1) := (hb.out.cell (p := ⟨g, off + q * 3, none⟩) hg).trans p0
        have d1 : wr.cell? ⟨g, off + q * 3 + 1, none⟩ = some (.int .i64 p.2.1) := (hb.out.cell (p := ⟨g, off + q * 3 + 1, none⟩) hg).trans p1
        have d2 : wr.cell? ⟨g, off + q * 3 + 2, none⟩ = some (.int .i64 p.2.2) := (hb.out.cell (p := ⟨g, off + q * 3 + 2, none⟩) hg).trans p2
        have hqI : (q : Int) < (l.length : Int) := by omega
        have hq0 : (0 : Int) ≤ (q : Int) := by omega
        obtain ⟨n1, n2⟩ := planOk_drop (S := S) hp hk.out
        obtain ⟨x, y, z⟩ := p
        have HN := Lib.hid (And.intro n1 n2)
        have HB := Lib.hid (fun o => hb.out.alloc hb.out.size o)
        clear p0 p1 p2 hp n1 n2
        simp only at d0 d1 d2
        by_cases h1 : x ≤ k
        · have hf : ¬ fineF k (x, y, z) := fun h => by have := h.1; simp only at this; omega
          have HR := Lib.hid (show S.planE l = 54 ∧ S.planS l = S from by
            have hno := HN.out.2 hf
            exact ⟨by unfold Dk.planE; rw [if_neg (by simp [hno])], by unfold Dk.planS; rw [if_neg (by simp [hno])]⟩)
          clear hf
          go_wp2
          go_ret
          exact ⟨by rw [HR.out.1]; rfl, by rw [HR.out.2]; exact Leaves.same (H.out.below (HB.out _)).disk (Wr.of_below (HB.out _))⟩
        by_cases h2 : y < 1
        · have hf : ¬ fineF k (x, y, z) := fun h => by have := h.2.1; simp only at this; omega
          have HR := Lib.hid (show S.planE l = 54 ∧ S.planS l = S from by
            have hno := HN.out.2 hf
            exact ⟨by unfold Dk.planE; rw [if_neg (by simp [hno])], by unfold Dk.planS; rw [if_neg (by simp [hno])]⟩)
          clear hf
          go_wp2
          go_ret
          exact ⟨by rw [HR.out.1]; rfl, by rw [HR.out.2]; exact Leaves.same (H.out.below (HB.out _)).disk (Wr.of_below (HB.out _))⟩
        by_cases h3 : 3 < y
        · have hf : ¬ fineF k (x, y, z) := fun h => by have := h.2.2.1; simp only at this; omega
          have HR := Lib.hid (show S.planE l = 54 ∧ S.planS l = S from by
            have hno := HN.out.2 hf
            exact ⟨by unfold Dk.planE; rw [if_neg (by simp [hno])], by unfold Dk.planS; rw [if_neg (by simp [hno])]⟩)
          clear hf
          go_wp2
          go_ret
          exact ⟨by rw [HR.out.1]; rfl, by rw [HR.out.2]; exact Leaves.same (H.out.below (HB.out _)).disk (Wr.of_below (HB.out _))⟩
        by_cases h4 : z < 0
        · have hf : ¬ fineF k (x, y, z) := fun h => by have := h.2.2.2.1; simp only at this; omega
          have HR := Lib.hid (show S.planE l = 54 ∧ S.planS l = S from by
            have hno := HN.out.2 hf
            exact ⟨by unfold Dk.planE; rw [if_neg (by simp [hno])], by unfold Dk.planS; rw [if_neg (by simp [hno])]⟩)
          clear hf
          go_wp2
          go_ret
          exact ⟨by rw [HR.out.1]; rfl, by rw [HR.out.2]; exact Leaves.same (H.out.below (HB.out _)).disk (Wr.of_below (HB.out _))⟩
        by_cases h5 : 0 < z
        · by_cases h6 : y = 2
          · subst h6
            have hf : fineF k (x, 2, z) := ⟨by simp only; omega, by simp only; omega, by simp only; omega, by simp only; omega, .inr rfl⟩
            have HK := Lib.hid (HN.out.1 hf)
            clear hf
            go_wp2
            go_roundw
            case rel => exact ⟨q + 1, x, by omega, by go_num, by go_num, HK.out, HB.out _⟩
            case measure => simp [intOf]; omega
          · have hf : ¬ fineF k (x, y, z) := fun h => by have := h.2.2.2.2; simp only at this; omega
            have h6' : (y == 2) = false := by rw [beq_eq_false_iff_ne]; exact h6
            have HR := Lib.hid (show S.planE l = 54 ∧ S.planS l = S from by
              have hno := HN.out.2 hf
              exact ⟨by unfold Dk.planE; rw [if_neg (by simp [hno])], by unfold Dk.planS; rw [if_neg (by simp [hno])]⟩)
            clear hf
            go_wp2
            go_ret
            exact ⟨by rw [HR.out.1]; rfl, by rw [HR.out.2]; exact Leaves.same (H.out.below (HB.out _)).disk (Wr.of_below (HB.out _))⟩
        · have hf : fineF k (x, y, z) := ⟨by simp only; omega, by simp only; omega, by simp only; omega, by simp only; omega, .inl (by simp only; omega)⟩
          have HK := Lib.hid (HN.out.1 hf)
          clear hf
          go_wp2
          go_roundw
          case rel => exact ⟨q + 1, x, by omega, by go_num, by go_num, HK.out, HB.out _⟩
          case measure => simp [intOf]; omega
      · obtain rfl : q = l.length := by omega
        have HR := Lib.hid (show S.planE l = 0 ∧ S.planS l = { S with plan := l } from by
          have hyes : Pl.planOk S.steps l = true := by have := hk.out; rwa [List.drop_length] at this
          exact ⟨by unfold Dk.planE; rw [if_pos ⟨hm, hyes⟩], by unfold Dk.planS; rw [if_pos ⟨hm, hyes⟩]⟩)
        have HC := Lib.hid (clonef_any l _ wr (HV.out.same hb.out.size fun k cur fz _ hk => hb.out.block k (Array.getElem?_eq_some_iff.1 hk).1) hl)
        clear hk
        go_wp2_with fail
        (refine HC.out.mono ?_; rintro e w5 ⟨ca, cc, rfl, r5, b5⟩)
        have hd5 := (H.out.below hb.out).below b5
        obtain ⟨-, -, -, -, q4, -⟩ := hd5.cells
        have g4 := hd5.free 4
        have H5 := Lib.hid (And.intro (hd5.setPlan r5) (And.intro hd5.own (And.intro hb.out b5)))
        clear hd5 r5 b5
        go_wp2
        go_ret
        refine ⟨by rw [HR.out.1]; rfl, ?_⟩
        rw [HR.out.2]
        have hsz := H5.out.2.2.1.size
        exact ⟨_, ⟨φ, H5.out.1.disk⟩, fun k hk => Or.imp id (fun e => by omega) hk, ((Wr.of_below H5.out.2.2.1).trans (Wr.of_below H5.out.2.2.2) (Grew.refl _ _)).setCell (p := ⟨b, 4, none⟩) H5.out.2.1 _⟩
  · have HR := Lib.hid (show S.planE l = 54 ∧ S.planS l = S from ⟨by unfold Dk.planE; rw [if_neg (fun h => hm h.1)], by unfold Dk.planS; rw [if_neg (fun h => hm h.1)]⟩)
    have hmI : (1024 : Int) < (l.length : Int) := by omega
    go_enter Try.func22, Try.ntmps22
    go_wp2
    go_ret
    exact ⟨by rw [HR.out.1]; rfl, by rw [HR.out.2]; exact Leaves.same H.out.disk (Wr.refl _ _)⟩
end Go.Proofs.Ytbjlffhnkcbnmaa
