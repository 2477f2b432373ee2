/- The document's disk: Set. -/
import Derived.Test.YtbjlffhnkcbnmaaRef10
import Derived.Test.YtbjlffhnkcbnmaaRef8
import Derived.Test.YtbjlffhnkcbnmaaDsk11
namespace Go.Proofs.Ytbjlffhnkcbnmaa
open Go.ChangeShapes Go.WideShapes Go.ChangeAt Go.RowKit Pl
set_option linter.unusedVariables false

/-- A row of faults among the arguments. -/
def QRow (w : World) (F : Nat → Prop) (v : Value) (l : List Flt) : Prop :=
  ∃ ao cp, v = .slice ao l.length cp ∧ (l = [] ∨ ∃ g off, ao = some ⟨g, off, none⟩ ∧ F g ∧ g < w.heap.size ∧ ∀ (j : Nat) p, l[j]? = some p → w.cell? ⟨g, off + j * 3, none⟩ = some (.int .i64 p.1) ∧ w.cell? ⟨g, off + j * 3 + 1, none⟩ = some (.int .i64 p.2.1) ∧ w.cell? ⟨g, off + j * 3 + 2, none⟩ = some (.int .i64 p.2.2))
namespace QRow
variable {w w' : World} {F G : Nat → Prop} {v : Value} {l : List Flt}
theorem shape (h : QRow w F v l) : ∃ ao cp, v = .slice ao l.length cp := by obtain ⟨ao, cp, e, _⟩ := h; exact ⟨ao, cp, e⟩
theorem kept (h : QRow w F v l) (hw : Wr G w w') (hFG : ∀ k, F k → ¬ G k) : QRow w' F v l := by
  obtain ⟨ao, cp, e, h⟩ := h
  refine ⟨ao, cp, e, h.imp id ?_⟩
  rintro ⟨g, off, h1, hF, hg, hc⟩
  have he := hw.block g hg (hFG g hF)
  refine ⟨g, off, h1, hF, Nat.lt_of_lt_of_le hg hw.size, fun j p hp => ?_⟩
  have hcell : ∀ o, w'.cell? ⟨g, o, none⟩ = w.cell? ⟨g, o, none⟩ := fun o => World.cell?_of_block he
  obtain ⟨c0, c1, c2⟩ := hc j p hp
  exact ⟨(hcell _).trans c0, (hcell _).trans c1, (hcell _).trans c2⟩
theorem below (h : QRow w F v l) (hw : Below w.heap.size w w') : QRow w' F v l := h.kept (G := fun _ => False) (Wr.of_below hw) (fun _ _ h => h)
theorem mono (h : QRow w F v l) (hFG : ∀ k, F k → G k) : QRow w G v l := by
  obtain ⟨ao, cp, e, h⟩ := h
  refine ⟨ao, cp, e, h.imp id ?_⟩
  rintro ⟨g, off, h1, hF, r⟩
  exact ⟨g, off, h1, hFG g hF, r⟩
theorem at_ {ao : Option Addr} {n cp : Nat} (h : QRow w F (.slice ao n cp) l) {j : Nat} {p : Flt} (hp : l[j]? = some p) :
    ∃ g off, ao = some ⟨g, off, none⟩ ∧ F g ∧ g < w.heap.size ∧ w.cell? ⟨g, off + j * 3, none⟩ = some (.int .i64 p.1) ∧ w.cell? ⟨g, off + j * 3 + 1, none⟩ = some (.int .i64 p.2.1) ∧ w.cell? ⟨g, off + j * 3 + 2, none⟩ = some (.int .i64 p.2.2) := by
  obtain ⟨a, c, e, h⟩ := h
  cases e
  rcases h with h | ⟨g, off, rfl, hF, hg, hc⟩
  · rw [h] at hp; simp at hp
  · obtain ⟨c0, c1, c2⟩ := hc j p hp
    exact ⟨g, off, rfl, hF, hg, c0, c1, c2⟩
end QRow
theorem FRow.qrow {w : World} {B : Nat} {v : Value} {l : List Flt} (h : FRow w B v l) : QRow w (fun k => B ≤ k) v l := by
  obtain ⟨ao, cp, e, h⟩ := h.prow
  exact ⟨ao, cp, e, h.imp id fun ⟨g, off, h1, hF, hg, _, r⟩ => ⟨g, off, h1, hF, hg, r⟩⟩
section
variable {P : Program} {o : Oper} {a : Act} {Q : Exit → Act → World → Prop} {K : Act → World → Prop}
/-- 'append([]F{}, l...)': a copy. -/
theorem wp_append_q {w0 w : World} {F : Nat → Prop} (s x : Operand) (ho : o.op = .call { callee := .builtin .append, args := #[s, x], argTypes := #[40, 40] })
    (l : List Flt) (v u : Value) (hs : a.eval s = v) (hx : a.eval x = u) (hM : FRow w w0.heap.size v []) (hu : QRow w F u l) (hb : Below w0.heap.size w0 w) (hn : l.length ≤ 4194304)
    (h : ∀ v' w', FRow w' w0.heap.size v' l → Below w0.heap.size w0 w' → K (a.put o.dst v') w') : o.wp Try.prog a w K Q := by
  obtain ⟨i, hi, hz, hsz, hby⟩ := info_parts infoF
  obtain ⟨ao, cp, rfl, hh⟩ := hu
  have out : ∀ v' w', w'.ownsRow w0.heap.size 58 3 v' (0 + l.length) ([] ++ l.flatMap flCells) → w.grownBy w' v.ownBlock → K (a.put o.dst v') w' := fun v' w' hown hg =>
    h v' w' (by have := hown; rwa [Nat.zero_add, List.nil_append] at this) (hb.grown hg hb.size fun k hk => (hM.lt k hk).1)
  have some_case : ∀ ad : Addr, ao = some ad → (∀ j u, (l.flatMap flCells)[j]? = some u → w.cell? (ad.add j) = some u) → o.wp Try.prog a w K Q := fun ad e hc => by
    subst e
    exact wp_append_own w s x _ ho w0.heap.size 58 i _ 3 24 Try.underlying40 hi hz hsz hby rfl (by omega) v 0 [] hs hM ad l.length cp (l.flatMap flCells) hx (fl_len l) hc (by
      intro u hu
      obtain ⟨p, _, hp⟩ := List.mem_flatMap.1 hu
      simp [flCells] at hp
      rcases hp with rfl | rfl | rfl <;> rfl) (by unfold maxLen; omega) (by omega) hb.size fun v' w' h2 h3 _ => out v' w' h2 h3
  rcases hh with rfl | ⟨g, off, rfl, _, hg, hc⟩
  · rcases ao with _ | ad
    · have hrun := run_append_nilf (P := Try.prog) (w := w) w0.heap.size 40 o.type 58 i 3 cp Try.underlying40 hi v 0 [] hM
      have hk := h v w hM hb
      unfold Oper.wp
      simp [execOp, ho, resolve, invoke, builtin, hs, hx, hrun, Result.andThen]
      exact hk
    · exact some_case ad rfl (by simp)
  · refine some_case _ rfl fun j u hu => ?_
    have hj := (List.getElem?_eq_some_iff.1 hu).1
    rw [fl_len] at hj
    obtain ⟨p, hp⟩ : ∃ p, l[j / 3]? = some p := ⟨_, List.getElem?_eq_getElem (by omega)⟩
    obtain ⟨c0, c1, c2⟩ := hc _ p hp
    obtain ⟨d0, d1, d2⟩ := fl_get hp
    rw [add_plain]
    have hm : j % 3 < 3 := Nat.mod_lt _ (by omega)
    rcases hmod : j % 3 with _ | _ | _ | k
    · rw [show j / 3 * 3 = j by omega] at c0 d0
      rw [d0] at hu; rw [c0, hu]
    · rw [show j / 3 * 3 + 1 = j by omega] at d1
      rw [show off + j / 3 * 3 + 1 = off + j by omega] at c1
      rw [d1] at hu; rw [c1, hu]
    · rw [show j / 3 * 3 + 2 = j by omega] at d2
      rw [show off + j / 3 * 3 + 2 = off + j by omega] at c2
      rw [d2] at hu; rw [c2, hu]
    · omega
theorem wpList_append_q {w0 w : World} {F : Nat → Prop} {ops : Array Oper} {rest : List Oper} (hgd : o.guard = none) (s x : Operand) (ho : o.op = .call { callee := .builtin .append, args := #[s, x], argTypes := #[40, 40] })
    (l : List Flt) (v u : Value) (hs : a.eval s = v) (hx : a.eval x = u) (hM : FRow w w0.heap.size v []) (hu : QRow w F u l) (hb : Below w0.heap.size w0 w) (hn : l.length ≤ 4194304)
    (h : ∀ v' w', FRow w' w0.heap.size v' l → Below w0.heap.size w0 w' → wpList Try.prog ops Q rest (a.put o.dst v') w') : wpList Try.prog ops Q (o :: rest) a w :=
  wpList_plain hgd fun _ hK => wp_append_q s x ho l v u hs hx hM hu hb hn fun v' w' h1 h2 => hK _ _ (h v' w' h1 h2)
end
/-- The plan's cell is written. -/
theorem RDiskAt.setPlan {w : World} {b : Nat} {F : Nat → Prop} {S : Dk} {fv nv lv ov pv : Value} (h : RDiskAt w b F S fv nv lv ov pv) {v : Value} {l : List Flt} {lo : Nat} (hv : PRow w (fun k => lo ≤ k ∧ k < w.heap.size) v l) :
    RDiskAt (w.setCell ⟨b, 4, none⟩ v) b (fun k => F k ∨ (lo ≤ k ∧ k < w.heap.size)) { S with plan := l } fv nv lv ov v := by
  have ho : ∀ k, k ≠ b → (w.setCell ⟨b, 4, none⟩ v).heap[k]? = w.heap[k]? := fun k hk => Below.heap_setCell _ _ _ _ hk
  have hs : (w.setCell ⟨b, 4, none⟩ v).heap.size = w.heap.size := heap_setCell_size _ _ _
  exact {
    lt := fun k hk => by rw [hs]; rcases hk with hk | hk; exact h.lt k hk; exact hk.2
    own := .inl h.own
    block := heap_setCell_same h.block
    files := (h.files.kept_by fun k cur hk => ho k (h.notb (by decide) hk)).mono fun k hk => .inl hk
    names := (RowC.kept_by h.names fun k cur hk => ho k (h.notb (by decide) hk)).mono fun k hk => .inl hk
    last := (RowC.kept_by h.last fun k cur hk => ho k (h.notb (by decide) hk)).mono fun k hk => .inl hk
    opn := (h.opn.kept_by fun k cur hk => ho k (h.notb (by decide) hk)).mono fun k hk => .inl hk
    plan := (hv.same (by rw [hs]; exact Nat.le_refl _) fun k cur fz _ hk => ho k (h.notb (by decide) hk)).mono fun k hk => .inr hk }
set_option maxRecDepth 100000 in
set_option maxHeartbeats 3200000 in
theorem refSet_any {w : World} {b j : Nat} {F G : Nat → Prop} {S : Dk} (h : RDisk w b F S) (hS : S.Small j) (hj : j ≤ 4194304) (v : Value) (l : List Flt) (hv : QRow w G v l) (hl : l.length ≤ 4194304) :
    Calls Try.prog 23 #[.pointer (some ⟨b, 0, none⟩), v] w (ROpEnd b F (S.planS l) (.int .i64 (S.planE l)) w) := by
  obtain ⟨fv, nv, lv, ov, pv, h⟩ := h
  obtain ⟨va, vc, rfl⟩ := hv.shape
  obtain ⟨-, -, -, -, c4, c5, -⟩ := h.cells
  have f4 := h.free 4
  have H := Lib.hid h
  have HV := Lib.hid (hv.mono (G := fun _ => True) (fun _ _ => trivial))
  have hlt := h.lt b h.own
  have hst := hS.steps
  clear h hv
  by_cases hm : l.length ≤ 1024
  · have hmI : ¬ (1024 : Int) < (l.length : Int) := by omega
    go_enter Try.func23, Try.ntmps23
    go_wp2_with fail
    go_loop [5, 6] (fun u i => ∃ (q : Nat) (k : Int), q ≤ l.length ∧ u = .int .i64 k ∧ i = .int .i64 q ∧ Hid (Pl.planOk S.steps l = Pl.planOk k (l.drop q))) (fun _ i => l.length - (intOf i).toNat)
    case atStart => exact ⟨0, S.steps, Nat.zero_le _, rfl, rfl, by show _ = _; rw [List.drop_zero]⟩
    case round =>
      obtain ⟨q, k, hq, rfl, rfl, hk⟩ := hrel
      by_cases hql : q < l.length
      · obtain ⟨p, hp⟩ : ∃ p, l[q]? = some p := ⟨_, List.getElem?_eq_getElem hql⟩
        obtain ⟨g, off, rfl, -, hg, d0, d1, d2⟩ := HV.out.at_ hp
        have hqI : (q : Int) < (l.length : Int) := by omega
        have hq0 : (0 : Int) ≤ (q : Int) := by omega
        obtain ⟨n1, n2⟩ := planOk_drop (S := S) hp hk.out
        obtain ⟨x, y, z⟩ := p
        have HN := Lib.hid (And.intro n1 n2)
        clear hp n1 n2
        simp only at d0 d1 d2
        by_cases h1 : x ≤ k
        · have hf : ¬ fineF k (x, y, z) := fun h => by have := h.1; simp only at this; omega
          have HR := Lib.hid (show S.planE l = 54 ∧ S.planS l = S from by
            have hno := HN.out.2 hf
            exact ⟨by unfold Dk.planE; rw [if_neg (by simp [hno])], by unfold Dk.planS; rw [if_neg (by simp [hno])]⟩)
          clear hf
          go_wp2
          go_ret
          exact ⟨by rw [HR.out.1]; rfl, F, by rw [HR.out.2]; exact H.out.disk, Grew.refl _ _, Wr.refl _ _⟩
        by_cases h2 : y < 1
        · have hf : ¬ fineF k (x, y, z) := fun h => by have := h.2.1; simp only at this; omega
          have HR := Lib.hid (show S.planE l = 54 ∧ S.planS l = S from by
            have hno := HN.out.2 hf
            exact ⟨by unfold Dk.planE; rw [if_neg (by simp [hno])], by unfold Dk.planS; rw [if_neg (by simp [hno])]⟩)
          clear hf
          go_wp2
          go_ret
          exact ⟨by rw [HR.out.1]; rfl, F, by rw [HR.out.2]; exact H.out.disk, Grew.refl _ _, Wr.refl _ _⟩
        by_cases h3 : 3 < y
        · have hf : ¬ fineF k (x, y, z) := fun h => by have := h.2.2.1; simp only at this; omega
          have HR := Lib.hid (show S.planE l = 54 ∧ S.planS l = S from by
            have hno := HN.out.2 hf
            exact ⟨by unfold Dk.planE; rw [if_neg (by simp [hno])], by unfold Dk.planS; rw [if_neg (by simp [hno])]⟩)
          clear hf
          go_wp2
          go_ret
          exact ⟨by rw [HR.out.1]; rfl, F, by rw [HR.out.2]; exact H.out.disk, Grew.refl _ _, Wr.refl _ _⟩
        by_cases h4 : z < 0
        · have hf : ¬ fineF k (x, y, z) := fun h => by have := h.2.2.2.1; simp only at this; omega
          have HR := Lib.hid (show S.planE l = 54 ∧ S.planS l = S from by
            have hno := HN.out.2 hf
            exact ⟨by unfold Dk.planE; rw [if_neg (by simp [hno])], by unfold Dk.planS; rw [if_neg (by simp [hno])]⟩)
          clear hf
          go_wp2
          go_ret
          exact ⟨by rw [HR.out.1]; rfl, F, by rw [HR.out.2]; exact H.out.disk, Grew.refl _ _, Wr.refl _ _⟩
        by_cases h5 : 0 < z
        · by_cases h6 : y = 2
          · subst h6
            have hf : fineF k (x, 2, z) := ⟨by simp only; omega, by simp only; omega, by simp only; omega, by simp only; omega, .inr rfl⟩
            have HK := Lib.hid (HN.out.1 hf)
            clear hf
            go_wp2
            go_round
            case rel => exact ⟨q + 1, x, by omega, by go_num, by go_num, HK.out⟩
            case measure => simp [intOf]; omega
          · have hf : ¬ fineF k (x, y, z) := fun h => by have := h.2.2.2.2; simp only at this; omega
            have h6' : (y == 2) = false := by rw [beq_eq_false_iff_ne]; exact h6
            have HR := Lib.hid (show S.planE l = 54 ∧ S.planS l = S from by
              have hno := HN.out.2 hf
              exact ⟨by unfold Dk.planE; rw [if_neg (by simp [hno])], by unfold Dk.planS; rw [if_neg (by simp [hno])]⟩)
            clear hf
            go_wp2
            go_ret
            exact ⟨by rw [HR.out.1]; rfl, F, by rw [HR.out.2]; exact H.out.disk, Grew.refl _ _, Wr.refl _ _⟩
        · have hf : fineF k (x, y, z) := ⟨by simp only; omega, by simp only; omega, by simp only; omega, by simp only; omega, .inl (by simp only; omega)⟩
          have HK := Lib.hid (HN.out.1 hf)
          clear hf
          go_wp2
          go_round
          case rel => exact ⟨q + 1, x, by omega, by go_num, by go_num, HK.out⟩
          case measure => simp [intOf]; omega
      · obtain rfl : q = l.length := by omega
        have HR := Lib.hid (show S.planE l = 0 ∧ S.planS l = { S with plan := l } from by
          have hyes : Pl.planOk S.steps l = true := by have := hk.out; rwa [List.drop_length] at this
          exact ⟨by unfold Dk.planE; rw [if_pos ⟨hm, hyes⟩], by unfold Dk.planS; rw [if_pos ⟨hm, hyes⟩]⟩)
        have H2 := Lib.hid (HV.out.below ((Below.refl w.heap.size w).alloc (Nat.le_refl _) (.cells #[] 58)))
        have H3 := Lib.hid (FRow.empty (B := w.heap.size) (heap_alloc_new w (.cells #[] 58)) (Nat.le_refl _))
        have H4 := Lib.hid ((Below.refl w.heap.size w).alloc (Nat.le_refl _) (.cells #[] 58))
        clear hk
        go_wp2_with (at_builtin; refine wpList_append_q (w0 := w) rfl (.tmp 73) (.tmp 74) rfl l _ _ rfl rfl H3.out H2.out H4.out hl ?_; intro v' w' m' b'; obtain ⟨ca, cc, rfl⟩ := m'.shape; have hd5 := H.out.below b'; obtain ⟨-, -, -, -, q4, -, -⟩ := hd5.cells; have g4 := hd5.free 4; have H5 := Lib.hid (And.intro (hd5.setPlan m'.prow.bounded) (And.intro hd5.own b')); clear hd5 m' b')
        go_ret
        refine ⟨by rw [HR.out.1]; rfl, ?_⟩
        rw [HR.out.2]
        exact ⟨_, H5.out.1.disk, fun k hk => Or.imp id (fun e => e.1) hk, (Wr.of_below H5.out.2.2).setCell (p := ⟨b, 4, none⟩) H5.out.2.1 _⟩
  · have HR := Lib.hid (show S.planE l = 54 ∧ S.planS l = S from ⟨by unfold Dk.planE; rw [if_neg (fun h => hm h.1)], by unfold Dk.planS; rw [if_neg (fun h => hm h.1)]⟩)
    have hmI : (1024 : Int) < (l.length : Int) := by omega
    go_enter Try.func23, Try.ntmps23
    go_wp2
    go_ret
    exact ⟨by rw [HR.out.1]; rfl, F, by rw [HR.out.2]; exact H.out.disk, Grew.refl _ _, Wr.refl _ _⟩
end Go.Proofs.Ytbjlffhnkcbnmaa
