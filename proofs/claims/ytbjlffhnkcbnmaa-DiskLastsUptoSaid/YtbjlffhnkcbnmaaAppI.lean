/- A copy of a row of numbers. -/
import Derived.Test.YtbjlffhnkcbnmaaDsk12
import Derived.Test.YtbjlffhnkcbnmaaDsk11
namespace Go.Proofs.Ytbjlffhnkcbnmaa
open Go.ChangeShapes Go.WideShapes Go.ChangeAt Go.RowKit Go.Maps
set_option linter.unusedVariables false

theorem infoI : (Try.prog.info? 3).map (fun i => (i.zero, i.size, i.bytes)) = some (some (.int .i64 0), 1, 8) := by kernel_rfl
/-- A row of numbers of the call's own. -/
def ORow (w : World) (B : Nat) (v : Value) (l : List Int) : Prop := w.ownsRow B 3 1 v l.length (l.map (.int .i64))
theorem ORow.irow {w : World} {B : Nat} {v : Value} {l : List Int} (h : ORow w B v l) : IRow w (fun k => B ≤ k) v l := by
  have h0 := h
  rcases h.2 with ⟨h1, h2⟩ | ⟨g, cap, cur, rfl, h3, h4, _⟩
  · exact ⟨none, 0, by rw [h1, h2], .inl (List.eq_nil_of_length_eq_zero h2)⟩
  · refine ⟨_, cap, rfl, .inr ⟨g, 0, rfl, h3, (Array.getElem?_eq_some_iff.1 h4).1, fun j x hx => ?_⟩⟩
    have hj := (List.getElem?_eq_some_iff.1 hx).1
    rw [Nat.zero_add, World.ownsRow.cellAt h0 j (by omega)]
    simp [hx]
theorem ORow.empty {w : World} {B g : Nat} (h : w.heap[g]? = some (.cells #[] 3 (0, 0))) (hB : B ≤ g) : ORow w B (.slice (some ⟨g, 0, none⟩) 0 0) [] :=
  ⟨rfl, .inr ⟨g, 0, #[], rfl, hB, h, Nat.le_refl _, Nat.zero_le _, rfl, rfl⟩⟩
section
variable {P : Program} {o : Oper} {a : Act} {Q : Exit → Act → World → Prop} {K : Act → World → Prop}
/-- 'append([]int{}, l...)': a copy. -/
theorem wp_append_ints {w0 w : World} {F : Nat → Prop} (s x : Operand) (ho : o.op = .call { callee := .builtin .append, args := #[s, x], argTypes := #[22, 22] })
    (l : List Int) (v u : Value) (hs : a.eval s = v) (hx : a.eval x = u) (hM : ORow w w0.heap.size v []) (hu : IRow w F u l) (hb : Below w0.heap.size w0 w) (hn : l.length ≤ 4194304)
    (h : ∀ v' w', ORow w' w0.heap.size v' l → Below w0.heap.size w0 w' → K (a.put o.dst v') w') : o.wp Try.prog a w K Q := by
  obtain ⟨i, hi, hz, hsz, hby⟩ := info_parts infoI
  obtain ⟨ao, cp, rfl, hh⟩ := hu
  have out : ∀ v' w', w'.ownsRow w0.heap.size 3 1 v' (0 + l.length) ([] ++ l.map (.int .i64)) → w.grownBy w' v.ownBlock → K (a.put o.dst v') w' := fun v' w' hown hg =>
    h v' w' (by have := hown; rwa [Nat.zero_add, List.nil_append] at this) (hb.grown hg hb.size fun k hk => (hM.lt k hk).1)
  have some_case : ∀ ad : Addr, ao = some ad → (∀ j u, (l.map (Value.int .i64))[j]? = some u → w.cell? (ad.add j) = some u) → o.wp Try.prog a w K Q := fun ad e hc => by
    subst e
    exact wp_append_own w s x _ ho w0.heap.size 3 i _ 1 8 Try.underlying22 hi hz hsz hby rfl (by omega) v 0 [] hs hM ad l.length cp (l.map (.int .i64)) hx (by simp) hc (by
      intro u hu
      obtain ⟨p, _, rfl⟩ := List.mem_map.1 hu
      rfl) (by unfold maxLen; omega) (by omega) hb.size fun v' w' h2 h3 _ => out v' w' h2 h3
  rcases hh with rfl | ⟨g, off, rfl, _, hg, hc⟩
  · rcases ao with _ | ad
    · have hrun := run_append_nilf (P := Try.prog) (w := w) w0.heap.size 22 o.type 3 i 1 cp Try.underlying22 hi v 0 [] hM
      have hk := h v w hM hb
      unfold Oper.wp
      simp [execOp, ho, resolve, invoke, builtin, hs, hx, hrun, Result.andThen]
      exact hk
    · exact some_case ad rfl (by simp)
  · refine some_case _ rfl fun j u hu => ?_
    obtain ⟨x, hx2, rfl⟩ : ∃ x, l[j]? = some x ∧ Value.int .i64 x = u := by simpa using hu
    rw [add_plain]
    exact hc j x hx2
theorem step_append_ints {w0 w : World} {F : Nat → Prop} {ops : Array Oper} {E : Prop} (hgd : o.guard = none) (s x : Operand) (ho : o.op = .call { callee := .builtin .append, args := #[s, x], argTypes := #[22, 22] })
    (l : List Int) (v u : Value) (hs : a.eval s = v) (hx : a.eval x = u) (hM : ORow w w0.heap.size v []) (hu : IRow w F u l) (hb : Below w0.heap.size w0 w) (hn : l.length ≤ 4194304)
    (h : ∀ v' w', ORow w' w0.heap.size v' l → Below w0.heap.size w0 w' → K (a.put o.dst v') w') :
    if Region.wanted o (yielded ops a.tmps) = true then Oper.wp Try.prog o a w K Q else E := by
  have hw : Region.wanted o (yielded ops a.tmps) = true := by simp [Region.wanted, hgd]
  rw [if_pos hw]
  exact wp_append_ints s x ho l v u hs hx hM hu hb hn h
end
end Go.Proofs.Ytbjlffhnkcbnmaa
