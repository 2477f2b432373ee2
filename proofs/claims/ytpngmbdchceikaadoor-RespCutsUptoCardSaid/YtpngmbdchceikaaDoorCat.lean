/- append of a whole row of replies. -/
import Derived.Test.YtpngmbdchceikaaDoorGrow
import Derived.Laws.OwnMore
namespace Go.Proofs.YtpngmbdchceikaaDoor
open Go.ChangeShapes Go.WideShapes Go.ChangeAt Go.RowKit
open Pl (R)
set_option linter.unusedVariables false

theorem cellsR_app (ps qs : List (R × Value)) : cellsR (ps ++ qs) = cellsR ps ++ cellsR qs := by simp [cellsR]
theorem cellsR_one {ps : List (R × Value)} (h : ∀ p ∈ ps, p.2.oneCell' = true) : ∀ u ∈ cellsR ps, u.oneCell' = true := by
  intro u hu
  simp only [cellsR, List.mem_flatMap] at hu
  obtain ⟨p, hp, hu⟩ := hu
  simp only [List.mem_cons, List.not_mem_nil, or_false] at hu
  rcases hu with rfl | rfl | rfl | rfl
  · rfl
  · rfl
  · rfl
  · exact h p hp
/-- Many replies more. -/
theorem RRow.pushes {base b2 : Nat} {w w' : World} {v v' : Value} {ps qs : List (R × Value)} (hp : ∀ p ∈ ps, OkR p.1 ∧ LIs (fun b => base ≤ b ∧ v.ownBlock ≠ some b) w p.2 p.1.l)
    (hq : ∀ p ∈ qs, OkR p.1 ∧ LIs (fun b => b2 ≤ b) w p.2 p.1.l) (hF : ∀ b, b2 ≤ b → base ≤ b ∧ v.ownBlock ≠ some b)
    (hown : w'.ownsRow base 24 4 v' (ps.length + qs.length) (cellsR ps ++ cellsR qs))
    (hz : w.heap.size ≤ w'.heap.size) (hk : ∀ b, b < w.heap.size → some b ≠ v.ownBlock → w'.heap[b]? = w.heap[b]?)
    (hat : v'.ownBlock = v.ownBlock ∨ ∃ m, v'.ownBlock = some m ∧ w.heap.size ≤ m) : RRow base w' v' (ps.map Prod.fst ++ qs.map Prod.fst) := by
  have hkey : ∀ {F' : Nat → Prop} {u : Value} {l : List R}, LIs F' w u l → (∀ b, F' b → base ≤ b ∧ v.ownBlock ≠ some b) → LIs (fun b => base ≤ b ∧ v'.ownBlock ≠ some b) w' u l := fun hl hf => by
    refine ((hl.lt.mono (F' := fun b => base ≤ b ∧ v.ownBlock ≠ some b ∧ b < w.heap.size) fun b hb => ⟨(hf b hb.1).1, (hf b hb.1).2, hb.2⟩).kept hz fun b hb hlt => hk b hlt fun e => hb.2.1 e.symm).mono fun b hb => ⟨hb.1, ?_⟩
    rcases hat with e | ⟨m, e, hm⟩
    · rw [e]; exact hb.2.1
    · rw [e]; intro e2; cases e2; omega
  refine ⟨ps ++ qs, by simp, by rw [List.length_append, List.length_map, List.length_map, cellsR_app]; exact hown, fun p hm => ?_⟩
  rcases List.mem_append.1 hm with h1 | h1
  · exact ⟨(hp p h1).1, hkey (hp p h1).2 fun b hb => hb⟩
  · exact ⟨(hq p h1).1, hkey (hq p h1).2 hF⟩
section
variable {rest : List Oper} {ops : Array Oper} {o : Oper} {a : Act} {K : Act → World → Prop} {Q : Exit → Act → World → Prop}
/-- 'out = append(out, l...)', both rows of replies. -/
theorem wp_append_rows (w : World) (s x : Operand) (ho : o.op = .call { callee := .builtin .append, args := #[s, x], argTypes := #[22, 22] })
    (base : Nat) (v : Value) (l : List R) (hs : a.eval s = v) (hrow : RRow base w v l)
    (b2 : Nat) (u : Value) (l2 : List R) (hx : a.eval x = u) (hrow2 : RRow b2 w u l2) (hF : ∀ b, b2 ≤ b → base ≤ b ∧ v.ownBlock ≠ some b)
    (hlen : l.length + l2.length ≤ 2147483647) (hbase : base ≤ w.heap.size)
    (h : ∀ v' w', RRow base w' v' (l ++ l2) → (∀ (W : World) (B : Nat), Below B W w → B ≤ base → Below B W w') → w.heap.size ≤ w'.heap.size → (∀ b, b < w.heap.size → some b ≠ v.ownBlock → w'.heap[b]? = w.heap[b]?) → K (a.put o.dst v') w') :
    o.wp Tryd.prog a w K Q := by
  obtain ⟨i, hi, hz, hsz, hby⟩ := info_parts infoR
  obtain ⟨ps, rfl, hown, hp⟩ := hrow
  obtain ⟨qs, rfl, hown2, hq⟩ := hrow2
  rcases hown2.2 with ⟨h1, h2⟩ | ⟨g, cap, cur, h1, _⟩
  · have hq0 : qs = [] := List.eq_nil_of_length_eq_zero (by simpa using h2)
    subst hq0
    subst h1
    have hr := run_append_owned_none (P := Tryd.prog) (w := w) base 22 o.type 24 i 4 Tryd.underlying22 hi v _ _ hown
    unfold Oper.wp execOp
    simp only [ho, resolve, invoke, builtin, Sem.run_bind, Sem.run_pure, Result.andThen_ok, List.map_toArray, List.map_cons, List.map_nil, hs, hx, hr]
    exact h v w (by simp only [List.map_nil, List.append_nil]; exact ⟨ps, rfl, hown, hp⟩) (fun W B hb _ => hb) (Nat.le_refl _) fun _ _ _ => rfl
  · subst h1
    have hadd : ∀ j, (⟨g, 0, none⟩ : Addr).add j = ⟨g, j, none⟩ := fun j => by unfold Addr.add; split <;> simp_all
    have hone : ∀ p ∈ qs, p.2.oneCell' = true := fun p hm => by
      obtain ⟨a', c', e⟩ := (hq p hm).2.shape
      rw [e]; rfl
    have hcl : (cellsR qs).length = qs.length * 4 := cellsR_length qs
    obtain ⟨v', w', hr, h2, h3, h4, h5⟩ := run_append_own_at (P := Tryd.prog) w base 22 o.type 24 i _ 4 56 Tryd.underlying22 hi hz hsz hby rfl (by omega) v _ _ hown ⟨g, 0, none⟩ (qs.map Prod.fst).length cap (cellsR qs) (by rw [List.length_map]; exact hcl)
      (fun j y hj => by
        rw [hadd]
        have hj2 : j < (cellsR qs).length := (List.getElem?_eq_some_iff.1 hj).1
        rw [World.ownsRow.cellAt hown2 j (by rw [List.length_map]; omega)]
        exact hj) (cellsR_one hone) (by unfold maxLen; omega) (by omega) (by omega)
    rw [List.length_map, List.length_map] at h2
    have hrow' : RRow base w' v' (ps.map Prod.fst ++ qs.map Prod.fst) := by
      refine RRow.pushes (b2 := b2) hp (fun p hm => ⟨(hq p hm).1, (hq p hm).2.mono fun b hb => hb.1⟩) hF h2 h3.size h3.block ?_
      rcases h5 with e | e
      · exact .inl e
      · exact .inr ⟨_, e, Nat.le_refl _⟩
    unfold Oper.wp execOp
    simp only [ho, resolve, invoke, builtin, Sem.run_bind, Sem.run_pure, Result.andThen_ok, List.map_toArray, List.map_cons, List.map_nil, hs, hx, hr]
    refine h v' w' hrow' (fun W B hb hB => hb.grown h3 ?_ fun k hk => ?_) h3.size h3.block
    · omega
    · have := (hown.lt k hk).1; omega
theorem wpList_append_rows (w : World) (hgd : o.guard = none) (s x : Operand) (ho : o.op = .call { callee := .builtin .append, args := #[s, x], argTypes := #[22, 22] })
    (base : Nat) (v : Value) (l : List R) (hs : a.eval s = v) (hrow : RRow base w v l)
    (b2 : Nat) (u : Value) (l2 : List R) (hx : a.eval x = u) (hrow2 : RRow b2 w u l2) (hF : ∀ b, b2 ≤ b → base ≤ b ∧ v.ownBlock ≠ some b)
    (hlen : l.length + l2.length ≤ 2147483647) (hbase : base ≤ w.heap.size)
    (h : ∀ v' w', RRow base w' v' (l ++ l2) → (∀ (W : World) (B : Nat), Below B W w → B ≤ base → Below B W w') → w.heap.size ≤ w'.heap.size → (∀ b, b < w.heap.size → some b ≠ v.ownBlock → w'.heap[b]? = w.heap[b]?) → wpList Tryd.prog ops Q rest (a.put o.dst v') w') :
    wpList Tryd.prog ops Q (o :: rest) a w :=
  wpList_plain hgd fun _ hK => wp_append_rows w s x ho base v l hs hrow b2 u l2 hx hrow2 hF hlen hbase fun v' w' a1 a2 a3 a4 => hK _ _ (h v' w' a1 a2 a3 a4)
end
end Go.Proofs.YtpngmbdchceikaaDoor
