/- Rows of replies that grow. -/
import Derived.Test.YtpngmbdchceikaaDoorSame
import Derived.Maps.AppendAt
namespace Go.Proofs.YtpngmbdchceikaaDoor
open Go.ChangeShapes Go.WideShapes Go.ChangeAt Go.RowKit
open Pl (R)
set_option linter.unusedVariables false

theorem LIs.lt {F : Nat → Prop} {w : World} {v : Value} {l : List R} (h : LIs F w v l) : LIs (fun b => F b ∧ b < w.heap.size) w v l := by
  induction h with
  | nil ao cp => exact .nil ao cp
  | row g off cp l lv hF hg hc hl ih => exact .row g off cp l lv ⟨hF, hg⟩ hg hc ih
/-- The cells of replies, one behind the other. -/
def cellsR (ps : List (R × Value)) : List Value := ps.flatMap fun p => [.int .i64 p.1.k, .string (str p.1.t), .int .i64 p.1.n, p.2]
theorem cellsR_length (ps : List (R × Value)) : (cellsR ps).length = ps.length * 4 := by
  induction ps with
  | nil => rfl
  | cons g l ih => simp only [cellsR, List.flatMap_cons, List.length_append, List.length_cons, List.length_nil] at ih ⊢; omega
theorem cellsR_snoc (ps : List (R × Value)) (r : R) (lv : Value) : cellsR (ps ++ [(r, lv)]) = cellsR ps ++ [.int .i64 r.k, .string (str r.t), .int .i64 r.n, lv] := by simp [cellsR]
theorem cellsR_get (ps : List (R × Value)) {j : Nat} {p : R × Value} (h : ps[j]? = some p) : (cellsR ps)[j * 4]? = some (.int .i64 p.1.k) ∧ (cellsR ps)[j * 4 + 1]? = some (.string (str p.1.t)) ∧ (cellsR ps)[j * 4 + 2]? = some (.int .i64 p.1.n) ∧ (cellsR ps)[j * 4 + 3]? = some p.2 := by
  induction ps generalizing j with
  | nil => cases h
  | cons q ps ih =>
    cases j with
    | zero => cases h; exact ⟨rfl, rfl, rfl, rfl⟩
    | succ j =>
      have e : ∀ i, (cellsR (q :: ps))[(j + 1) * 4 + i]? = (cellsR ps)[j * 4 + i]? := fun i => by
        have e1 : cellsR (q :: ps) = [.int .i64 q.1.k, .string (str q.1.t), .int .i64 q.1.n, q.2] ++ cellsR ps := by simp [cellsR]
        rw [e1, List.getElem?_append_right (by simp; omega)]
        congr 1; simp; omega
      obtain ⟨a0, a1, a2, a3⟩ := ih (j := j) (by simpa using h)
      exact ⟨(e 0).trans a0, (e 1).trans a1, (e 2).trans a2, (e 3).trans a3⟩

/-- A row of replies in a block of its own, all memory from a place on. -/
def RRow (base : Nat) (w : World) (v : Value) (l : List R) : Prop :=
  ∃ ps : List (R × Value), ps.map Prod.fst = l ∧ w.ownsRow base 24 4 v l.length (cellsR ps) ∧ ∀ p ∈ ps, OkR p.1 ∧ LIs (fun b => base ≤ b ∧ v.ownBlock ≠ some b) w p.2 p.1.l
theorem RRow.nil (base : Nat) (w : World) : RRow base w (.slice none 0 0) [] := ⟨[], rfl, World.ownsRow_nil _ _ _ _, fun _ h => by cases h⟩
theorem RRow.shape {base : Nat} {w : World} {v : Value} {l : List R} (h : RRow base w v l) : ∃ ao cp, v = .slice ao l.length cp := by
  obtain ⟨ps, _, h, _⟩ := h
  rcases h.2 with ⟨h1, h2⟩ | ⟨g, cap, cur, h1, _⟩
  · exact ⟨none, 0, by rw [h1, h2]⟩
  · exact ⟨_, _, h1⟩
theorem RRow.own {base : Nat} {w : World} {v : Value} {l : List R} (h : RRow base w v l) : ∀ k, v.ownBlock = some k → base ≤ k ∧ k < w.heap.size := by
  obtain ⟨ps, _, h, _⟩ := h
  exact h.lt
/-- As a reply's list. -/
theorem RRow.lis {base : Nat} {w : World} {v : Value} {l : List R} (h : RRow base w v l) : LIs (fun b => base ≤ b) w v l := by
  obtain ⟨ps, rfl, h, hp⟩ := h
  rcases h.2 with ⟨h1, h2⟩ | ⟨g, cap, cur, h1, h3, h4, _⟩
  · have : ps = [] := List.eq_nil_of_length_eq_zero (by simpa using h2)
    subst this; subst h1
    exact .nil _ _
  · subst h1
    refine .row g 0 cap (ps.map Prod.fst) (fun j => ((ps[j]?).map Prod.snd).getD undef) h3 (Array.getElem?_eq_some_iff.1 h4).1 (fun j r hr => ?_) (fun j r hr => ?_)
    · rw [List.getElem?_map] at hr
      obtain ⟨p, hp1, hp2⟩ := Option.map_eq_some_iff.1 hr
      subst hp2
      have hl : j < ps.length := (List.getElem?_eq_some_iff.1 hp1).1
      have hc : ∀ i, i < 4 → w.cell? ⟨g, 0 + j * 4 + i, none⟩ = (cellsR ps)[j * 4 + i]? := fun i hi => by
        rw [Nat.zero_add]
        exact World.ownsRow.cellAt h _ (by simp; omega)
      obtain ⟨a0, a1, a2, a3⟩ := cellsR_get ps hp1
      refine ⟨(hp p (List.mem_of_getElem? hp1)).1, (hc 0 (by omega)).trans a0, (hc 1 (by omega)).trans a1, (hc 2 (by omega)).trans a2, ?_⟩
      rw [hp1]
      exact (hc 3 (by omega)).trans a3
    · rw [List.getElem?_map] at hr
      obtain ⟨p, hp1, hp2⟩ := Option.map_eq_some_iff.1 hr
      subst hp2
      rw [hp1]
      exact ((hp p (List.mem_of_getElem? hp1)).2).mono fun b hb => hb.1
theorem RRow.kept {base : Nat} {w w' : World} {v : Value} {l : List R} (h : RRow base w v l) (hz : w.heap.size ≤ w'.heap.size) (hk : ∀ b, base ≤ b → b < w.heap.size → w'.heap[b]? = w.heap[b]?) : RRow base w' v l := by
  obtain ⟨ps, e, h, hp⟩ := h
  refine ⟨ps, e, ⟨h.1, ?_⟩, fun p hm => ⟨(hp p hm).1, (hp p hm).2.kept hz fun b hb => hk b hb.1⟩⟩
  rcases h.2 with hn | ⟨g, cap, cur, h1, h3, h4, rest⟩
  · exact .inl hn
  · exact .inr ⟨g, cap, cur, h1, h3, by rw [hk g h3 (Array.getElem?_eq_some_iff.1 h4).1]; exact h4, rest⟩
theorem RRow.later {base : Nat} {w w' : World} {v : Value} {l : List R} (h : RRow base w v l) (hb : Below w.heap.size w w') : RRow base w' v l := h.kept hb.size fun b _ hb' => hb.block b hb'
/-- One reply more. -/
theorem RRow.push {base : Nat} {w w' : World} {v v' : Value} {ps : List (R × Value)} (hp : ∀ p ∈ ps, OkR p.1 ∧ LIs (fun b => base ≤ b ∧ v.ownBlock ≠ some b) w p.2 p.1.l)
    {r : R} {lv : Value} {F : Nat → Prop} (hok : OkR r) (hL : LIs F w lv r.l) (hF : ∀ b, F b → base ≤ b ∧ v.ownBlock ≠ some b)
    (hown : w'.ownsRow base 24 4 v' (ps.length + 1) (cellsR ps ++ [.int .i64 r.k, .string (str r.t), .int .i64 r.n, lv]))
    (hz : w.heap.size ≤ w'.heap.size) (hk : ∀ b, b < w.heap.size → some b ≠ v.ownBlock → w'.heap[b]? = w.heap[b]?)
    (hat : v'.ownBlock = v.ownBlock ∨ ∃ m, v'.ownBlock = some m ∧ w.heap.size ≤ m) : RRow base w' v' (ps.map Prod.fst ++ [r]) := by
  have hkey : ∀ {F' : Nat → Prop} {u : Value} {l : List R}, LIs F' w u l → (∀ b, F' b → base ≤ b ∧ v.ownBlock ≠ some b) → LIs (fun b => base ≤ b ∧ v'.ownBlock ≠ some b) w' u l := fun hl hf => by
    refine ((hl.lt.mono (F' := fun b => base ≤ b ∧ v.ownBlock ≠ some b ∧ b < w.heap.size) fun b hb => ⟨(hf b hb.1).1, (hf b hb.1).2, hb.2⟩).kept hz fun b hb hlt => hk b hlt fun e => hb.2.1 e.symm).mono fun b hb => ⟨hb.1, ?_⟩
    rcases hat with e | ⟨m, e, hm⟩
    · rw [e]; exact hb.2.1
    · rw [e]; intro e2; cases e2; omega
  refine ⟨ps ++ [(r, lv)], by simp, by rw [List.length_append, List.length_map, cellsR_snoc]; exact hown, fun p hm => ?_⟩
  rcases List.mem_append.1 hm with h1 | h1
  · exact ⟨(hp p h1).1, hkey (hp p h1).2 fun b hb => hb⟩
  · rw [List.mem_singleton.1 h1]
    exact ⟨hok, hkey hL hF⟩

theorem infoR : (Tryd.prog.info? 24).map (fun i => (i.zero, i.size, i.bytes)) = some (some (.agg #[.int .i64 0, .string ⟨#[]⟩, .int .i64 0, .slice none 0 0]), 4, 56) := by kernel_rfl
section
variable {rest : List Oper} {ops : Array Oper} {o : Oper} {a : Act} {K : Act → World → Prop} {Q : Exit → Act → World → Prop}
/-- 'out = append(out, x)', x a reply. -/
theorem wp_append_reply (w : World) (s x : Operand) (ho : o.op = .call { callee := .builtin .append, args := #[s, x], argTypes := #[22, 22] })
    (base : Nat) (v : Value) (l : List R) (hs : a.eval s = v) (hrow : RRow base w v l)
    (r : R) (lv : Value) (F : Nat → Prop) (hok : OkR r) (h1 : lv.oneCell' = true) (hL : LIs F w lv r.l) (hF : ∀ b, F b → base ≤ b ∧ v.ownBlock ≠ some b)
    (hx : a.eval x = .slice (some ⟨w.heap.size, 0, none⟩) 1 1) (hlen : l.length ≤ 1073741824) (hbase : base ≤ w.heap.size)
    (h : ∀ v' w', RRow base w' v' (l ++ [r]) → (∀ (W : World) (B : Nat), Below B W w → B ≤ base → Below B W w') → w.heap.size ≤ w'.heap.size → (∀ b, b < w.heap.size → some b ≠ v.ownBlock → w'.heap[b]? = w.heap[b]?) → K (a.put o.dst v') w') :
    o.wp Tryd.prog a (w.alloc (.cells #[.int .i64 r.k, .string (str r.t), .int .i64 r.n, lv] 24)) K Q := by
  obtain ⟨i, hi, hz, hsz, hby⟩ := info_parts infoR
  obtain ⟨ps, rfl, hown, hp⟩ := hrow
  have hadd : ∀ j, (⟨w.heap.size, 0, none⟩ : Addr).add j = ⟨w.heap.size, j, none⟩ := fun j => by unfold Addr.add; split <;> simp_all
  obtain ⟨v', w', hr, h2, h3, h4, h5⟩ := run_append_own_at (P := Tryd.prog) (w.alloc (.cells #[.int .i64 r.k, .string (str r.t), .int .i64 r.n, lv] 24)) base 22 o.type 24 i _ 4 56 Tryd.underlying22 hi hz hsz hby rfl (by omega) v _ _ (hown.alloc _) ⟨w.heap.size, 0, none⟩ 1 1 [.int .i64 r.k, .string (str r.t), .int .i64 r.n, lv] rfl
    (fun j y hj => by
      rw [hadd]
      rcases j with _ | _ | _ | _ | j
      · simp at hj; subst hj; exact World.cell?_alloc_mark _ _ _ _ _
      · simp at hj; subst hj; exact World.cell?_alloc_mark _ _ _ _ _
      · simp at hj; subst hj; exact World.cell?_alloc_mark _ _ _ _ _
      · simp at hj; subst hj; exact World.cell?_alloc_mark _ _ _ _ _
      · simp at hj) (by simp [h1]; exact ⟨rfl, rfl, rfl⟩) (by unfold maxLen; omega) (by omega) (by simp; omega)
  have hg2 : w.grownBy w' v.ownBlock := World.grownBy.trans (World.grownBy_alloc w _ _) h3
  have hrow' : RRow base w' v' (ps.map Prod.fst ++ [r]) := by
    refine RRow.push hp hok hL hF (by rw [List.length_map] at h2; exact h2) hg2.size hg2.block ?_
    rcases h5 with e | e
    · exact .inl e
    · exact .inr ⟨_, e, by simp⟩
  unfold Oper.wp execOp
  simp only [ho, resolve, invoke, builtin, Sem.run_bind, Sem.run_pure, Result.andThen_ok, List.map_toArray, List.map_cons, List.map_nil, hs, hx, hr]
  refine h v' w' hrow' (fun W B hb hB => hb.grown hg2 ?_ fun k hk => ?_) hg2.size hg2.block
  · omega
  · have := (hown.lt k hk).1; omega
theorem wpList_append_reply (w : World) (hgd : o.guard = none) (s x : Operand) (ho : o.op = .call { callee := .builtin .append, args := #[s, x], argTypes := #[22, 22] })
    (base : Nat) (v : Value) (l : List R) (hs : a.eval s = v) (hrow : RRow base w v l)
    (r : R) (lv : Value) (F : Nat → Prop) (hok : OkR r) (h1 : lv.oneCell' = true) (hL : LIs F w lv r.l) (hF : ∀ b, F b → base ≤ b ∧ v.ownBlock ≠ some b)
    (hx : a.eval x = .slice (some ⟨w.heap.size, 0, none⟩) 1 1) (hlen : l.length ≤ 1073741824) (hbase : base ≤ w.heap.size)
    (h : ∀ v' w', RRow base w' v' (l ++ [r]) → (∀ (W : World) (B : Nat), Below B W w → B ≤ base → Below B W w') → w.heap.size ≤ w'.heap.size → (∀ b, b < w.heap.size → some b ≠ v.ownBlock → w'.heap[b]? = w.heap[b]?) → wpList Tryd.prog ops Q rest (a.put o.dst v') w') :
    wpList Tryd.prog ops Q (o :: rest) a (w.alloc (.cells #[.int .i64 r.k, .string (str r.t), .int .i64 r.n, lv] 24)) :=
  wpList_plain hgd fun _ hK => wp_append_reply w s x ho base v l hs hrow r lv F hok h1 hL hF hx hlen hbase fun v' w' a1 a2 a3 a4 => hK _ _ (h v' w' a1 a2 a3 a4)
end
end Go.Proofs.YtpngmbdchceikaaDoor
