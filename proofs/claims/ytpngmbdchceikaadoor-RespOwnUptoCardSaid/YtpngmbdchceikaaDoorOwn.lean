/- Rows of replies, each reply's memory apart from the others'. -/
import Derived.Test.YtpngmbdchceikaaDoorFeed2
namespace Go.Proofs.YtpngmbdchceikaaDoor
open Go.ChangeShapes Go.WideShapes Go.ChangeAt Go.RowKit
open Pl (R Rd)
set_option linter.unusedVariables false

/-- A row of replies in blocks of F alone: its own block, and each reply's blocks, apart from all others. -/
inductive ORow (w : World) : (Nat → Prop) → Value → List R → Prop
  | nil (F : Nat → Prop) : ORow w F (.slice none 0 0) []
  | row (F : Nat → Prop) (g cap : Nat) (ps : List (R × Value)) (Fs : Nat → Nat → Prop) (hF : F g)
      (hown : w.ownsRow 0 24 4 (.slice (some ⟨g, 0, none⟩) ps.length cap) ps.length (cellsR ps))
      (hsub : ∀ i b, Fs i b → F b ∧ b ≠ g) (hdis : ∀ i j b, Fs i b → Fs j b → i = j) (hok : ∀ p ∈ ps, OkR p.1)
      (hel : ∀ j p, ps[j]? = some p → ORow w (Fs j) p.2 p.1.l) : ORow w F (.slice (some ⟨g, 0, none⟩) ps.length cap) (ps.map Prod.fst)
theorem owns_kept {w w' : World} {B n : Nat} {v : Value} {xs : List Value} (h : w.ownsRow B 24 4 v n xs) (hk : ∀ g, v.ownBlock = some g → w'.heap[g]? = w.heap[g]?) : w'.ownsRow B 24 4 v n xs := by
  refine ⟨h.1, h.2.imp id ?_⟩
  rintro ⟨g, cap, cur, h1, h2, h3, h4⟩
  exact ⟨g, cap, cur, h1, h2, by rw [hk g (by rw [h1]; simp [Value.ownBlock])]; exact h3, h4⟩
theorem owns_base {w : World} {B C n : Nat} {v : Value} {xs : List Value} (h : w.ownsRow B 24 4 v n xs) (hb : ∀ g, v.ownBlock = some g → C ≤ g) : w.ownsRow C 24 4 v n xs := by
  refine ⟨h.1, h.2.imp id ?_⟩
  rintro ⟨g, cap, cur, h1, h2, h3⟩
  exact ⟨g, cap, cur, h1, hb g (by rw [h1]; simp [Value.ownBlock]), h3⟩
theorem ORow.mono {w : World} {F G : Nat → Prop} {v : Value} {l : List R} (h : ORow w F v l) (hF : ∀ b, F b → G b) : ORow w G v l := by
  cases h with
  | nil => exact .nil _
  | row _ g cap ps Fs hg hown hsub hdis hok hel => exact .row _ g cap ps Fs (hF g hg) hown (fun i b hb => ⟨hF b (hsub i b hb).1, (hsub i b hb).2⟩) hdis hok hel
theorem ORow.kept {w w' : World} {F : Nat → Prop} {v : Value} {l : List R} (h : ORow w F v l) : (∀ b, F b → b < w.heap.size → w'.heap[b]? = w.heap[b]?) → ORow w' F v l := by
  induction h with
  | nil F => exact fun _ => .nil _
  | row F g cap ps Fs hg hown hsub hdis hok hel ih =>
    intro hk
    refine .row F g cap ps Fs hg (owns_kept hown fun k hk2 => ?_) hsub hdis hok fun j p hj => ih j p hj fun b hb hlt => hk b (hsub j b hb).1 hlt
    have := (hown.lt k hk2).2
    simp [Value.ownBlock] at hk2
    subst hk2
    exact hk _ hg this
theorem ORow.later {w w' : World} {F : Nat → Prop} {v : Value} {l : List R} (h : ORow w F v l) (hb : Below w.heap.size w w') : ORow w' F v l := h.kept fun b _ hlt => hb.block b hlt
theorem ORow.lt {w : World} {F : Nat → Prop} {v : Value} {l : List R} (h : ORow w F v l) : ORow w (fun b => F b ∧ b < w.heap.size) v l := by
  induction h with
  | nil F => exact .nil _
  | row F g cap ps Fs hg hown hsub hdis hok hel ih =>
    have hgl := (hown.lt g (by simp [Value.ownBlock])).2
    exact .row _ g cap ps (fun i b => Fs i b ∧ b < w.heap.size) ⟨hg, hgl⟩ hown (fun i b hb => ⟨⟨(hsub i b hb.1).1, hb.2⟩, (hsub i b hb.1).2⟩) (fun i j b h1 h2 => hdis i j b h1.1 h2.1) hok ih
theorem ORow.lis {w : World} {F : Nat → Prop} {v : Value} {l : List R} (h : ORow w F v l) : LIs F w v l := by
  induction h with
  | nil F => exact .nil _ _
  | row F g cap ps Fs hg hown hsub hdis hok hel ih =>
    have hgl := (hown.lt g (by simp [Value.ownBlock])).2
    have hl : (ps.map Prod.fst).length = ps.length := by simp
    rw [← hl]
    refine .row g 0 cap (ps.map Prod.fst) (fun j => ((ps[j]?).map Prod.snd).getD undef) hg hgl (fun j r hr => ?_) (fun j r hr => ?_)
    · rw [List.getElem?_map] at hr
      obtain ⟨p, hp1, hp2⟩ := Option.map_eq_some_iff.1 hr
      subst hp2
      have hl : j < ps.length := (List.getElem?_eq_some_iff.1 hp1).1
      have hc : ∀ i, i < 4 → w.cell? ⟨g, 0 + j * 4 + i, none⟩ = (cellsR ps)[j * 4 + i]? := fun i hi => by
        rw [Nat.zero_add]
        exact World.ownsRow.cellAt hown _ (by omega)
      obtain ⟨a0, a1, a2, a3⟩ := cellsR_get ps hp1
      refine ⟨hok p (List.mem_of_getElem? hp1), (hc 0 (by omega)).trans a0, (hc 1 (by omega)).trans a1, (hc 2 (by omega)).trans a2, ?_⟩
      rw [hp1]
      exact (hc 3 (by omega)).trans a3
    · rw [List.getElem?_map] at hr
      obtain ⟨p, hp1, hp2⟩ := Option.map_eq_some_iff.1 hr
      subst hp2
      rw [hp1]
      exact (ih j p hp1).mono fun b hb => (hsub j b hb).1
theorem ORow.parts {w : World} {F : Nat → Prop} {v : Value} {l : List R} (h : ORow w F v l) : ∃ (ps : List (R × Value)) (Fs : Nat → Nat → Prop), ps.map Prod.fst = l ∧ w.ownsRow 0 24 4 v l.length (cellsR ps) ∧ (∀ g, v.ownBlock = some g → F g) ∧
    (∀ i b, Fs i b → F b ∧ v.ownBlock ≠ some b) ∧ (∀ i j b, Fs i b → Fs j b → i = j) ∧ (∀ p ∈ ps, OkR p.1) ∧ ∀ j p, ps[j]? = some p → ORow w (Fs j) p.2 p.1.l := by
  cases h with
  | nil => exact ⟨[], fun _ _ => False, rfl, World.ownsRow_nil _ _ _ _, fun g hg => by simp [Value.ownBlock] at hg, fun _ _ h => h.elim, fun _ _ _ h _ => h.elim, fun _ h => (by cases h), fun j p h => (by simp at h)⟩
  | row _ g cap ps Fs hg hown hsub hdis hok hel => exact ⟨ps, Fs, rfl, by rw [List.length_map]; exact hown, fun k hk => by simp [Value.ownBlock] at hk; subst hk; exact hg, fun i b hb => ⟨(hsub i b hb).1, fun e => (hsub i b hb).2 (by simp [Value.ownBlock] at e; exact e.symm)⟩, hdis, hok, hel⟩
theorem ORow.of_parts {w : World} {F : Nat → Prop} {v : Value} {ps : List (R × Value)} {Fs : Nat → Nat → Prop} (hown : w.ownsRow 0 24 4 v ps.length (cellsR ps)) (hF : ∀ g, v.ownBlock = some g → F g)
    (hsub : ∀ i b, Fs i b → F b ∧ v.ownBlock ≠ some b) (hdis : ∀ i j b, Fs i b → Fs j b → i = j) (hok : ∀ p ∈ ps, OkR p.1) (hel : ∀ j p, ps[j]? = some p → ORow w (Fs j) p.2 p.1.l) : ORow w F v (ps.map Prod.fst) := by
  have hown' := hown
  rcases hown.2 with ⟨h1, h2⟩ | ⟨g, cap, cur, h1, _⟩
  · have : ps = [] := List.eq_nil_of_length_eq_zero h2
    subst this; subst h1
    exact .nil _
  · subst h1
    exact .row F g cap ps Fs (hF g (by simp [Value.ownBlock])) hown' (fun i b hb => ⟨(hsub i b hb).1, fun e => (hsub i b hb).2 (by simp [Value.ownBlock, e])⟩) hdis hok hel
theorem ORow.shape {w : World} {F : Nat → Prop} {v : Value} {l : List R} (h : ORow w F v l) : ∃ ao cp, v = .slice ao l.length cp := h.lis.shape
theorem ORow.push {w w' : World} {F1 F2 : Nat → Prop} {v v' : Value} {ps : List (R × Value)} {Fs : Nat → Nat → Prop} {r : R} {lv : Value} (hF : ∀ g, v.ownBlock = some g → F1 g)
    (hsub : ∀ i b, Fs i b → F1 b ∧ v.ownBlock ≠ some b) (hdis : ∀ i j b, Fs i b → Fs j b → i = j) (hok : ∀ p ∈ ps, OkR p.1) (hel : ∀ j p, ps[j]? = some p → ORow w (Fs j) p.2 p.1.l)
    (hr : OkR r) (hL : ORow w F2 lv r.l) (hd : ∀ b, F1 b → F2 b → False)
    (hown : w'.ownsRow 0 24 4 v' (ps.length + 1) (cellsR ps ++ [.int .i64 r.k, .string (str r.t), .int .i64 r.n, lv]))
    (hk : ∀ b, b < w.heap.size → some b ≠ v.ownBlock → w'.heap[b]? = w.heap[b]?)
    (hat : v'.ownBlock = v.ownBlock ∨ ∃ m, v'.ownBlock = some m ∧ w.heap.size ≤ m) : ORow w' (fun b => F1 b ∨ F2 b ∨ w.heap.size ≤ b) v' (ps.map Prod.fst ++ [r]) := by
  have hne : ∀ b, b < w.heap.size → v.ownBlock ≠ some b → v'.ownBlock ≠ some b := fun b hlt h => by
    rcases hat with e | ⟨m, e, hm⟩
    · rw [e]; exact h
    · rw [e]; intro e2; cases e2; omega
  have hF2 : ∀ b, F2 b → v.ownBlock ≠ some b := fun b h2 e => hd b (hF b e) h2
  have e1 : ps.map Prod.fst ++ [r] = (ps ++ [(r, lv)]).map Prod.fst := by simp
  rw [e1]
  refine ORow.of_parts (Fs := fun i b => ((i < ps.length ∧ Fs i b) ∨ (i = ps.length ∧ F2 b)) ∧ b < w.heap.size) ?_ ?_ ?_ ?_ ?_ ?_
  · rw [List.length_append, cellsR_snoc]; exact hown
  · intro g hg
    rcases hat with e | ⟨m, e, hm⟩
    · rw [e] at hg; exact .inl (hF g hg)
    · rw [e] at hg; cases hg; exact .inr (.inr hm)
  · rintro i b ⟨⟨_, h1⟩ | ⟨_, h2⟩, hlt⟩
    · exact ⟨.inl (hsub i b h1).1, hne b hlt (hsub i b h1).2⟩
    · exact ⟨.inr (.inl h2), hne b hlt (hF2 b h2)⟩
  · rintro i j b ⟨⟨_, h1⟩ | ⟨hi, h1⟩, _⟩ ⟨⟨_, h2⟩ | ⟨hj, h2⟩, _⟩
    · exact hdis i j b h1 h2
    · exact (hd b (hsub i b h1).1 h2).elim
    · exact (hd b (hsub j b h2).1 h1).elim
    · omega
  · intro p hp
    rcases List.mem_append.1 hp with h | h
    · exact hok p h
    · rw [List.mem_singleton.1 h]; exact hr
  · intro j p hj
    rcases Nat.lt_or_ge j ps.length with h | h
    · rw [List.getElem?_append_left h] at hj
      exact ((hel j p hj).lt.kept fun b hb hlt => hk b hlt fun e => (hsub j b hb.1).2 e.symm).mono fun b hb => ⟨.inl ⟨h, hb.1⟩, hb.2⟩
    · rw [List.getElem?_append_right h] at hj
      have hj0 : j - ps.length = 0 := by
        rcases Nat.eq_zero_or_pos (j - ps.length) with h0 | h0
        · exact h0
        · rw [List.getElem?_eq_none (by simp; omega)] at hj; cases hj
      rw [hj0] at hj
      simp at hj
      subst hj
      exact (hL.lt.kept fun b hb hlt => hk b hlt fun e => hF2 b hb.1 e.symm).mono fun b hb => ⟨.inr ⟨by omega, hb.1⟩, hb.2⟩
/-- A row all whose blocks lie from a place on. -/
abbrev WRow (base : Nat) (w : World) (v : Value) (l : List R) : Prop := ORow w (fun b => base ≤ b) v l
theorem WRow.of_nil {base : Nat} {w : World} {v : Value} (h : RRow base w v []) : WRow base w v [] := by
  obtain ⟨ps, hps, hown, _⟩ := h
  have h0 : ps = [] := by simpa using hps
  subst h0
  exact ORow.of_parts (ps := []) (Fs := fun _ _ => False) (owns_base hown fun _ _ => Nat.zero_le _) (fun g hg => (hown.lt g hg).1) (fun _ _ h => h.elim) (fun _ _ _ h _ => h.elim) (fun _ h => by cases h) (fun j p h => by simp at h)
theorem WRow.nil (base : Nat) (w : World) : WRow base w (.slice none 0 0) [] := ORow.nil _
theorem WRow.own {base : Nat} {w : World} {v : Value} {l : List R} (h : WRow base w v l) : ∀ k, v.ownBlock = some k → base ≤ k ∧ k < w.heap.size := by
  obtain ⟨ps, Fs, rfl, hown, hF, _⟩ := h.parts
  exact fun k hk => ⟨hF k hk, (hown.lt k hk).2⟩
theorem WRow.mono {base base' : Nat} {w : World} {v : Value} {l : List R} (h : WRow base w v l) (hb : base' ≤ base) : WRow base' w v l := ORow.mono h fun b hb2 => by omega
theorem WRow.set {base : Nat} {w : World} {v : Value} {l : List R} (h : WRow base w v l) (p : Addr) (hp : p.block < base) (u : Value) : WRow base (w.setCell p u) v l := ORow.kept h fun b h1 _ => heap_setCell_other _ _ _ _ (by omega)
theorem WRow.but {base g : Nat} {w w' : World} {v : Value} {l : List R} (h : WRow base w v l) (hb : But g w w') (hg : g < base) : WRow base w' v l := ORow.kept h fun b h1 h2 => hb.block b h2 (by omega)
theorem WRow.drew {base : Nat} {w : World} {v : Value} {l : List R} (h : WRow base w v l) : WRow base w.drew v l := ORow.kept h fun _ _ _ => rfl
section
variable {rest : List Oper} {ops : Array Oper} {o : Oper} {a : Act} {K : Act → World → Prop} {Q : Exit → Act → World → Prop}
theorem wp_append_o (w : World) (s x : Operand) (ho : o.op = .call { callee := .builtin .append, args := #[s, x], argTypes := #[22, 22] })
    (base : Nat) (v : Value) (l : List R) (hs : a.eval s = v) (F1 F2 : Nat → Prop) (hrow : ORow w F1 v l)
    (r : R) (lv : Value) (hok : OkR r) (h1 : lv.oneCell' = true) (hL : ORow w F2 lv r.l) (hd : ∀ b, F1 b → F2 b → False) (hb1 : ∀ b, F1 b → base ≤ b) (hb2 : ∀ b, F2 b → base ≤ b)
    (hx : a.eval x = .slice (some ⟨w.heap.size, 0, none⟩) 1 1) (hlen : l.length ≤ 1073741824) (hbase : base ≤ w.heap.size)
    (h : ∀ v' w', WRow base w' v' (l ++ [r]) → (∀ (W : World) (B : Nat), Below B W w → B ≤ base → Below B W w') → w.heap.size ≤ w'.heap.size → (∀ b, b < w.heap.size → some b ≠ v.ownBlock → w'.heap[b]? = w.heap[b]?) → K (a.put o.dst v') w') :
    o.wp Tryd.prog a (w.alloc (.cells #[.int .i64 r.k, .string (str r.t), .int .i64 r.n, lv] 24)) K Q := by
  obtain ⟨i, hi, hz, hsz, hby⟩ := info_parts infoR
  obtain ⟨ps, Fs, rfl, hown, hF, hsub, hdis, hoks, hel⟩ := hrow.parts
  have hadd : ∀ j, (⟨w.heap.size, 0, none⟩ : Addr).add j = ⟨w.heap.size, j, none⟩ := fun j => by unfold Addr.add; split <;> simp_all
  obtain ⟨v', w', hr, h2, h3, h4, h5⟩ := run_append_own_at (P := Tryd.prog) (w.alloc (.cells #[.int .i64 r.k, .string (str r.t), .int .i64 r.n, lv] 24)) 0 22 o.type 24 i _ 4 56 Tryd.underlying22 hi hz hsz hby rfl (by omega) v _ _ (World.ownsRow.alloc hown _) ⟨w.heap.size, 0, none⟩ 1 1 [.int .i64 r.k, .string (str r.t), .int .i64 r.n, lv] rfl
    (fun j y hj => by
      rw [hadd]
      rcases j with _ | _ | _ | _ | j
      · simp at hj; subst hj; exact World.cell?_alloc_mark _ _ _ _ _
      · simp at hj; subst hj; exact World.cell?_alloc_mark _ _ _ _ _
      · simp at hj; subst hj; exact World.cell?_alloc_mark _ _ _ _ _
      · simp at hj; subst hj; exact World.cell?_alloc_mark _ _ _ _ _
      · simp at hj) (by simp [h1]; exact ⟨rfl, rfl, rfl⟩) (by unfold maxLen; omega) (by omega) (by omega)
  have hg2 : w.grownBy w' v.ownBlock := World.grownBy.trans (World.grownBy_alloc w _ _) h3
  have hrow' : WRow base w' v' (ps.map Prod.fst ++ [r]) := by
    refine (ORow.push (F1 := F1) (F2 := F2) hF hsub hdis hoks hel hok hL hd (by rw [List.length_map] at h2; exact h2) hg2.block ?_).mono fun b hb => ?_
    · rcases h5 with e | e
      · exact .inl e
      · exact .inr ⟨_, e, by simp⟩
    · rcases hb with hb | hb | hb
      · exact hb1 b hb
      · exact hb2 b hb
      · omega
  unfold Oper.wp execOp
  simp only [ho, resolve, invoke, builtin, Sem.run_bind, Sem.run_pure, Result.andThen_ok, List.map_toArray, List.map_cons, List.map_nil, hs, hx, hr]
  refine h v' w' hrow' (fun W B hb hB => hb.grown hg2 ?_ fun k hk => ?_) hg2.size hg2.block
  · omega
  · have := hb1 k (hF k hk); omega
theorem wpList_append_o (w : World) (hgd : o.guard = none) (s x : Operand) (ho : o.op = .call { callee := .builtin .append, args := #[s, x], argTypes := #[22, 22] })
    (base : Nat) (v : Value) (l : List R) (hs : a.eval s = v) (F1 F2 : Nat → Prop) (hrow : ORow w F1 v l)
    (r : R) (lv : Value) (hok : OkR r) (h1 : lv.oneCell' = true) (hL : ORow w F2 lv r.l) (hd : ∀ b, F1 b → F2 b → False) (hb1 : ∀ b, F1 b → base ≤ b) (hb2 : ∀ b, F2 b → base ≤ b)
    (hx : a.eval x = .slice (some ⟨w.heap.size, 0, none⟩) 1 1) (hlen : l.length ≤ 1073741824) (hbase : base ≤ w.heap.size)
    (h : ∀ v' w', WRow base w' v' (l ++ [r]) → (∀ (W : World) (B : Nat), Below B W w → B ≤ base → Below B W w') → w.heap.size ≤ w'.heap.size → (∀ b, b < w.heap.size → some b ≠ v.ownBlock → w'.heap[b]? = w.heap[b]?) → wpList Tryd.prog ops Q rest (a.put o.dst v') w') :
    wpList Tryd.prog ops Q (o :: rest) a (w.alloc (.cells #[.int .i64 r.k, .string (str r.t), .int .i64 r.n, lv] 24)) :=
  wpList_plain hgd fun _ hK => wp_append_o w s x ho base v l hs F1 F2 hrow r lv hok h1 hL hd hb1 hb2 hx hlen hbase fun v' w' a1 a2 a3 a4 => hK _ _ (h v' w' a1 a2 a3 a4)
end
end Go.Proofs.YtpngmbdchceikaaDoor
