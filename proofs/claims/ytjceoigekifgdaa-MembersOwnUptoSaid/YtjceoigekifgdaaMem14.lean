/- Rows with room of any kind: a store, an append. -/
import Derived.Test.YtjceoigekifgdaaMem13
import Derived.ArgAppend
namespace Go.Proofs.Ytjceoigekifgdaa
open Go.ChangeShapes Go.WideShapes Go.ChangeAt Go.RowKit Go.Sort
set_option linter.unusedVariables false

/-- A slice of n texts in memory from block B on: nil, or a row with its room within its block. -/
def Zat (B : Nat) (w : World) (v : Value) (n : Nat) : Prop :=
  (v = .slice none 0 0 ∧ n = 0) ∨ ∃ g cap cur, v = .slice (some ⟨g, 0, none⟩) n cap ∧ B ≤ g ∧ w.heap[g]? = some (.cells cur 9 (0, 0)) ∧ n ≤ cap ∧ cap ≤ cur.size ∧ cap ≤ maxLen
theorem Zat.shape {B : Nat} {w : World} {v : Value} {n : Nat} (h : Zat B w v n) : ∃ ao cp, v = .slice ao n cp := by
  rcases h with ⟨rfl, rfl⟩ | ⟨g, cap, cur, rfl, _⟩
  · exact ⟨none, 0, rfl⟩
  · exact ⟨_, cap, rfl⟩
theorem Fresh.zat {w w' : World} {v : Value} {xs : List Tx} (h : Fresh w w' v xs) : Zat w.heap.size w' v xs.length := by
  obtain ⟨ao, cp, rfl, h⟩ := h
  rcases h with ⟨rfl, rfl, rfl⟩ | ⟨g, cur, rfl, h1, h2, h3, h4, h5, _⟩
  · exact .inl ⟨rfl, rfl⟩
  · exact .inr ⟨g, cp, cur, rfl, h1, h2, h3, h4, h5⟩
theorem Zat.kept {B : Nat} {w w' : World} {v : Value} {n : Nat} (h : Zat B w v n) (hb : Below w.heap.size w w') : Zat B w' v n := by
  refine h.imp id ?_
  rintro ⟨g, cap, cur, e, h1, h2, r⟩
  exact ⟨g, cap, cur, e, h1, (hb.block g (Array.getElem?_eq_some_iff.1 h2).1).trans h2, r⟩
/-- A store into it. -/
theorem Zat.store {B : Nat} {w : World} {v : Value} {n : Nat} (h : Zat B w v n) {g k : Nat} (hv : v.ownBlock = some g) (u : Value) : Zat B (w.setCell ⟨g, k, none⟩ u) v n := by
  rcases h with ⟨rfl, rfl⟩ | ⟨g', cap, cur, rfl, h1, h2, h3, h4, h5⟩
  · exact .inl ⟨rfl, rfl⟩
  · have : g' = g := by simpa [Value.ownBlock] using hv
    subst this
    refine .inr ⟨g', cap, cur.setIfInBounds k u, rfl, h1, ?_, h3, by simpa using h4, h5⟩
    simp [World.setCell, Array.getElem?_modify, h2]
theorem Zat.cell {B : Nat} {w : World} {v : Value} {n : Nat} (h : Zat B w v n) {g k : Nat} (hv : v.ownBlock = some g) (hk : k < n) : (∃ u, w.cell? ⟨g, k, none⟩ = some u) ∧ w.frozen? ⟨g, k, none⟩ = false := by
  rcases h with ⟨rfl, rfl⟩ | ⟨g', cap, cur, rfl, h1, h2, h3, h4, h5⟩
  · omega
  · have : g' = g := by simpa [Value.ownBlock] using hv
    subst this
    have hks : k < cur.size := by omega
    exact ⟨⟨cur[k], by simp [World.cell?, h2, hks]⟩, by simp [World.frozen?, h2]⟩
section
variable {ops : Array Oper} {rest : List Oper} {o : Oper} {a : Act} {Q : Exit → Act → World → Prop}
/-- 'z = append(z, x)', whatever room z has. -/
theorem wpList_append_z {B : Nat} (w : World) (hgd : o.guard = none) (s x : Operand) (ho : o.op = .call { callee := .builtin .append, args := #[s, x], argTypes := #[22, 22] })
    (v : Value) (n : Nat) (hs : a.eval s = v) (hz : Zat B w v n) (hB : B ≤ w.heap.size) (u : Value) (h1 : u.oneCell' = true) (hx : a.eval x = .slice (some ⟨w.heap.size, 0, none⟩) 1 1) (hn : n + 1 ≤ 8796093022200)
    (h : ∀ v' w', Zat B w' v' (n + 1) → (∀ (W : World) (F : Nat → Prop), Wr F W w → (∀ g, v.ownBlock = some g → F g ∨ W.heap.size ≤ g) → Wr F W w') → (∀ g, v'.ownBlock = some g → v.ownBlock = some g ∨ w.heap.size ≤ g) → wpList Try.prog ops Q rest (a.put o.dst v') w') :
    wpList Try.prog ops Q (o :: rest) a (w.alloc (.cells #[u] 9)) := by
  obtain ⟨i, hi, hzr, hsz, hby⟩ := info_parts infoS
  have zown : ∀ (C : Nat) (v' : Value) (w' : World) (xs : List Value), w.heap.size ≤ C → w'.ownsRow C 9 1 v' (n + 1) xs → Zat B w' v' (n + 1) ∧ ∀ g, v'.ownBlock = some g → w.heap.size ≤ g := fun C v' w' xs hC hown => by
    rcases hown.2 with ⟨_, e⟩ | ⟨g, cap, cur, rfl, h2, h3, h4, h5, h6, _⟩
    · omega
    · refine ⟨.inr ⟨g, cap, cur, rfl, by omega, h3, h4, by omega, h5⟩, fun k hk => ?_⟩
      have : g = k := by simpa [Value.ownBlock] using hk
      omega
  rcases hz with ⟨rfl, rfl⟩ | ⟨g, cap, cur, rfl, hg, hb, h4, h5, h6⟩
  · refine wpList_append_own _ hgd s x _ ho w.heap.size 9 i _ 1 16 Try.underlying22 hi hzr hsz hby rfl (by omega) (.slice none 0 0) 0 [] hs (World.ownsRow_nil _ _ _ _) ⟨w.heap.size, 0, none⟩ 1 1 [u] hx rfl (cell_one_new _ _ _) (by simpa using h1) (by simp only [maxLen]; omega) (by omega) (by simp) ?_
    intro v' w' hown hgr _
    obtain ⟨z1, z2⟩ := zown _ v' w' _ (Nat.le_refl _) hown
    exact h v' w' z1 (fun W F hW _ => (hW.alloc _).grown hgr fun k hk => by simp [Value.ownBlock] at hk) (fun k hk => .inr (z2 k hk))
  · have hglt := (Array.getElem?_eq_some_iff.1 hb).1
    have hb2 : (w.alloc (.cells #[u] 9)).heap[g]? = some (.cells cur 9 (0, 0)) := (Below.heap_alloc _ _ _ hglt).trans hb
    have cellk : ∀ k, k < cur.size → (w.alloc (.cells #[u] 9)).cell? ⟨g, k, none⟩ = cur[k]? := fun k hk => by
      simp only [World.cell?, hb2]
      simp
    refine wpList_append_arg _ hgd s x _ ho 9 i _ 1 16 Try.underlying22 hi hzr hsz hby rfl (by omega) g 0 n cap (cur.toList.take n) hs (by rw [List.length_take, Array.length_toList]; omega) (fun j y hy => ?_) ⟨w.heap.size, 0, none⟩ 1 1 [u] hx rfl (cell_one_new _ _ _) (by simpa using h1) (fun hr j hj => ?_) (by simp only [maxLen]; omega) (by omega) (fun hr => ?_) (fun hr v' w' hown hgr => ?_)
    · have hj : j < n := by have := (List.getElem?_eq_some_iff.1 hy).1; rw [List.length_take] at this; omega
      rw [Nat.zero_add, cellk j (by omega)]
      rw [List.getElem?_take_of_lt hj, Array.getElem?_toList] at hy
      exact hy
    · have hj0 : j = 0 := by simp at hj; omega
      subst hj0
      have hnc : n < cur.size := by omega
      refine ⟨?_, ?_⟩
      · rw [show 0 + n * 1 + 0 = n by omega, cellk n hnc]; simp [hnc]
      · simp only [World.frozen?, hb2]; simp
    · have e : 0 + n * 1 = n := by omega
      rw [e]
      refine h _ _ (.inr ⟨g, cap, cur.setIfInBounds n u, rfl, hg, ?_, hr, by simpa using h5, h6⟩) (fun W F hW hF => ?_) (fun k hk => .inl hk)
      · show ((w.alloc (.cells #[u] 9)).setCell ⟨g, n, none⟩ u).heap[g]? = _
        simp only [World.setCell]
        rw [Array.getElem?_modify, if_pos rfl, hb2]
        rfl
      · have hW2 := hW.alloc (.cells #[u] 9)
        refine ⟨hW2.os, hW2.tape, hW2.output, ?_, fun k hk hf => ?_⟩
        · show W.heap.size ≤ ((w.alloc (.cells #[u] 9)).setCell ⟨g, n, none⟩ u).heap.size
          simpa [World.setCell] using hW2.size
        · refine (Below.heap_setCell _ _ _ _ (fun e => ?_)).trans (hW2.block k hk hf)
          rcases hF g rfl with h7 | h7
          · exact hf (by rw [e]; exact h7)
          · have : k = g := e
            omega
    · obtain ⟨z1, z2⟩ := zown _ v' w' _ (by simp) hown
      exact h v' w' z1 (fun W F hW _ => (hW.alloc _).grown hgr fun k hk => by simp at hk) (fun k hk => .inr (z2 k hk))
end
end Go.Proofs.Ytjceoigekifgdaa
