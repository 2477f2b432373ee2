/- Rows with room of any kind, in memory of their own: what they hold, a store, an append. -/
import Derived.Test.YtbjlffhnkcbnmaaWr
import Derived.Test.YtbjlffhnkcbnmaaStrs
import Derived.ArgAppend
namespace Go.Proofs.Ytbjlffhnkcbnmaa
open Go.ChangeShapes Go.WideShapes Go.ChangeAt Go.RowKit
set_option linter.unusedVariables false

theorem infoS : (Try.prog.info? 9).map (fun i => (i.zero, i.size, i.bytes)) = some (some (.string ⟨#[]⟩), 1, 16) := by kernel_rfl
/-- A slice of n texts in memory from block B on: nil, or a row with its room within its block. -/
def Zat (B : Nat) (w : World) (v : Value) (n : Nat) : Prop :=
  (v = .slice none 0 0 ∧ n = 0) ∨ ∃ g cap cur, v = .slice (some ⟨g, 0, none⟩) n cap ∧ B ≤ g ∧ w.heap[g]? = some (.cells cur 9 (0, 0)) ∧ n ≤ cap ∧ cap ≤ cur.size ∧ cap ≤ maxLen
theorem Zat.shape {B : Nat} {w : World} {v : Value} {n : Nat} (h : Zat B w v n) : ∃ ao cp, v = .slice ao n cp := by
  rcases h with ⟨rfl, rfl⟩ | ⟨g, cap, cur, rfl, _⟩
  · exact ⟨none, 0, rfl⟩
  · exact ⟨_, cap, rfl⟩
theorem Zat.kept {B : Nat} {w w' : World} {v : Value} {n : Nat} (h : Zat B w v n) (hb : Below w.heap.size w w') : Zat B w' v n := by
  refine h.imp id ?_
  rintro ⟨g, cap, cur, e, h1, h2, r⟩
  exact ⟨g, cap, cur, e, h1, (hb.block g (Array.getElem?_eq_some_iff.1 h2).1).trans h2, r⟩
/-- A store into it. -/
theorem Zat.store {B : Nat} {w : World} {v : Value} {n : Nat} (h : Zat B w v n) {g k : Nat} (hv : v.ownBlock = some g) (u : Value) : Zat B (w.setCell ⟨g, k, none⟩ u) v n := by
  rcases h with ⟨rfl, rfl⟩ | ⟨g', cap, cur, rfl, h1, h2, h3, h4, h5⟩
  · exact .inl ⟨rfl, rfl⟩
  · have : g' = g := by simpa [Value.ownBlock] using hv
    subst this
    refine .inr ⟨g', cap, cur.setIfInBounds k u, rfl, h1, ?_, h3, by simpa using h4, h5⟩
    simp [World.setCell, Array.getElem?_modify, h2]
theorem Zat.cell {B : Nat} {w : World} {v : Value} {n : Nat} (h : Zat B w v n) {g k : Nat} (hv : v.ownBlock = some g) (hk : k < n) : (∃ u, w.cell? ⟨g, k, none⟩ = some u) ∧ w.frozen? ⟨g, k, none⟩ = false := by
  rcases h with ⟨rfl, rfl⟩ | ⟨g', cap, cur, rfl, h1, h2, h3, h4, h5⟩
  · omega
  · have : g' = g := by simpa [Value.ownBlock] using hv
    subst this
    have hks : k < cur.size := by omega
    exact ⟨⟨cur[k], by simp [World.cell?, h2, hks]⟩, by simp [World.frozen?, h2]⟩
section
variable {ops : Array Oper} {rest : List Oper} {o : Oper} {a : Act} {Q : Exit → Act → World → Prop}
/-- 'z = append(z, x)', whatever room z has. -/
theorem wpList_append_z {B : Nat} (w : World) (hgd : o.guard = none) (s x : Operand) (ho : o.op = .call { callee := .builtin .append, args := #[s, x], argTypes := #[33, 33] })
    (v : Value) (n : Nat) (hs : a.eval s = v) (hz : Zat B w v n) (hB : B ≤ w.heap.size) (u : Value) (h1 : u.oneCell' = true) (hx : a.eval x = .slice (some ⟨w.heap.size, 0, none⟩) 1 1) (hn : n + 1 ≤ 8796093022200)
    (h : ∀ v' w', Zat B w' v' (n + 1) → (∀ (W : World) (F : Nat → Prop), Wr F W w → (∀ g, v.ownBlock = some g → F g ∨ W.heap.size ≤ g) → Wr F W w') → (∀ g, v'.ownBlock = some g → v.ownBlock = some g ∨ w.heap.size ≤ g) → wpList Try.prog ops Q rest (a.put o.dst v') w') :
    wpList Try.prog ops Q (o :: rest) a (w.alloc (.cells #[u] 9)) := by
  obtain ⟨i, hi, hzr, hsz, hby⟩ := info_parts infoS
  have zown : ∀ (C : Nat) (v' : Value) (w' : World) (xs : List Value), w.heap.size ≤ C → w'.ownsRow C 9 1 v' (n + 1) xs → Zat B w' v' (n + 1) ∧ ∀ g, v'.ownBlock = some g → w.heap.size ≤ g := fun C v' w' xs hC hown => by
    rcases hown.2 with ⟨_, e⟩ | ⟨g, cap, cur, rfl, h2, h3, h4, h5, h6, _⟩
    · omega
    · refine ⟨.inr ⟨g, cap, cur, rfl, by omega, h3, h4, by omega, h5⟩, fun k hk => ?_⟩
      have : g = k := by simpa [Value.ownBlock] using hk
      omega
  rcases hz with ⟨rfl, rfl⟩ | ⟨g, cap, cur, rfl, hg, hb, h4, h5, h6⟩
  · refine wpList_append_own _ hgd s x _ ho w.heap.size 9 i _ 1 16 Try.underlying33 hi hzr hsz hby rfl (by omega) (.slice none 0 0) 0 [] hs (World.ownsRow_nil _ _ _ _) ⟨w.heap.size, 0, none⟩ 1 1 [u] hx rfl (cell_one_new _ _ _) (by simpa using h1) (by simp only [maxLen]; omega) (by omega) (by simp) ?_
    intro v' w' hown hgr _
    obtain ⟨z1, z2⟩ := zown _ v' w' _ (Nat.le_refl _) hown
    exact h v' w' z1 (fun W F hW _ => (hW.alloc _).grown hgr fun k hk => by simp [Value.ownBlock] at hk) (fun k hk => .inr (z2 k hk))
  · have hglt := (Array.getElem?_eq_some_iff.1 hb).1
    have hb2 : (w.alloc (.cells #[u] 9)).heap[g]? = some (.cells cur 9 (0, 0)) := (Below.heap_alloc _ _ _ hglt).trans hb
    have cellk : ∀ k, k < cur.size → (w.alloc (.cells #[u] 9)).cell? ⟨g, k, none⟩ = cur[k]? := fun k hk => by
      simp only [World.cell?, hb2]
      simp
    refine wpList_append_arg _ hgd s x _ ho 9 i _ 1 16 Try.underlying33 hi hzr hsz hby rfl (by omega) g 0 n cap (cur.toList.take n) hs (by rw [List.length_take, Array.length_toList]; omega) (fun j y hy => ?_) ⟨w.heap.size, 0, none⟩ 1 1 [u] hx rfl (cell_one_new _ _ _) (by simpa using h1) (fun hr j hj => ?_) (by simp only [maxLen]; omega) (by omega) (fun hr => ?_) (fun hr v' w' hown hgr => ?_)
    · have hj : j < n := by have := (List.getElem?_eq_some_iff.1 hy).1; rw [List.length_take] at this; omega
      rw [Nat.zero_add, cellk j (by omega)]
      rw [List.getElem?_take_of_lt hj, Array.getElem?_toList] at hy
      exact hy
    · have hj0 : j = 0 := by simp at hj; omega
      subst hj0
      have hnc : n < cur.size := by omega
      refine ⟨?_, ?_⟩
      · rw [show 0 + n * 1 + 0 = n by omega, cellk n hnc]; simp [hnc]
      · simp only [World.frozen?, hb2]; simp
    · have e : 0 + n * 1 = n := by omega
      rw [e]
      refine h _ _ (.inr ⟨g, cap, cur.setIfInBounds n u, rfl, hg, ?_, hr, by simpa using h5, h6⟩) (fun W F hW hF => ?_) (fun k hk => .inl hk)
      · show ((w.alloc (.cells #[u] 9)).setCell ⟨g, n, none⟩ u).heap[g]? = _
        simp only [World.setCell]
        rw [Array.getElem?_modify, if_pos rfl, hb2]
        rfl
      · have hW2 := hW.alloc (.cells #[u] 9)
        refine ⟨hW2.os, hW2.tape, hW2.output, ?_, fun k hk hf => ?_⟩
        · show W.heap.size ≤ ((w.alloc (.cells #[u] 9)).setCell ⟨g, n, none⟩ u).heap.size
          simpa [World.setCell] using hW2.size
        · refine (Below.heap_setCell _ _ _ _ (fun e => ?_)).trans (hW2.block k hk hf)
          rcases hF g rfl with h7 | h7
          · exact hf (by rw [e]; exact h7)
          · have : k = g := e
            omega
    · obtain ⟨z1, z2⟩ := zown _ v' w' _ (by simp) hown
      exact h v' w' z1 (fun W F hW _ => (hW.alloc _).grown hgr fun k hk => by simp at hk) (fun k hk => .inr (z2 k hk))
end
/-- A slice of these texts in memory from block B on, nil or with its room within its block. -/
def ZRow (B : Nat) (w : World) (v : Value) (bs : List ByteArray) : Prop :=
  (v = .slice none 0 0 ∧ bs = []) ∨ ∃ g cap cur, v = .slice (some ⟨g, 0, none⟩) bs.length cap ∧ B ≤ g ∧ w.heap[g]? = some (.cells cur 9 (0, 0)) ∧ bs.length ≤ cap ∧ cap ≤ cur.size ∧ cap ≤ maxLen ∧ ∀ (j : Nat) x, bs[j]? = some x → cur[j]? = some (Value.string x)
namespace ZRow
variable {B : Nat} {w w' : World} {v : Value} {bs : List ByteArray}
theorem zat (h : ZRow B w v bs) : Zat B w v bs.length := by
  rcases h with ⟨rfl, rfl⟩ | ⟨g, cap, cur, rfl, h1, h2, h3, h4, h5, -⟩
  · exact .inl ⟨rfl, rfl⟩
  · exact .inr ⟨g, cap, cur, rfl, h1, h2, h3, h4, h5⟩
theorem shape (h : ZRow B w v bs) : ∃ ao cp, v = .slice ao bs.length cp := h.zat.shape
theorem srow (h : ZRow B w v bs) : SRow w v bs := by
  rcases h with ⟨rfl, rfl⟩ | ⟨g, cap, cur, rfl, h1, h2, h3, h4, h5, h6⟩
  · exact ⟨none, 0, rfl, .inl rfl⟩
  · refine ⟨_, cap, rfl, .inr ⟨g, 0, rfl, (Array.getElem?_eq_some_iff.1 h2).1, fun j x hx => ?_⟩⟩
    rw [Nat.zero_add]
    simp only [World.cell?, h2]
    simpa using h6 j x hx
theorem kept_by (h : ZRow B w v bs) (hw : ∀ (k : Nat) (cur : Array Value), B ≤ k → w.heap[k]? = some (.cells cur 9 (0, 0)) → w'.heap[k]? = w.heap[k]?) : ZRow B w' v bs := by
  refine h.imp id ?_
  rintro ⟨g, cap, cur, e, h1, h2, r⟩
  exact ⟨g, cap, cur, e, h1, (hw g cur h1 h2).trans h2, r⟩
theorem later (h : ZRow B w v bs) (hb : Below w.heap.size w w') : ZRow B w' v bs := h.kept_by fun k cur _ hk => hb.block k (Array.getElem?_eq_some_iff.1 hk).1
theorem mono {C : Nat} (h : ZRow B w v bs) (hC : C ≤ B) : ZRow C w v bs := by
  refine h.imp id ?_
  rintro ⟨g, cap, cur, e, h1, r⟩
  exact ⟨g, cap, cur, e, Nat.le_trans hC h1, r⟩
theorem of_owns {C n : Nat} (h : w.ownsRow C 9 1 v n (bs.map Value.string)) (hn : n = bs.length) (hF : ∀ g, v.ownBlock = some g → B ≤ g) : ZRow B w v bs := by
  subst hn
  rcases h.2 with ⟨h1, h2⟩ | ⟨g, cap, cur, rfl, h2, h3, h4, h5, h6, h7⟩
  · exact .inl ⟨h1, List.eq_nil_of_length_eq_zero h2⟩
  · refine .inr ⟨g, cap, cur, rfl, hF g rfl, h3, h4, by omega, h5, fun j x hx => ?_⟩
    have hj := (List.getElem?_eq_some_iff.1 hx).1
    have : (cur.toList.take (bs.length * 1))[j]? = (bs.map Value.string)[j]? := by rw [h7]
    rw [List.getElem?_take_of_lt (by omega), Array.getElem?_toList] at this
    rw [this]; simp [hx]
/-- Clipped. -/
theorem clip (h : ZRow B w v bs) {ao : Option Addr} {cp : Nat} (hv : v = .slice ao bs.length cp) : ZRow B w (.slice ao bs.length bs.length) bs := by
  rcases h with ⟨rfl, rfl⟩ | ⟨g, cap, cur, rfl, h1, h2, h3, h4, h5, h6⟩
  · cases hv; exact .inl ⟨rfl, rfl⟩
  · cases hv; exact .inr ⟨g, _, cur, rfl, h1, h2, Nat.le_refl _, by omega, by omega, h6⟩
end ZRow
end Go.Proofs.Ytbjlffhnkcbnmaa
