/- Worlds that differ by new blocks and by writes to some blocks alone; rows of texts that the call owns; lists of texts without repeats. -/
import Derived.Test.YtbjlffhnkcbnmaaBase
import Derived.Maps.Own
import Derived.Maps.OwnOps
import Derived.Maps.OwnSet
import Derived.Maps.Views
import Derived.Maps.Ext
namespace Go.Proofs.Ytbjlffhnkcbnmaa
open Go.ChangeShapes Go.WideShapes Go.ChangeAt Go.RowKit
set_option linter.unusedVariables false

/-- w' is w with new blocks and writes to blocks of F alone. -/
structure Wr (F : Nat → Prop) (w w' : World) : Prop where
  os : w'.os = w.os
  tape : w'.tape = w.tape
  output : w'.output = w.output
  size : w.heap.size ≤ w'.heap.size
  block : ∀ k, k < w.heap.size → ¬ F k → w'.heap[k]? = w.heap[k]?
/-- F' is of F and of new blocks. -/
def Grew (w : World) (F F' : Nat → Prop) : Prop := ∀ k, F' k → F k ∨ w.heap.size ≤ k
theorem Grew.refl (w : World) (F : Nat → Prop) : Grew w F F := fun _ h => .inl h
theorem Grew.trans {a b : World} {F G H : Nat → Prop} (h : Grew a F G) (k : Grew b G H) (hs : a.heap.size ≤ b.heap.size) : Grew a F H := fun i hi =>
  (k i hi).elim (fun hg => h i hg) (fun hb => .inr (Nat.le_trans hs hb))
theorem Wr.refl (F : Nat → Prop) (w : World) : Wr F w w := ⟨rfl, rfl, rfl, Nat.le_refl _, fun _ _ _ => rfl⟩
theorem Wr.trans {a b c : World} {F G : Nat → Prop} (h : Wr F a b) (k : Wr G b c) (hg : Grew a F G) : Wr F a c :=
  ⟨k.os.trans h.os, k.tape.trans h.tape, k.output.trans h.output, Nat.le_trans h.size k.size, fun i hi hf =>
    (k.block i (Nat.lt_of_lt_of_le hi h.size) (fun hgi => (hg i hgi).elim hf (fun h2 => by omega))).trans (h.block i hi hf)⟩
theorem Wr.of_below {F : Nat → Prop} {w w' : World} (h : Below w.heap.size w w') : Wr F w w' := ⟨h.os, h.tape, h.output, h.size, fun k hk _ => h.block k hk⟩
theorem Wr.below {F : Nat → Prop} {w w' : World} (h : Wr F w w') {B : Nat} (hF : ∀ k, F k → B ≤ k) (hB : B ≤ w.heap.size) : Below B w w' :=
  ⟨h.os, h.tape, h.output, h.size, fun k hk => h.block k (by omega) (fun hf => by have := hF k hf; omega)⟩
theorem Wr.alloc {F : Nat → Prop} {a w : World} (h : Wr F a w) (o : Obj) : Wr F a (w.alloc o) :=
  h.trans (Wr.of_below ((Below.refl _ _).alloc (Nat.le_refl _) _)) (Grew.refl _ _)
theorem Wr.setCell {F : Nat → Prop} {a w : World} (h : Wr F a w) {p : Addr} (hp : F p.block) (u : Value) : Wr F a (w.setCell p u) :=
  ⟨h.os, h.tape, h.output, by simpa [World.setCell] using h.size, fun k hk hf => (Below.heap_setCell _ _ _ _ (fun e => hf (by rw [e]; exact hp))).trans (h.block k hk hf)⟩
theorem Wr.grown {F : Nat → Prop} {a w w' : World} (h : Wr F a w) {row : Option Nat} (hg : w.grownBy w' row) (hr : ∀ k, row = some k → F k ∨ a.heap.size ≤ k) : Wr F a w' :=
  ⟨hg.os.trans h.os, hg.tape.trans h.tape, hg.output.trans h.output, Nat.le_trans h.size hg.size, fun k hk hf =>
    (hg.block k (Nat.lt_of_lt_of_le hk h.size) (fun e => (hr k e.symm).elim hf (fun h2 => by omega))).trans (h.block k hk hf)⟩
theorem Wr.mono {F G : Nat → Prop} {w w' : World} (h : Wr F w w') (hg : ∀ k, F k → k < w.heap.size → G k) : Wr G w w' :=
  ⟨h.os, h.tape, h.output, h.size, fun k hk hf => h.block k hk (fun h2 => hf (hg k h2 hk))⟩
theorem Wr.drewN {F : Nat → Prop} {a w : World} (h : Wr F a w) (n : Nat) : Wr F a (w.drewN n) := ⟨h.os, h.tape, h.output, h.size, h.block⟩

/-- A row that the call owns, its block one of F. -/
def Row (w : World) (F : Nat → Prop) (e : TypeId) (v : Value) (xs : List Value) : Prop :=
  w.ownsRow 0 e 1 v xs.length xs ∧ ∀ g, v.ownBlock = some g → F g
theorem Row.shape {w : World} {F : Nat → Prop} {e : TypeId} {v : Value} {xs : List Value} (h : Row w F e v xs) : ∃ ao cp, v = .slice ao xs.length cp := by
  rcases h.1.2 with ⟨h1, h2⟩ | ⟨g, cap, cur, h1, _⟩
  · exact ⟨none, 0, by rw [h1, h2]⟩
  · exact ⟨_, _, h1⟩
theorem Row.nil (w : World) (F : Nat → Prop) (e : TypeId) : Row w F e (.slice none 0 0) [] := ⟨World.ownsRow_nil w 0 e 1, fun g h => by simp [Value.ownBlock] at h⟩
theorem Row.kept {w w' : World} {F G : Nat → Prop} {e : TypeId} {v : Value} {xs : List Value} (h : Row w F e v xs) (hw : Wr G w w') (hFG : ∀ k, F k → ¬ G k) : Row w' F e v xs := by
  refine ⟨⟨h.1.1, ?_⟩, h.2⟩
  rcases h.1.2 with h1 | ⟨g, cap, cur, rfl, hb, hg, r⟩
  · exact .inl h1
  · exact .inr ⟨g, cap, cur, rfl, hb, (hw.block g (Array.getElem?_eq_some_iff.1 hg).1 (hFG g (h.2 g rfl))).trans hg, r⟩
/-- A block of another type may be written. -/
theorem Row.kept_by {w w' : World} {F : Nat → Prop} {e : TypeId} {v : Value} {xs : List Value} (h : Row w F e v xs)
    (hw : ∀ (k : Nat) (cur : Array Value), w.heap[k]? = some (.cells cur e (0, 0)) → w'.heap[k]? = w.heap[k]?) : Row w' F e v xs := by
  refine ⟨⟨h.1.1, ?_⟩, h.2⟩
  rcases h.1.2 with h1 | ⟨g, cap, cur, rfl, hb, hg, r⟩
  · exact .inl h1
  · exact .inr ⟨g, cap, cur, rfl, hb, (hw g cur hg).trans hg, r⟩
theorem Row.mono {w : World} {F G : Nat → Prop} {e : TypeId} {v : Value} {xs : List Value} (h : Row w F e v xs) (hFG : ∀ k, F k → G k) : Row w G e v xs := ⟨h.1, fun g hg => hFG g (h.2 g hg)⟩
theorem Row.lt {w : World} {F : Nat → Prop} {e : TypeId} {v : Value} {xs : List Value} (h : Row w F e v xs) {g : Nat} (hg : v.ownBlock = some g) : g < w.heap.size := (h.1.lt g hg).2
/-- Its cells, where it is not empty. -/
theorem Row.full {w : World} {F : Nat → Prop} {e : TypeId} {v : Value} {xs : List Value} (h : Row w F e v xs) (h0 : 0 < xs.length) :
    ∃ g cp, v = .slice (some ⟨g, 0, none⟩) xs.length cp ∧ F g ∧ g < w.heap.size ∧ (∃ cur, w.heap[g]? = some (.cells cur e (0, 0))) ∧ ∀ j x, xs[j]? = some x → w.cell? ⟨g, j, none⟩ = some x := by
  rcases h.1.2 with ⟨h1, h2⟩ | ⟨g, cap, cur, rfl, h3, h4, h5, h6, h7, h8⟩
  · omega
  · refine ⟨g, cap, rfl, h.2 g rfl, (Array.getElem?_eq_some_iff.1 h4).1, ⟨cur, h4⟩, fun j x hx => ?_⟩
    have hj := (List.getElem?_eq_some_iff.1 hx).1
    have := World.ownsRow.cellAt h.1 j (by simpa using hj)
    first
      | (rw [this]; exact hx)
      | (simp only [Nat.mul_one] at this; rw [this]; exact hx)

/-- One more text in a list without repeats. -/
def addB (l : List (List UInt8)) (k : List UInt8) : List (List UInt8) := if k ∈ l then l else l ++ [k]
def litB (k : List UInt8) : Lit := .string k
theorem litB_inj {a b : List UInt8} (h : litB a = litB b) : a = b := by
  simpa [litB] using h
theorem litB_key (k : List UInt8) : WideAt.IsKeyLit (litB k) := trivial

/-- A map's datum whose keys are these texts, each with 1. -/
structure KeysAre (D : DataW Unit) (ks : List (List UInt8)) : Prop where
  tidy : Maps.Tidy D
  has : ∀ k : List UInt8, Maps.has D (litB k) = decide (k ∈ ks)
  one : ∀ k : List UInt8, k ∈ ks → D.atKey (litB k) (.lit (.int .i64 0)) = .lit (.int .i64 1)
  size : Maps.size D = ks.length
theorem KeysAre.none : KeysAre (.map []) [] := ⟨Maps.tidy_empty, fun k => rfl, fun k h => by simp at h, rfl⟩
theorem KeysAre.not {D : DataW Unit} {ks : List (List UInt8)} (h : KeysAre D ks) {k : List UInt8} (hk : k ∉ ks) : D.atKey (litB k) (.lit (.int .i64 0)) = .lit (.int .i64 0) :=
  Maps.atKey_of_not_has (by rw [h.has]; simpa using hk) _
theorem KeysAre.put {D : DataW Unit} {ks : List (List UInt8)} (h : KeysAre D ks) (k : List UInt8) : KeysAre (D.put (litB k) (.lit (.int .i64 1))) (addB ks k) := by
  have hm := h.tidy.isMap
  have hhas : ∀ k', Maps.has (D.put (litB k) (.lit (.int .i64 1))) (litB k') = decide (k' ∈ addB ks k) := by
    intro k'
    have hmem : k' ∈ addB ks k ↔ k' = k ∨ k' ∈ ks := by
      unfold addB
      split
      · rename_i hk; exact ⟨.inr, fun h => h.elim (fun e => e ▸ hk) id⟩
      · simp [or_comm]
    by_cases e : k' = k
    · subst e
      rw [Maps.has_put_same hm (litB_key _), decide_eq_true (hmem.2 (.inl rfl))]
    · rw [Maps.has_put_other (fun h => e (litB_inj h)), h.has]
      simp [hmem, e]
  refine ⟨h.tidy.put (litB_key _) _, hhas, ?_, ?_⟩
  · intro k' hk'
    by_cases e : k' = k
    · subst e; exact Maps.atKey_put_same hm (litB_key _) _ _
    · rw [Maps.atKey_put_other (fun h => e (litB_inj h))]
      refine h.one k' ?_
      unfold addB at hk'
      split at hk'
      · exact hk'
      · simpa [e] using hk'
  · rw [Maps.size_put h.tidy, h.has, h.size]
    unfold addB
    by_cases e : k ∈ ks <;> simp [e]
/-- The bound of entries may be the number of keys. -/
theorem ownsMap_tight {P : Program} {kt : TypeId} {R : Value → Option (DataW Unit × List MemPlace)} {w : World} {b n : Nat} {D : DataW Unit} {ks : List (List UInt8)} (h : w.ownsMap P kt R b n D) (hk : KeysAre D ks) : w.ownsMap P kt R b ks.length D := by
  obtain ⟨es, clock, hb, F, hs, hD⟩ := h
  refine ⟨es, clock, hb, F, ?_, hD⟩
  rw [← hk.size, hD, Maps.size_eq, length_sorted]
  simp
theorem ownsMap_wr {P : Program} {kt : TypeId} {R : Value → Option (DataW Unit × List MemPlace)} {w w' : World} {b n : Nat} {D : DataW Unit} {F : Nat → Prop} (h : w.ownsMap P kt R b n D) (hw : Wr F w w') (hb : ¬ F b) : w'.ownsMap P kt R b n D := by
  have hl := h.lt
  obtain ⟨es, clock, e, r⟩ := h
  exact ⟨es, clock, (hw.block b hl hb).trans e, r⟩
theorem ownsMap_notCells {P : Program} {kt : TypeId} {R : Value → Option (DataW Unit × List MemPlace)} {w : World} {b n : Nat} {D : DataW Unit} (h : w.ownsMap P kt R b n D) {g : Nat} {cur : Array Value} {e : TypeId} {z : Nat × Nat} (hg : w.heap[g]? = some (.cells cur e z)) : g ≠ b := by
  obtain ⟨es, clock, he, _⟩ := h
  rintro rfl
  rw [hg] at he
  cases he
theorem addB_nodup {l : List (List UInt8)} (h : l.Nodup) (k : List UInt8) : (addB l k).Nodup := by
  unfold addB
  split
  · exact h
  · rename_i hk
    rw [List.nodup_append]
    exact ⟨h, by simp, fun a ha b hb e => by simp at hb; subst hb; subst e; exact hk ha⟩
theorem addB_length (l : List (List UInt8)) (k : List UInt8) : (addB l k).length ≤ l.length + 1 := by
  unfold addB; split <;> simp
theorem addB_le (l : List (List UInt8)) (k : List UInt8) : l.length ≤ (addB l k).length := by
  unfold addB; split <;> simp
theorem mem_addB {l : List (List UInt8)} {k x : List UInt8} : x ∈ addB l k ↔ x = k ∨ x ∈ l := by
  unfold addB
  split
  · rename_i hk; exact ⟨.inr, fun h => h.elim (fun e => e ▸ hk) id⟩
  · simp [or_comm]
end Go.Proofs.Ytbjlffhnkcbnmaa
