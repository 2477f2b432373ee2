/- Rows that the call made, no two in one block. -/
import Derived.Test.YtjceoigekifgdaaMem14
namespace Go.Proofs.Ytjceoigekifgdaa
open Go.ChangeShapes Go.WideShapes Go.ChangeAt Go.RowKit Go.Sort
set_option linter.unusedVariables false

theorem Fresh.at {W w : World} {v : Value} {xs : List Tx} (h : Fresh W w v xs) {g : Nat} (hg : v.ownBlock = some g) : W.heap.size ≤ g ∧ ∃ cur, w.heap[g]? = some (.cells cur 9 (0, 0)) := by
  obtain ⟨ao, cp, rfl, h⟩ := h
  rcases h with ⟨rfl, _, _⟩ | ⟨g', cur, rfl, h1, h2, _⟩
  · simp [Value.ownBlock] at hg
  · have : g' = g := by simpa [Value.ownBlock] using hg
    subst this
    exact ⟨h1, cur, h2⟩
theorem Fresh.wr {F : Nat → Prop} {W w w' : World} {v : Value} {xs : List Tx} (h : Fresh W w v xs) (hw : Wr F w w') (hF : ∀ g, v.ownBlock = some g → ¬ F g) : Fresh W w' v xs := by
  obtain ⟨ao, cp, e, h⟩ := h
  subst e
  refine ⟨ao, cp, rfl, h.imp id ?_⟩
  rintro ⟨g, cur, rfl, h1, h2, r⟩
  exact ⟨g, cur, rfl, h1, (hw.block g (Array.getElem?_eq_some_iff.1 h2).1 (hF g rfl)).trans h2, r⟩
/-- Rows with their texts, all made since W, each text one of S. -/
def Nine (S : Tx → Prop) (W w : World) (l : List (Value × List Tx)) : Prop :=
  Below W.heap.size W w ∧ (∀ p ∈ l, Fresh W w p.1 p.2 ∧ (∀ x ∈ p.2, S x) ∧ p.2.length ≤ 4194304) ∧ l.Pairwise fun p q => ∀ g, p.1.ownBlock = some g → q.1.ownBlock ≠ some g
theorem Nine.nil {S : Tx → Prop} {W w : World} (h : Below W.heap.size W w) : Nine S W w [] := ⟨h, fun p hp => by simp at hp, List.Pairwise.nil⟩
theorem Nine.below {S : Tx → Prop} {W w w' : World} {l : List (Value × List Tx)} (h : Nine S W w l) (hb : Below w.heap.size w w') : Nine S W w' l :=
  ⟨below_thru hb h.1, fun p hp => ⟨(h.2.1 p hp).1.kept hb, (h.2.1 p hp).2⟩, h.2.2⟩
theorem Nine.add {S : Tx → Prop} {W w w' : World} {l : List (Value × List Tx)} (h : Nine S W w l) {v : Value} {xs : List Tx} (hf : Fresh w w' v xs) (hb : Below w.heap.size w w') (hs : (∀ x ∈ xs, S x) ∧ xs.length ≤ 4194304) : Nine S W w' (l ++ [(v, xs)]) := by
  have h2 := h.below hb
  refine ⟨h2.1, fun p hp => ?_, ?_⟩
  · rcases List.mem_append.1 hp with hp | hp
    · exact h2.2.1 p hp
    · simp at hp
      subst hp
      exact ⟨hf.later h.1.size, hs⟩
  · refine List.pairwise_append.2 ⟨h.2.2, List.pairwise_singleton _ _, fun p hp q hq g hg => ?_⟩
    simp at hq
    subst hq
    obtain ⟨_, cur, hc⟩ := (h.2.1 p hp).1.at hg
    have h3 := (Array.getElem?_eq_some_iff.1 hc).1
    intro hg2
    have := (hf.at hg2).1
    omega
theorem Nine.tail {S : Tx → Prop} {W w : World} {p : Value × List Tx} {l : List (Value × List Tx)} (h : Nine S W w (p :: l)) : Nine S W w l :=
  ⟨h.1, fun q hq => h.2.1 q (List.mem_cons_of_mem _ hq), (List.pairwise_cons.1 h.2.2).2⟩
theorem Nine.wr {F : Nat → Prop} {S : Tx → Prop} {W w w' : World} {l : List (Value × List Tx)} (h : Nine S W w l) (hw : Wr F w w') (hF : ∀ g, F g → W.heap.size ≤ g) (hl : ∀ p ∈ l, ∀ g, p.1.ownBlock = some g → ¬ F g) : Nine S W w' l :=
  ⟨h.1.trans (hw.below hF h.1.size), fun p hp => ⟨(h.2.1 p hp).1.wr hw (hl p hp), (h.2.1 p hp).2⟩, h.2.2⟩
/-- A row of slices in block g. -/
def AllAt (w : World) (g : Nat) (xs : List Value) : Prop := ∃ cur, w.heap[g]? = some (.cells cur 22 (0, 0)) ∧ ∀ (j : Nat) x, xs[j]? = some x → w.cell? ⟨g, j, none⟩ = some x
theorem AllAt.wr {F : Nat → Prop} {w w' : World} {g : Nat} {xs : List Value} (h : AllAt w g xs) (hw : Wr F w w') (hF : ¬ F g) : AllAt w' g xs := by
  obtain ⟨cur, h1, h2⟩ := h
  have h3 := hw.block g (Array.getElem?_eq_some_iff.1 h1).1 hF
  refine ⟨cur, h3.trans h1, fun j x hx => ?_⟩
  rw [← h2 j x hx]
  simp only [World.cell?, h3]
theorem AllAt.apart {S : Tx → Prop} {W w : World} {g : Nat} {xs : List Value} (h : AllAt w g xs) {l : List (Value × List Tx)} (hn : Nine S W w l) {p : Value × List Tx} (hp : p ∈ l) : p.1.ownBlock ≠ some g := by
  intro hg
  obtain ⟨cur, h1, _⟩ := h
  obtain ⟨_, c2, h2⟩ := (hn.2.1 p hp).1.at hg
  rw [h1] at h2
  simp at h2
/-- The row of all, and its rows. -/
def AllEnd (S : Tx → Prop) (W : World) (n : Nat) (v : Value) (w : World) : Prop := ∃ g l, v = .slice (some ⟨g, 0, none⟩) n n ∧ l.length = n ∧ W.heap.size ≤ g ∧ Nine S W w l ∧ w.heap[g]? = some (.cells (l.map Prod.fst).toArray 22 (0, 0))
theorem Nine.all {S : Tx → Prop} {W w : World} {l : List (Value × List Tx)} (h : Nine S W w l) {n : Nat} (hn : l.length = n) (o : Obj) (ho : o = .cells (l.map Prod.fst).toArray 22 (0, 0)) : AllEnd S W n (.slice (some ⟨w.heap.size, 0, none⟩) n n) (w.alloc o) := by
  subst ho
  exact ⟨_, l, rfl, hn, h.1.size, h.below ((Below.refl _ _).alloc (Nat.le_refl _) _), heap_alloc_new _ _⟩
/-- What a call tells: a row in new memory, its texts of S. -/
def SubEnd (S : Tx → Prop) (w : World) (e : Ending) (w' : World) : Prop := ∃ o c xs, e = .returned (.slice o xs.length c) ∧ Fresh w w' (.slice o xs.length c) xs ∧ Below w.heap.size w w' ∧ (∀ x ∈ xs, S x) ∧ xs.length ≤ 4194304
theorem FreshEnd.sub {S : Tx → Prop} {xs : List Tx} {w w' : World} {e : Ending} (h : FreshEnd xs w e w') (hs : ∀ x ∈ xs, S x) (hl : xs.length ≤ 4194304) : SubEnd S w e w' := by
  obtain ⟨v, rfl, hf, hb⟩ := h
  obtain ⟨o, c, rfl⟩ := hf.shape
  exact ⟨o, c, xs, rfl, hf, hb, hs, hl⟩
def SubPair (S : Tx → Prop) (w : World) (e : Ending) (w' : World) : Prop := ∃ o c xs n, e = .returned (.tuple #[.slice o xs.length c, .int .i64 n]) ∧ Fresh w w' (.slice o xs.length c) xs ∧ Below w.heap.size w w' ∧ (∀ x ∈ xs, S x) ∧ xs.length ≤ 4194304
theorem PairEnd.sub {S : Tx → Prop} {xs : List Tx} {n : Int} {w w' : World} {e : Ending} (h : PairEnd xs n w e w') (hs : ∀ x ∈ xs, S x) (hl : xs.length ≤ 4194304) : SubPair S w e w' := by
  obtain ⟨v, rfl, hf, hb⟩ := h
  obtain ⟨o, c, rfl⟩ := hf.shape
  exact ⟨o, c, xs, n, rfl, hf, hb, hs, hl⟩
/-- What a call tells beside rows that were made ahead of it. -/
def NextEnd (S : Tx → Prop) (W u : World) (l : List (Value × List Tx)) (e : Ending) (w' : World) : Prop := ∃ o c xs, e = .returned (.slice o xs.length c) ∧ Nine S W w' (l ++ [(.slice o xs.length c, xs)]) ∧ ∀ (q : Nat) ob, u.heap[q]? = some ob → w'.heap[q]? = some ob
theorem SubEnd.next {S : Tx → Prop} {W wc u w' : World} {l : List (Value × List Tx)} {e : Ending} (h : SubEnd S u e w') (hn : Nine S W wc l) (hb : Below wc.heap.size wc u) : NextEnd S W u l e w' := by
  obtain ⟨o, c, xs, rfl, hf, hb2, hs⟩ := h
  exact ⟨o, c, xs, rfl, (hn.below hb).add hf hb2 hs, fun q ob hq => (hb2.block q (Array.getElem?_eq_some_iff.1 hq).1).trans hq⟩
section
variable {S : Tx → Prop} {W wc u : World} {l : List (Value × List Tx)} {a b : List Tx} {v : Value}
theorem own_of (hn : Nine S W wc l) (hb : Below wc.heap.size wc u) (hS : ∀ x ∈ a, S x) (ha : a.length ≤ 1048576) (h : TRow u v a) : Calls Try.prog 21 #[v] u fun e w' => NextEnd S W u l e w' :=
  (mOf_any a v (by omega) u h).mono fun e w' h => (h.sub (fun x hx => hS _ (Pl.mem_ofS.1 hx)) (by have := Pl.ofS_length a; omega)).next hn hb
theorem own_union1 (hn : Nine S W wc l) (hb : Below wc.heap.size wc u) (hS : ∀ x ∈ a, S x) (ha : a.length ≤ 1048576) (h : TLRow u v [a]) : Calls Try.prog 26 #[v] u fun e w' => NextEnd S W u l e w' :=
  (mUnion_any [a] v (by simpa using ha) (by simp) u h).mono fun e w' h => (h.sub (fun x hx => hS _ (by simpa [Pl.unions, Pl.mem_ofS] using hx)) (by have := Pl.ofS_length [a].flatten; simp at this; unfold Pl.unions; simp; omega)).next hn hb
theorem own_union2 (hn : Nine S W wc l) (hb : Below wc.heap.size wc u) (hS : ∀ x, x ∈ a ∨ x ∈ b → S x) (hs : a.length + b.length ≤ 1048576) (h : TLRow u v [a, b]) : Calls Try.prog 26 #[v] u fun e w' => NextEnd S W u l e w' :=
  (mUnion_any [a, b] v (by simpa using hs) (by simp) u h).mono fun e w' h => (h.sub (fun x hx => hS _ (by simpa [Pl.unions, Pl.mem_ofS] using hx)) (by have := Pl.ofS_length [a, b].flatten; simp at this; unfold Pl.unions; simp; omega)).next hn hb
theorem own_inter (hn : Nine S W wc l) (hb : Below wc.heap.size wc u) (hS : ∀ x ∈ a, S x) (ha : a.length ≤ 1048576) {oa : Option Addr} {cp : Nat} (h : TLC u oa cp [a]) : Calls Try.prog 28 #[.slice oa 1 cp] u fun e w' => NextEnd S W u l e w' :=
  (mInter_any [a] oa cp (by simpa using ha) (by simp) u h).mono fun e w' h => (h.sub (fun x hx => hS _ (by simpa [Pl.inters, Pl.everyL, Pl.mem_ofS] using hx)) (by have := inters_length [a]; simp at this; omega)).next hn hb
theorem own_diff (hn : Nine S W wc l) (hb : Below wc.heap.size wc u) (hS : ∀ x ∈ a, S x) (ha : a.length ≤ 1048576) {oa : Option Addr} {cp : Nat} (h : TLC u oa cp [a]) : Calls Try.prog 30 #[.slice oa 1 cp] u fun e w' => NextEnd S W u l e w' :=
  (mDiff_any [a] oa cp (by simpa using ha) (by simp) u h).mono fun e w' h => (h.sub (fun x hx => hS _ (by simpa [Pl.diffs, Pl.alone, Pl.mem_ofS] using hx)) (by have := diffs_length [a]; simp at this; omega)).next hn hb
theorem own_after (hn : Nine S W wc l) (hb : Below wc.heap.size wc u) (hS : ∀ x ∈ a, S x) (ha : a.length ≤ 1048576) (h : TRow u v a) : Calls Try.prog 18 #[v, .string ⟨#[]⟩, .int .i64 1099511627776] u fun e w' => NextEnd S W u l e w' :=
  (mAfter_any a [] 1099511627776 v (by omega) u h).mono fun e w' h => (h.sub (fun x hx => hS _ (by
    unfold Pl.after at hx
    exact Pl.mem_ofS.1 (List.mem_filter.1 (List.mem_of_mem_take hx)).1)) (by have := after_len [] 1099511627776 (Pl.ofS a); have := Pl.ofS_length a; omega)).next hn hb
theorem own_add (hS : ∀ x ∈ a, S x) (ha : a.length ≤ 1048576) (h : TRow u v a) : Calls Try.prog 11 #[v, .slice none 0 0] u fun e w' => SubPair S u e w' :=
  (add_any a [] v (.slice none 0 0) (by omega) (by simp) u h ⟨none, 0, rfl, .inl rfl⟩).mono fun e w' h => h.sub (fun x hx => hS _ (by simpa [Pl.mem_ofS] using hx)) (by have := Pl.ofS_length (a ++ []); simp at this ⊢; omega)
theorem own_remove (hS : ∀ x ∈ a, S x) (ha : a.length ≤ 1048576) (h : TRow u v a) : Calls Try.prog 12 #[v, .slice none 0 0] u fun e w' => SubPair S u e w' :=
  (remove_any a [] v (.slice none 0 0) (by omega) (by simp) u h ⟨none, 0, rfl, .inl rfl⟩).mono fun e w' h => h.sub (fun x hx => hS _ (by simpa [Pl.mem_ofS] using hx)) (by have := Pl.ofS_length a; have := List.length_filter_le (fun x => !([] : List Tx).contains x) (Pl.ofS a); omega)
end
theorem tlc_of {w : World} {x : Value} {a : List Tx} {g : Nat} (hg : w.heap[g]? = some (.cells #[x] 22 (0, 0))) (h : TRow w x a) : TLC w (some ⟨g, 0, none⟩) 1 [a] := by
  refine ⟨Nat.le_refl _, .inr ⟨g, 0, rfl, (Array.getElem?_eq_some_iff.1 hg).1, fun j r hr => ?_⟩⟩
  rcases j with _ | j
  · simp at hr
    subst hr
    exact ⟨x, by simp [World.cell?, hg], h⟩
  · simp at hr
theorem heap_keep {w w' : World} {g : Nat} {o : Obj} (h : w.heap[g]? = some o) (hb : Below w.heap.size w w') : w'.heap[g]? = some o := (hb.block g (Array.getElem?_eq_some_iff.1 h).1).trans h
theorem below_a1 (w : World) (o : Obj) : Below w.heap.size w (w.alloc o) := (Below.refl _ _).alloc (Nat.le_refl _) o
theorem below_a2 (w : World) (o o' : Obj) : Below w.heap.size w ((w.alloc o).alloc o') := below_alloc (below_a1 w o) o'
theorem below_a3 (w : World) (o o' o'' : Obj) : Below w.heap.size w (((w.alloc o).alloc o').alloc o'') := below_alloc (below_a2 w o o') o''
theorem alloc_new3 (w : World) (o o' o'' : Obj) : (((w.alloc o).alloc o').alloc o'').heap[w.heap.size + 1 + 1]? = some o'' := by
  have := heap_alloc_new ((w.alloc o).alloc o') o''
  simpa using this
theorem heap_keep1 {w : World} {g : Nat} {o p : Obj} (h : w.heap[g]? = some o) : (w.alloc p).heap[g]? = some o := heap_keep h (below_a1 _ _)
/-- Rows beside a row of all that grows. -/
theorem Nine.grown {S : Tx → Prop} {W w w' : World} {l : List (Value × List Tx)} (h : Nine S W w l) {g : Nat} {cur : Array Value} (hg : W.heap.size ≤ g) (hb : w.heap[g]? = some (.cells cur 22 (0, 0))) {row : Option Nat} (hr : row = some g) (hgr : w.grownBy w' row) : Nine S W w' l := by
  subst hr
  refine h.wr (F := fun k => k = g) ((Wr.refl _ _).grown hgr fun k hk => .inl (by simpa using hk.symm)) (fun k hk => by omega) fun p hp k hk e => ?_
  subst e
  obtain ⟨_, c2, h2⟩ := (h.2.1 p hp).1.at hk
  rw [hb] at h2
  simp at h2
theorem owns_all {w : World} {g : Nat} {xs : List Value} {n : Nat} (hn : xs.length = n) (hm : n ≤ maxLen) (h : w.heap[g]? = some (.cells xs.toArray 22 (0, 0))) : w.ownsRow 0 22 1 (.slice (some ⟨g, 0, none⟩) n n) n xs := by
  refine ⟨by omega, .inr ⟨g, n, xs.toArray, rfl, Nat.zero_le _, h, Nat.le_refl _, hm, by simp [hn], ?_⟩⟩
  simp [← hn]
/-- The row of all as the law goes through it. -/
theorem all_of {w : World} {v : Value} {xs : List Value} {n : Nat} (h0 : 0 < n) (h : w.ownsRow 0 22 1 v n xs) : ∃ g cp, v = .slice (some ⟨g, 0, none⟩) n cp ∧ AllAt w g xs := by
  rcases h.2 with ⟨_, e⟩ | ⟨g, cap, cur, rfl, _, hb, h1, h2, h3, h4⟩
  · omega
  · refine ⟨g, cap, rfl, cur, hb, fun j x hx => ?_⟩
    rw [← h4] at hx
    have hj : j < n * 1 := by have := (List.getElem?_eq_some_iff.1 hx).1; rw [List.length_take] at this; omega
    rw [List.getElem?_take_of_lt hj, Array.getElem?_toList] at hx
    simp [World.cell?, hb, hx]
theorem has_yes {ts : List Tx} {x : Tx} (hx : x ∈ ts) (v : Value) (hn : ts.length ≤ 9223372036854775807) (w : World) (h : TRow w v ts) :
    Calls Try.prog 25 #[v, .string (str x)] w fun e w' => e = .returned (.bool true) ∧ w' = w :=
  (has_str ts v x hn w h).mono fun e w' h => ⟨by rw [h.1, decide_eq_true hx], h.2⟩
theorem has_no {ts : List Tx} {x : Tx} (hx : x ∉ ts) (v : Value) (hn : ts.length ≤ 9223372036854775807) (w : World) (h : TRow w v ts) :
    Calls Try.prog 25 #[v, .string (str x)] w fun e w' => e = .returned (.bool false) ∧ w' = w :=
  (has_str ts v x hn w h).mono fun e w' h => ⟨by rw [h.1, decide_eq_false hx], h.2⟩
def spoiltT : Tx := [115, 112, 111, 105, 108, 116]
/-- The blocks of one slice. -/
def Own1 (v : Value) : Nat → Prop := fun g => v.ownBlock = some g
theorem drop_cell {l : List (Value × List Tx)} {k : Nat} {p : Value × List Tx} (h : l[k]? = some p) : l.drop k = p :: l.drop (k + 1) := by
  obtain ⟨h1, rfl⟩ := List.getElem?_eq_some_iff.1 h
  exact List.drop_eq_getElem_cons h1
theorem Zat.lt {B : Nat} {w : World} {v : Value} {n : Nat} (h : Zat B w v n) {k : Nat} (hk : k < n) : ∃ g cap, v = .slice (some ⟨g, 0, none⟩) n cap := by
  rcases h with ⟨_, rfl⟩ | ⟨g, cap, cur, rfl, _⟩
  · omega
  · exact ⟨g, cap, rfl⟩
/-- What the stores and appends of one row leave. -/
theorem Nine.rest {S : Tx → Prop} {W w w' : World} {p : Value × List Tx} {l : List (Value × List Tx)} (h : Nine S W w (p :: l)) (hw : Wr (Own1 p.1) w w') : Nine S W w' l :=
  h.tail.wr hw (fun g hg => ((h.2.1 p List.mem_cons_self).1.at hg).1) fun q hq g hg hf => (List.pairwise_cons.1 h.2.2).1 q hq g hf hg
end Go.Proofs.Ytjceoigekifgdaa
