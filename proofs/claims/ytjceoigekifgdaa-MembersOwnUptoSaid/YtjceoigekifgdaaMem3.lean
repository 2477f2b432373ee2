/- The program's set of a list. -/
import Derived.Test.YtjceoigekifgdaaMem2
import Derived.Test.YtjceoigekifgdaaShelf
import Derived.Sort.OwnSorted
namespace Go.Proofs.Ytjceoigekifgdaa
open Go.ChangeShapes Go.WideShapes Go.ChangeAt Go.RowKit Go.Sort
set_option linter.unusedVariables false

/-- A row of texts in memory of the call's own. -/
def Fresh (w w' : World) (v : Value) (xs : List Tx) : Prop :=
  ∃ ao cp, v = .slice ao xs.length cp ∧ ((ao = none ∧ xs = [] ∧ cp = 0) ∨ ∃ g cur, ao = some ⟨g, 0, none⟩ ∧ w.heap.size ≤ g ∧ w'.heap[g]? = some (.cells cur 9 (0, 0)) ∧ xs.length ≤ cp ∧ cp ≤ cur.size ∧ cp ≤ maxLen ∧ cur.toList.take xs.length = xs.map strV)
def FreshEnd (xs : List Tx) (w : World) (e : Ending) (w' : World) : Prop := ∃ v, e = .returned v ∧ Fresh w w' v xs ∧ Below w.heap.size w w'
theorem Fresh.shape {w w' : World} {v : Value} {xs : List Tx} (h : Fresh w w' v xs) : ∃ ao cp, v = .slice ao xs.length cp := by
  obtain ⟨ao, cp, e, _⟩ := h
  exact ⟨ao, cp, e⟩
theorem cell_take {w : World} {g : Nat} {cur : Array Value} {e : TypeId} {xs : List Tx} (hb : w.heap[g]? = some (.cells cur e (0, 0))) (ht : cur.toList.take xs.length = xs.map strV) {j : Nat} {x : Tx} (hx : xs[j]? = some x) : w.cell? ⟨g, j, none⟩ = some (.string (str x)) := by
  obtain ⟨hj, rfl⟩ := List.getElem?_eq_some_iff.1 hx
  have h1 : (cur.toList.take xs.length)[j]? = (xs.map strV)[j]? := by rw [ht]
  rw [List.getElem?_take_of_lt hj] at h1
  simp only [World.cell?, hb]
  simp only [Option.isSome_none, Bool.false_eq_true, if_false]
  rw [← Array.getElem?_toList, h1]
  simp [hj, strV]
theorem Fresh.trow {w w' : World} {v : Value} {xs : List Tx} (h : Fresh w w' v xs) : TRow w' v xs := by
  obtain ⟨ao, cp, rfl, h⟩ := h
  refine ⟨ao, cp, by rw [strs_length], ?_⟩
  rcases h with ⟨_, rfl, _⟩ | ⟨g, cur, rfl, _, hb, _, _, _, ht⟩
  · exact .inl rfl
  · refine .inr ⟨g, 0, rfl, (Array.getElem?_eq_some_iff.1 hb).1, fun j x hx => ?_⟩
    obtain ⟨t, hxt, rfl⟩ : ∃ t, xs[j]? = some t ∧ str t = x := by simpa [strs] using hx
    rw [Nat.zero_add]
    exact cell_take hb ht hxt
theorem Fresh.kept {w w1 w2 : World} {v : Value} {xs : List Tx} (h : Fresh w w1 v xs) (hb : Below w1.heap.size w1 w2) : Fresh w w2 v xs := by
  obtain ⟨ao, cp, e, h⟩ := h
  refine ⟨ao, cp, e, h.imp id ?_⟩
  rintro ⟨g, cur, e1, h1, h2, r⟩
  exact ⟨g, cur, e1, h1, (hb.block g (Array.getElem?_eq_some_iff.1 h2).1).trans h2, r⟩
theorem Fresh.later {w0 w w' : World} {v : Value} {xs : List Tx} (h : Fresh w w' v xs) (hw : w0.heap.size ≤ w.heap.size) : Fresh w0 w' v xs := by
  obtain ⟨ao, cp, e, h⟩ := h
  refine ⟨ao, cp, e, h.imp id ?_⟩
  rintro ⟨g, cur, e1, h1, r⟩
  exact ⟨g, cur, e1, by omega, r⟩
theorem Made.fresh {w w' : World} {v : Value} {xs : List Tx} (h : Made w w' v xs) : Fresh w w' v xs := by
  obtain ⟨⟨h1, h2⟩, h3⟩ := h
  rw [List.length_map] at h2
  rcases h2 with ⟨rfl, e⟩ | ⟨g, cap, cur, rfl, _, hb, h4, h5, h6, h7⟩
  · obtain rfl : xs = [] := List.eq_nil_of_length_eq_zero e
    exact ⟨none, 0, rfl, .inl ⟨rfl, rfl, rfl⟩⟩
  · exact ⟨_, cap, rfl, .inr ⟨g, cur, rfl, h3 g rfl, hb, h4, by omega, h5, by simpa using h7⟩⟩
theorem strV_enc : strV = encStr := rfl

theorem clone_made (ts : List Tx) (v : Value) (w : World) (hs : TRow w v ts) (hlen : ts.length ≤ 8796093022208) :
    Calls Try.prog 35 #[v] w fun e w' => MadeEnd ts w e w' := by
  obtain ⟨ao, cp, rfl, hh⟩ := hs.open
  clear hs
  rcases hh with rfl | ⟨g, off, rfl, hg, hc⟩
  · rcases ao with _ | a
    · exact (Try.slices_Clone_string_nil _ _ w).mono fun e w' ⟨h1, h2⟩ => ⟨_, h1, h2 ▸ Made.nil _ _, h2 ▸ Below.refl _ _⟩
    · exact (Try.slices_Clone_string_zero a _ w).mono fun e w' ⟨v', h1, h2, h3, h4⟩ => ⟨v', h1, Made.of (n := 0) h2, h4⟩
  · refine (Try.slices_Clone_string g off ts.length _ (strs ts) w (by rw [strs_length]; exact Nat.le_refl _) (by omega) (fun j hj => ?_)).mono fun e w' ⟨v', h1, h2, h3, h4⟩ => ⟨v', h1, Made.of (n := ts.length) ?_, h4⟩
    · rw [strs_length] at hj
      rw [hc j ts[j] (List.getElem?_eq_getElem hj)]
      simp [List.getD, strs, List.getElem?_eq_getElem hj]
    · rw [List.take_of_length_le (by rw [strs_length]; exact Nat.le_refl _)] at h2
      rw [show (strs ts).map Value.string = ts.map strV by unfold strs; rw [List.map_map]; rfl] at h2
      exact h2
def SortEnd (w : World) (v : Value) (xs : List Tx) (e : Ending) (w' : World) : Prop := e = .returned (.tuple #[]) ∧ Made w w' v xs ∧ Below w.heap.size w w'
theorem sort_made {w w1 : World} {v : Value} {xs : List Tx} (h : Made w w1 v xs) (hb : Below w.heap.size w w1) (hlen : xs.length ≤ 8796093022208) :
    Calls Try.prog 36 #[v] w1 fun e w' => SortEnd w v (xs.mergeSort fun x y => decide (x ≤ y)) e w' := by
  by_cases h0 : 0 < xs.length
  · obtain ⟨⟨h1, h2⟩, h3⟩ := h
    rw [List.length_map] at h2
    rcases h2 with ⟨_, e⟩ | ⟨g, cap, cur, rfl, _, hbk, h4, h5, h6, h7⟩
    · omega
    have hg := (Array.getElem?_eq_some_iff.1 hbk).1
    have hwg := h3 g rfl
    refine (Try.slices_Sort_string g 0 cap xs w1 (holds_of_block hbk (by simpa [strV_enc] using h7)) hg (by omega)).mono ?_
    rintro e w' ⟨rfl, n, os, rfl⟩
    have hl : (xs.mergeSort fun x y => decide (x ≤ y)).length = xs.length := List.length_mergeSort xs
    refine ⟨rfl, Made.of (n := xs.length) (ownsRow_sorted hl hwg hbk h4 h5 h6), hb.grown (grownBy_sorted _) hb.size ?_⟩
    intro k hk
    have : g = k := by simpa using hk
    omega
  · obtain rfl : xs = [] := List.eq_nil_of_length_eq_zero (by omega)
    obtain ⟨ao, cp, rfl⟩ := h.shape
    refine (Try.slices_Sort_string_none ao cp w1).mono ?_
    rintro e w' ⟨rfl, rfl⟩
    exact ⟨rfl, by simpa using h, hb⟩
theorem compact_length (zs : List Tx) : (Lib.compact zs).length ≤ zs.length := by
  unfold Lib.compact Lib.compactUpTo
  rw [List.length_map]
  exact Nat.le_trans (List.length_filter_le _ _) (by simp)
theorem compact_made {w w1 : World} {v : Value} {xs : List Tx} (h : Made w w1 v xs) (hb : Below w.heap.size w w1) (hlen : xs.length ≤ 8796093022208) :
    Calls Try.prog 38 #[v] w1 fun e w' => FreshEnd (Lib.compact xs) w e w' := by
  by_cases h0 : 0 < xs.length
  · obtain ⟨⟨h1, h2⟩, h3⟩ := h
    rw [List.length_map] at h2
    rcases h2 with ⟨_, e⟩ | ⟨g, cap, cur, rfl, _, hbk, h4, h5, h6, h7⟩
    · omega
    have hwg := h3 g rfl
    refine (Try.slices_Compact_string g 0 cap xs w1 (holds_of_block hbk (by simpa [strV_enc] using h7)) (by omega) h4).mono ?_
    rintro e w' ⟨rfl, q, rfl⟩
    have hcl := compact_length xs
    have hl : (Lib.compact xs ++ List.replicate (xs.length - (Lib.compact xs).length) ([] : Tx)).length = xs.length := by simp; omega
    have hh := ownsRow_sorted (w := w1) (n := q) (os := #[]) (ss := xs) (ts := Lib.compact xs ++ List.replicate (xs.length - (Lib.compact xs).length) []) hl hwg hbk h4 h5 h6
    have hgr := grownBy_sorted (w := w1) (g := g) (n := q) (os := #[]) (Lib.compact xs ++ List.replicate (xs.length - (Lib.compact xs).length) ([] : Tx)).toArray
    rw [grow_empty] at hh hgr
    refine ⟨_, rfl, ⟨_, cap, rfl, .inr ?_⟩, hb.grown hgr hb.size ?_⟩
    · rcases hh.2 with ⟨e, _⟩ | ⟨g', cap', cur', e, _, hbk', k4, k5, k6, k7⟩
      · simp at e
      · simp only [Value.slice.injEq, Option.some.injEq, Addr.mk.injEq, and_true, true_and] at e
        obtain ⟨rfl, rfl⟩ := e
        refine ⟨g, cur', rfl, hwg, hbk', by omega, by omega, h5, ?_⟩
        have := congrArg (List.take (Lib.compact xs).length) k7
        rw [List.take_take, Nat.mul_one, Nat.min_eq_left hcl, List.map_append, List.take_left' (by simp)] at this
        exact this
    · intro k hk
      have : g = k := by simpa using hk
      omega
  · obtain rfl : xs = [] := List.eq_nil_of_length_eq_zero (by omega)
    obtain ⟨ao, cp, rfl⟩ := h.shape
    refine (Try.slices_Compact_string_empty ao cp w1).mono ?_
    rintro e w' ⟨rfl, rfl⟩
    exact ⟨_, rfl, h.fresh, hb⟩
def ClipEnd (w w1 : World) (xs : List Tx) (e : Ending) (w' : World) : Prop := ∃ v, e = .returned v ∧ Fresh w w1 v xs ∧ w1 = w'
theorem clip_fresh {w w1 : World} {v : Value} {xs : List Tx} (h : Fresh w w1 v xs) (hlen : xs.length ≤ 8796093022208) :
    Calls Try.prog 37 #[v] w1 fun e w' => ClipEnd w w1 xs e w' := by
  obtain ⟨ao, cp, rfl, hh⟩ := h
  rcases hh with ⟨rfl, rfl, rfl⟩ | ⟨g, cur, rfl, hg, hb, h1, h2, h3, h4⟩
  · go_enter Try.func37, Try.ntmps37
    go_wp2
    go_ret
    exact ⟨_, rfl, ⟨_, _, rfl, .inl ⟨rfl, rfl, rfl⟩⟩, rfl⟩
  · have HH := Lib.hid (And.intro hg (And.intro hb (And.intro h2 (And.intro h3 h4))))
    clear hg hb h2 h4
    go_enter Try.func37, Try.ntmps37
    go_wp2
    go_ret
    obtain ⟨a1, a2, a3, a4, a5⟩ := HH.out
    exact ⟨_, rfl, ⟨_, _, rfl, .inr ⟨g, cur, rfl, a1, a2, Nat.le_refl _, by omega, by omega, a5⟩⟩, rfl⟩
theorem mOf_any (ts : List Tx) (v : Value) (hn : ts.length ≤ 8796093022000) (w : World) (h : TRow w v ts) :
    Calls Try.prog 21 #[v] w fun e w' => FreshEnd (Pl.ofS ts) w e w' := by
  have H := Lib.hid h
  clear h
  go_enter Try.func21, Try.ntmps21
  go_wp2_with fail
  refine (clone_made ts v _ H.out (by omega)).mono ?_
  rintro e w1 ⟨c, rfl, m1, b1⟩
  have M1 := Lib.hid (And.intro m1 b1)
  clear m1 b1
  go_wp2_with fail
  refine (sort_made M1.out.1 M1.out.2 (by omega)).mono ?_
  rintro e w2 ⟨rfl, m2, b2⟩
  have M2 := Lib.hid (And.intro m2 b2)
  clear m2 b2
  go_wp2_with fail
  refine (compact_made M2.out.1 M2.out.2 (by rw [List.length_mergeSort]; omega)).mono ?_
  rintro e w3 ⟨d, rfl, m3, b3⟩
  have M3 := Lib.hid (And.intro m3 b3)
  clear m3 b3
  go_wp2_with fail
  refine (clip_fresh M3.out.1 (by have := compact_length (ts.mergeSort fun x y => decide (x ≤ y)); rw [List.length_mergeSort] at this; omega)).mono ?_
  rintro e w4 ⟨d2, rfl, m4, rfl⟩
  have M4 := Lib.hid m4
  clear m4
  go_wp2
  go_ret
  refine ⟨_, rfl, ?_, M3.out.2⟩
  have := M4.out
  rw [Pl.compact_ofS] at this
  exact this
end Go.Proofs.Ytjceoigekifgdaa
