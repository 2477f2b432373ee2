/- Lists in memory of their own. -/
import Derived.Test.YtjceoigekifgdaaMem6
import Derived.Deep.RegionHeld3
import Derived.BigRegion
namespace Go.Proofs.Ytjceoigekifgdaa
open Go.ChangeShapes Go.WideShapes Go.ChangeAt Go.RowKit Go.Sort
set_option linter.unusedVariables false

theorem TRow.shape {w : World} {v : Value} {ts : List Tx} (h : TRow w v ts) : ∃ ao cp, v = .slice ao ts.length cp := by
  obtain ⟨ao, cp, e, _⟩ := h.open
  exact ⟨ao, cp, e⟩
theorem diffs_two (l ms : List Tx) : Pl.diffs [l, ms] = (Pl.ofS l).filter (fun x => !ms.contains x) := by
  simp [Pl.diffs, Pl.alone]
set_option maxHeartbeats 1600000 in
theorem refRemove_any (l ms : List Tx) (v1 v2 : Value) (hl : l.length ≤ 2199023255500) (hm : ms.length ≤ 2199023255500) (w : World) (h1 : TRow w v1 l) (h2 : TRow w v2 ms) :
    Calls Try.prog 14 #[v1, v2] w fun e w' => PairEnd ((Pl.ofS l).filter (fun x => !ms.contains x)) ((Pl.ofS l).length - ((Pl.ofS l).filter (fun x => !ms.contains x)).length) w e w' := by
  obtain ⟨a1, c1, e1⟩ := h1.shape
  obtain ⟨a2, c2, e2⟩ := h2.shape
  subst e1
  subst e2
  have H := Lib.hid (And.intro h1 h2)
  clear h1 h2
  have ql := Pl.ofS_length l
  have qm := Pl.ofS_length ms
  have qx : ((Pl.ofS l).filter (fun x => !ms.contains x)).length ≤ (Pl.ofS l).length := List.length_filter_le _ _
  go_enter Try.func14, Try.ntmps14
  go_wp2_with fail
  have B0 : ∀ o, Hid (Below w.heap.size w (w.alloc o)) := fun o => (Below.refl _ _).alloc (Nat.le_refl _) o
  refine (refDiff_any [l, ms] _ (by intro r hr; simp at hr; rcases hr with rfl | rfl <;> omega) (by simp) _ ?_).mono ?_
  · refine TLRow.laid (n := 2) (vs := [.slice a1 l.length c1, .slice a2 ms.length c2]) (heap_alloc_new _ _) rfl rfl ?_
    intro j x r hx hr
    rcases j with _ | _ | j
    · simp at hx hr; subst hx; subst hr; exact H.out.1.kept (B0 _).out
    · simp at hx hr; subst hx; subst hr; exact H.out.2.kept (B0 _).out
    · simp at hx
  rintro e w2 ⟨a, rfl, m2, b2⟩
  rw [diffs_two] at m2
  obtain ⟨C, hC⟩ : ∃ C, (Pl.ofS l).filter (fun x => !ms.contains x) = C := ⟨_, rfl⟩
  rw [hC] at m2 qx
  have HC := Lib.hid hC
  clear hC
  obtain ⟨oa, ca, rfl⟩ := m2.shape
  have M2 := Lib.hid (And.intro (m2.fresh.thru (B0 _).out) (below_thru b2 (B0 _).out))
  clear m2 b2
  go_wp2_with fail
  refine (refOf_any l _ (by omega) _ (H.out.1.kept M2.out.2)).mono ?_
  rintro e w3 ⟨b, rfl, m3, b3⟩
  obtain ⟨ob, cb, rfl⟩ := m3.shape
  have M3 := Lib.hid (And.intro (M2.out.1.kept b3) (below_thru b3 M2.out.2))
  clear m3 b3
  generalize hA : Pl.ofS l = A at *
  have HA := Lib.hid hA
  clear hA
  go_wp2
  go_ret2
  have hA := HA.out
  subst hA
  have hC := HC.out
  subst hC
  exact ⟨_, rfl, M3.out.1, M3.out.2⟩

def spareT : Tx := [115, 112, 97, 114, 101]
/-- A row of the call's own with a text behind its end. -/
def Twin (w w' : World) (x : Value) (t : List Tx) : Prop := ∃ g cp cur, x = .slice (some ⟨g, 0, none⟩) t.length cp ∧ w.heap.size ≤ g ∧ w'.heap[g]? = some (.cells cur 9 (0, 0)) ∧ t.length + 1 ≤ cp ∧ cp ≤ maxLen ∧ cur.size = cp ∧ cur.toList.take (t.length + 1) = (t ++ [spareT]).map strV
def TwinsAt (w w' : World) (v : Value) (rs : List (List Tx)) : Prop := ∃ xs, xs.length = rs.length ∧ Row w' (fun k => w.heap.size ≤ k) 22 v xs ∧ ∀ (j : Nat) x t, xs[j]? = some x → rs[j]? = some t → Twin w w' x t
def TwinsEnd (rs : List (List Tx)) (w : World) (e : Ending) (w' : World) : Prop := ∃ v, e = .returned v ∧ TwinsAt w w' v rs ∧ Below w.heap.size w w'
theorem Twin.kept {w w1 w2 : World} {x : Value} {t : List Tx} (h : Twin w w1 x t) (hb : Below w1.heap.size w1 w2) : Twin w w2 x t := by
  obtain ⟨g, cp, cur, e, h1, h2, r⟩ := h
  exact ⟨g, cp, cur, e, h1, (hb.block g (Array.getElem?_eq_some_iff.1 h2).1).trans h2, r⟩
theorem Twin.trow {w w' : World} {x : Value} {t : List Tx} (h : Twin w w' x t) : TRow w' x t := by
  obtain ⟨g, cp, cur, rfl, _, hb, _, _, _, ht⟩ := h
  refine ⟨_, cp, by rw [strs_length], .inr ⟨g, 0, rfl, (Array.getElem?_eq_some_iff.1 hb).1, fun j x hx => ?_⟩⟩
  obtain ⟨s, hs, rfl⟩ : ∃ s, t[j]? = some s ∧ str s = x := by simpa [strs] using hx
  rw [Nat.zero_add]
  exact cell_take hb (xs := t ++ [spareT]) (by simpa using ht) (by rw [List.getElem?_append_left (List.getElem?_eq_some_iff.1 hs).1]; exact hs)
theorem TwinsAt.kept {w w1 w2 : World} {v : Value} {rs : List (List Tx)} (h : TwinsAt w w1 v rs) (hb : Below w1.heap.size w1 w2) : TwinsAt w w2 v rs := by
  obtain ⟨xs, hl, hr, hc⟩ := h
  exact ⟨xs, hl, Row.kept (G := fun _ => False) hr (Wr.of_below hb) (fun _ _ h => h), fun j x t hx ht => (hc j x t hx ht).kept hb⟩
theorem TwinsAt.shape {w w' : World} {v : Value} {rs : List (List Tx)} (h : TwinsAt w w' v rs) : ∃ ao cp, v = .slice ao rs.length cp := by
  obtain ⟨xs, hl, hr, hc⟩ := h
  obtain ⟨ao, cp, e⟩ := Row.shape hr
  exact ⟨ao, cp, by rw [← hl]; exact e⟩
theorem TwinsAt.later {w0 w w' : World} {v : Value} {rs : List (List Tx)} (h : TwinsAt w w' v rs) (hw : w0.heap.size ≤ w.heap.size) : TwinsAt w0 w' v rs := by
  obtain ⟨xs, hl, hr, hc⟩ := h
  refine ⟨xs, hl, Row.mono hr fun k hk => by omega, fun j x t hx ht => ?_⟩
  obtain ⟨g, cp, cur, e, h1, r⟩ := hc j x t hx ht
  exact ⟨g, cp, cur, e, by omega, r⟩
theorem infoRow : (Try.prog.info? 22).map (fun i => (i.zero, i.size, i.bytes)) = some (some (.slice none 0 0), 1, 24) := by kernel_rfl
/-- The row with a text behind it, cut back. -/
theorem Made.twin {w w0 w' : World} {v : Value} {t : List Tx} (h : Made w0 w' v (t ++ [spareT])) (hw : w.heap.size ≤ w0.heap.size) : ∃ g cp, v = .slice (some ⟨g, 0, none⟩) (t.length + 1) cp ∧ t.length + 1 ≤ cp ∧ Hid (Twin w w' (.slice (some ⟨g, 0, none⟩) t.length cp) t) := by
  obtain ⟨⟨h1, h2⟩, h3⟩ := h
  rw [List.length_map, List.length_append, List.length_singleton] at h2
  rcases h2 with ⟨_, e⟩ | ⟨g, cap, cur, rfl, _, hbk, h4, h5, h6, h7⟩
  · simp at e
  have hg := h3 g rfl
  exact ⟨g, cap, rfl, h4, g, cap, cur, rfl, by omega, hbk, h4, h5, by omega, by simpa using h7⟩
theorem blk_of {w : World} {e : TypeId} {v : Value} {n : Nat} {xs : List Value} (h : w.ownsRow 0 e 1 v n xs) {g : Nat} (hg : v.ownBlock = some g) : ∃ cur, w.heap[g]? = some (.cells cur e (0, 0)) := by
  rcases h.2 with ⟨rfl, _⟩ | ⟨g', cap, cur, rfl, _, hb, _⟩
  · simp [Value.ownBlock] at hg
  · simp [Value.ownBlock] at hg
    subst hg
    exact ⟨cur, hb⟩
theorem Twin.grown {w w1 w2 : World} {x v : Value} {t : List Tx} {n : Nat} {xs : List Value} (h : Twin w w1 x t) (ho : w1.ownsRow 0 22 1 v n xs) (hg : w1.grownBy w2 v.ownBlock) : Twin w w2 x t := by
  obtain ⟨g, cp, cur, e, h1, h2, r⟩ := h
  refine ⟨g, cp, cur, e, h1, (hg.block g (Array.getElem?_eq_some_iff.1 h2).1 fun e => ?_).trans h2, r⟩
  obtain ⟨c2, hc⟩ := blk_of ho e.symm
  rw [h2] at hc; simp at hc
theorem ownsRow0_below {w w' : World} {e : TypeId} {v : Value} {n : Nat} {xs : List Value} (h : w.ownsRow 0 e 1 v n xs) (hb : Below w.heap.size w w') : w'.ownsRow 0 e 1 v n xs := by
  refine ⟨h.1, h.2.imp id ?_⟩
  rintro ⟨g, cap, cur, h1, h2, h3, r⟩
  exact ⟨g, cap, cur, h1, h2, (hb.block g (Array.getElem?_eq_some_iff.1 h3).1).trans h3, r⟩
end Go.Proofs.Ytjceoigekifgdaa
