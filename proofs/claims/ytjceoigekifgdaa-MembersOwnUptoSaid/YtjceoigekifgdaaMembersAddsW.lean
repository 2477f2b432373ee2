/- The walk of MembersAdds. -/
import Derived.Test.YtjceoigekifgdaaMem9
namespace Go.Proofs.Ytjceoigekifgdaa
open Go.ChangeShapes Go.WideShapes Go.ChangeAt Go.RowKit Go.Sort
set_option linter.unusedVariables false

/-- A law's argument as a row of texts. -/
theorem texts_of {w : World} {v : Value} {bs : List ByteArray} (h : SRow w v bs) (hb : bulkS bs ≤ 1048576) : ∃ l, TRow w v l ∧ l.length ≤ 1048576 := ⟨texts bs, TRow.of h, by rw [texts_length]; have := bulkS_length bs; omega⟩
/-- Two twins, one behind the other. -/
theorem twins_two {w0 w : World} {v : Value} {l ms : List Tx} (h : TwinsAt w0 w v [l, ms]) : ∃ g cp g0 c0 g1 c1, v = .slice (some ⟨g, 0, none⟩) 2 cp ∧ g < w.heap.size ∧ w.cell? ⟨g, 0, none⟩ = some (.slice (some ⟨g0, 0, none⟩) l.length c0) ∧ w.cell? ⟨g, 1, none⟩ = some (.slice (some ⟨g1, 0, none⟩) ms.length c1) ∧ TRow w (.slice (some ⟨g0, 0, none⟩) l.length c0) l ∧ TRow w (.slice (some ⟨g1, 0, none⟩) ms.length c1) ms := by
  obtain ⟨xs, hl, hr, hc⟩ := h
  rcases xs with _ | ⟨x, _ | ⟨y, _ | ⟨z, r⟩⟩⟩
  · simp at hl
  · simp at hl
  · obtain ⟨g, cp, e, _, hlt, _, hcell⟩ := hr.full (by simp)
    have hx := hc 0 x l rfl rfl
    have hy := hc 1 y ms rfl rfl
    have tx := hx.trow
    have ty := hy.trow
    obtain ⟨g0, c0, _, rfl, _⟩ := hx
    obtain ⟨g1, c1, _, rfl, _⟩ := hy
    exact ⟨g, cp, g0, c0, g1, c1, e, hlt, hcell 0 _ rfl, hcell 1 _ rfl, tx, ty⟩
  · simp at hl
theorem laid_two {w : World} {a1 a2 : Option Addr} {c1 c2 : Nat} {l ms : List Tx} (h1 : TRow w (.slice a1 l.length c1) l) (h2 : TRow w (.slice a2 ms.length c2) ms) (o : Obj) (ho : o = .cells #[.slice a1 l.length c1, .slice a2 ms.length c2] 22 (0, 0)) : TLRow (w.alloc o) (.slice (some ⟨w.heap.size, 0, none⟩) 2 2) [l, ms] := by
  subst ho
  have hb := (Below.refl w.heap.size w).alloc (Nat.le_refl _) (.cells #[.slice a1 l.length c1, .slice a2 ms.length c2] 22 (0, 0))
  refine TLRow.laid (n := 2) (vs := [.slice a1 l.length c1, .slice a2 ms.length c2]) (heap_alloc_new _ _) rfl rfl ?_
  intro j x r hx hr
  rcases j with _ | _ | j
  · simp at hx hr; subst hx; subst hr; exact h1.kept hb
  · simp at hx hr; subst hx; subst hr; exact h2.kept hb
  · simp at hx
def Pl.plus (l ms : List Tx) : List Tx := Pl.ofS (l ++ ms)
def Pl.minus (l ms : List Tx) : List Tx := (Pl.ofS l).filter (fun x => !ms.contains x)
def plusN (l ms : List Tx) : Int := (Pl.ofS (l ++ ms)).length - (Pl.ofS l).length
def minusN (l ms : List Tx) : Int := (Pl.ofS l).length - ((Pl.ofS l).filter (fun x => !ms.contains x)).length
theorem plus_length (l ms : List Tx) : (Pl.plus l ms).length ≤ l.length + ms.length := by have := Pl.ofS_length (l ++ ms); rw [List.length_append] at this; exact this
theorem minus_length (l ms : List Tx) : (Pl.minus l ms).length ≤ l.length := Nat.le_trans (List.length_filter_le _ _) (Pl.ofS_length l)
theorem addC (l ms : List Tx) (v1 v2 : Value) (hl : l.length ≤ 2199023255500) (hm : ms.length ≤ 2199023255500) (w : World) (h1 : TRow w v1 l) (h2 : TRow w v2 ms) :
    Calls Try.prog 11 #[v1, v2] w fun e w' => PairEnd (Pl.plus l ms) (plusN l ms) w e w' := add_any l ms v1 v2 hl hm w h1 h2
theorem removeC (l ms : List Tx) (v1 v2 : Value) (hl : l.length ≤ 2199023255500) (hm : ms.length ≤ 2199023255500) (w : World) (h1 : TRow w v1 l) (h2 : TRow w v2 ms) :
    Calls Try.prog 12 #[v1, v2] w fun e w' => PairEnd (Pl.minus l ms) (minusN l ms) w e w' := remove_any l ms v1 v2 hl hm w h1 h2
theorem refAddC (l ms : List Tx) (v1 v2 : Value) (hl : l.length ≤ 2199023255500) (hm : ms.length ≤ 2199023255500) (w : World) (h1 : TRow w v1 l) (h2 : TRow w v2 ms) :
    Calls Try.prog 13 #[v1, v2] w fun e w' => PairEnd (Pl.plus l ms) (plusN l ms) w e w' := refAdd_any l ms v1 v2 hl hm w h1 h2
theorem refRemoveC (l ms : List Tx) (v1 v2 : Value) (hl : l.length ≤ 2199023255500) (hm : ms.length ≤ 2199023255500) (w : World) (h1 : TRow w v1 l) (h2 : TRow w v2 ms) :
    Calls Try.prog 14 #[v1, v2] w fun e w' => PairEnd (Pl.minus l ms) (minusN l ms) w e w' := refRemove_any l ms v1 v2 hl hm w h1 h2
set_option maxHeartbeats 6400000 in
set_option maxRecDepth 100000 in
theorem adds_up (v1 v2 : Value) (l ms : List Tx) (hl : l.length ≤ 1048576) (hm : ms.length ≤ 1048576) (w : World) (h1 : TRow w v1 l) (h2 : TRow w v2 ms) :
    Calls Try.prog 3 #[v1, v2] w fun e w' => e = .returned (.bool true) ∧ Below w.heap.size w w' := by
  obtain ⟨a1, c1, e1⟩ := h1.shape
  obtain ⟨a2, c2, e2⟩ := h2.shape
  subst e1
  subst e2
  have H := Lib.hid (And.intro h1 h2)
  clear h1 h2
  have hrs : Hid (∀ r ∈ [l, ms], r.length ≤ 4398046511000) := by
    show ∀ r ∈ [l, ms], _
    intro r hr; simp at hr; rcases hr with rfl | rfl <;> omega
  go_enter Try.func3, Try.ntmps3
  go_wp2_with fail
  refine (twins_any [l, ms] _ hrs.out (by simp) _ (laid_two H.out.1 H.out.2 _ rfl)).mono ?_
  rintro e w1 ⟨tv, rfl, t1, b1⟩
  obtain ⟨g, cp, g0, c0, g1, cc1, rfl, hg, f0, f1, r0, r1⟩ := twins_two t1
  have hbw : Below w.heap.size w w1 := below_thru b1 ((Below.refl _ _).alloc (Nat.le_refl _) _)
  have M1 := Lib.hid (And.intro t1 (And.intro hbw (And.intro r0 r1)))
  clear t1 b1 hbw r0 r1
  go_wp2_with fail
  have k0 : ∀ w', Below w1.heap.size w1 w' → w'.cell? ⟨g, 0, none⟩ = some (.slice (some ⟨g0, 0, none⟩) l.length c0) := fun w' hb => (hb.cell (p := ⟨g, 0, none⟩) hg).trans f0
  have k1 : ∀ w', Below w1.heap.size w1 w' → w'.cell? ⟨g, 1, none⟩ = some (.slice (some ⟨g1, 0, none⟩) ms.length cc1) := fun w' hb => (hb.cell (p := ⟨g, 1, none⟩) hg).trans f1
  go_region_held3 (fun w' => Below w1.heap.size w1 w' ∧ w'.cell? ⟨g, 0, none⟩ = some (.slice (some ⟨g0, 0, none⟩) l.length c0) ∧ w'.cell? ⟨g, 1, none⟩ = some (.slice (some ⟨g1, 0, none⟩) ms.length cc1))
    (first | exact ⟨by first | assumption | exact (Below.refl _ _).drew, k0 _ (by first | assumption | exact (Below.refl _ _).drew), k1 _ (by first | assumption | exact (Below.refl _ _).drew)⟩)
    (first | (go_at_call 11; refine (addC l ms _ _ (by omega) (by omega) _ (M1.out.2.2.1.kept ?_) (M1.out.2.2.2.kept ?_)).mono ?_
              · first | assumption | exact (Below.refl _ _).drew
              · first | assumption | exact (Below.refl _ _).drew
              rintro e w2 ⟨x2, rfl, n2, b2⟩
              have bb2 : Below w1.heap.size w1 w2 := below_thru b2 (by first | assumption | exact (Below.refl _ _).drew)))
  obtain ⟨o2, d2, rfl⟩ := n2.shape
  have M2 := Lib.hid (And.intro n2 bb2)
  clear n2 b2 bb2
  have e0 := k0 w2 M2.out.2
  have e1 := k1 w2 M2.out.2
  go_wp2_with fail
  have k2 : ∀ w', Below w2.heap.size w2 w' → w'.cell? ⟨g, 0, none⟩ = some (.slice (some ⟨g0, 0, none⟩) l.length c0) := fun w' hb => k0 w' (below_thru hb M2.out.2)
  have k3 : ∀ w', Below w2.heap.size w2 w' → w'.cell? ⟨g, 1, none⟩ = some (.slice (some ⟨g1, 0, none⟩) ms.length cc1) := fun w' hb => k1 w' (below_thru hb M2.out.2)
  clear k0 k1 f0 f1
  go_region_held3 (fun w' => Below w2.heap.size w2 w' ∧ w'.cell? ⟨g, 0, none⟩ = some (.slice (some ⟨g0, 0, none⟩) l.length c0) ∧ w'.cell? ⟨g, 1, none⟩ = some (.slice (some ⟨g1, 0, none⟩) ms.length cc1))
    (first | exact ⟨by first | assumption | exact (Below.refl _ _).drew, k2 _ (by first | assumption | exact (Below.refl _ _).drew), k3 _ (by first | assumption | exact (Below.refl _ _).drew)⟩)
    (first | (go_at_call 12; refine (removeC l ms _ _ (by omega) (by omega) _ ((M1.out.2.2.1.kept M2.out.2).kept ?_) ((M1.out.2.2.2.kept M2.out.2).kept ?_)).mono ?_
              · first | assumption | exact (Below.refl _ _).drew
              · first | assumption | exact (Below.refl _ _).drew
              rintro e w3 ⟨x3, rfl, n3, b3⟩
              have bb3 : Below w2.heap.size w2 w3 := below_thru b3 (by first | assumption | exact (Below.refl _ _).drew)))
  obtain ⟨o3, d3, rfl⟩ := n3.shape
  have M3 := Lib.hid (And.intro n3 bb3)
  clear n3 b3 bb3 k2 k3 e0 e1
  have BW3 : Hid (Below w.heap.size w w3) := below_thru (below_thru M3.out.2 M2.out.2) M1.out.2.1
  go_wp2_with fail
  refine (refAddC l ms _ _ (by omega) (by omega) _ (H.out.1.kept BW3.out) (H.out.2.kept BW3.out)).mono ?_
  rintro e w4 ⟨x4, rfl, n4, b4⟩
  obtain ⟨o4, d4, rfl⟩ := n4.shape
  have M4 := Lib.hid (And.intro n4 b4)
  clear n4 b4
  have BW4 : Hid (Below w.heap.size w w4) := below_thru M4.out.2 BW3.out
  go_wp2_with fail
  refine (refRemoveC l ms _ _ (by omega) (by omega) _ (H.out.1.kept BW4.out) (H.out.2.kept BW4.out)).mono ?_
  rintro e w5 ⟨x5, rfl, n5, b5⟩
  obtain ⟨o5, d5, rfl⟩ := n5.shape
  have M5 := Lib.hid (And.intro n5 b5)
  clear n5 b5
  have hp := plus_length l ms
  have hq := minus_length l ms
  have T2 : Hid (TRow w5 (.slice o2 (Pl.plus l ms).length d2) (Pl.plus l ms)) := ((M2.out.1.trow.kept M3.out.2).kept M4.out.2).kept M5.out.2
  have T4 : Hid (TRow w5 (.slice o4 (Pl.plus l ms).length d4) (Pl.plus l ms)) := M4.out.1.trow.kept M5.out.2
  have T3 : Hid (TRow w5 (.slice o3 (Pl.minus l ms).length d3) (Pl.minus l ms)) := (M3.out.1.trow.kept M4.out.2).kept M5.out.2
  have T5 : Hid (TRow w5 (.slice o5 (Pl.minus l ms).length d5) (Pl.minus l ms)) := M5.out.1.trow
  have TT : Hid (TwinsAt (w.alloc (.cells #[.slice a1 l.length c1, .slice a2 ms.length c2] 22)) w5 (.slice (some ⟨g, 0, none⟩) 2 cp) [l, ms]) := (((M1.out.1.kept M2.out.2).kept M3.out.2).kept M4.out.2).kept M5.out.2
  have BW : Hid (Below w.heap.size w w5) := below_thru M5.out.2 BW4.out
  clear M1 M2 M3 M4 M5 BW3 BW4
  go_wp2_with fail
  refine (same_true (Pl.plus l ms) _ _ (by omega) _ T2.out T4.out).mono ?_
  rintro e w6 ⟨rfl, m6, rfl⟩
  have D6 : Hid (Below w5.heap.size w5 (w5.drewN m6)) := below_drewN (Below.refl _ _) m6
  go_wp2_with fail
  refine (same_true (Pl.minus l ms) _ _ (by omega) _ (T3.out.kept D6.out) (T5.out.kept D6.out)).mono ?_
  rintro e w7 ⟨rfl, m7, rfl⟩
  have D7 : Hid (Below w5.heap.size w5 ((w5.drewN m6).drewN m7)) := below_drewN D6.out m7
  obtain ⟨w7, h7⟩ : ∃ w7, (w5.drewN m6).drewN m7 = w7 := ⟨_, rfl⟩
  rw [h7] at D7 ⊢
  go_wp2_with fail
  refine (kept_any [l, ms] _ _ hrs.out (by simp) _ _ ((TT.out.kept D7.out).kept ((Below.refl _ _).alloc (Nat.le_refl _) _)) (laid_two (H.out.1.kept (below_thru D7.out BW.out)) (H.out.2.kept (below_thru D7.out BW.out)) _ rfl)).mono ?_
  rintro e w8 ⟨rfl, m8, rfl⟩
  have B8 : Hid (Below w.heap.size w ((w7.alloc (.cells #[.slice a1 l.length c1, .slice a2 ms.length c2] 22)).drewN m8)) := below_drewN (below_alloc (below_thru D7.out BW.out) _) m8
  go_wp2_with fail
  refine (awake_any _).mono ?_
  rintro e w9 ⟨rfl, b9⟩
  have B9 := Lib.hid (below_thru b9 B8.out)
  clear b9
  go_wp2
  go_ret
  exact ⟨rfl, B9.out⟩
theorem membersAdds_walk (v0 : Value) (bs0 : List ByteArray) (h0 : bulkS bs0 ≤ 1048576) (v1 : Value) (bs1 : List ByteArray) (h1 : bulkS bs1 ≤ 1048576) (w : World) (s0 : SRow w v0 bs0) (s1 : SRow w v1 bs1) :
    Calls Try.prog 3 #[v0, v1] w fun e w' => e = .returned (.bool true) ∧ Below w.heap.size w w' := by
  obtain ⟨l, hl, nl⟩ := texts_of s0 h0
  obtain ⟨ms, hm, nm⟩ := texts_of s1 h1
  exact adds_up v0 v1 l ms nl nm w hl hm
end Go.Proofs.Ytjceoigekifgdaa
