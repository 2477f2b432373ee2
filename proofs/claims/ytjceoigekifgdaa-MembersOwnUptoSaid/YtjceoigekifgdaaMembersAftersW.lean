/- The walk of MembersAfters. -/
import Derived.Test.YtjceoigekifgdaaMem10
import Derived.Test.YtjceoigekifgdaaMembersAddsW
namespace Go.Proofs.Ytjceoigekifgdaa
open Go.ChangeShapes Go.WideShapes Go.ChangeAt Go.RowKit Go.Sort
set_option linter.unusedVariables false

theorem twins_one {w0 w : World} {v : Value} {l : List Tx} (h : TwinsAt w0 w v [l]) : ∃ g cp g0 c0, v = .slice (some ⟨g, 0, none⟩) 1 cp ∧ g < w.heap.size ∧ w.cell? ⟨g, 0, none⟩ = some (.slice (some ⟨g0, 0, none⟩) l.length c0) ∧ TRow w (.slice (some ⟨g0, 0, none⟩) l.length c0) l := by
  obtain ⟨xs, hl, hr, hc⟩ := h
  rcases xs with _ | ⟨x, _ | ⟨y, r⟩⟩
  · simp at hl
  · obtain ⟨g, cp, e, _, hlt, _, hcell⟩ := hr.full (by simp)
    have hx := hc 0 x l rfl rfl
    have tx := hx.trow
    obtain ⟨g0, c0, _, rfl, _⟩ := hx
    exact ⟨g, cp, g0, c0, e, hlt, hcell 0 _ rfl, tx⟩
  · simp at hl
theorem laid_one {w : World} {a1 : Option Addr} {c1 : Nat} {l : List Tx} (h1 : TRow w (.slice a1 l.length c1) l) (o : Obj) (ho : o = .cells #[.slice a1 l.length c1] 22 (0, 0)) : TLRow (w.alloc o) (.slice (some ⟨w.heap.size, 0, none⟩) 1 1) [l] := by
  subst ho
  have hb := (Below.refl w.heap.size w).alloc (Nat.le_refl _) (.cells #[.slice a1 l.length c1] 22 (0, 0))
  refine TLRow.laid (n := 1) (vs := [.slice a1 l.length c1]) (heap_alloc_new _ _) rfl rfl ?_
  intro j x r hx hr
  rcases j with _ | j
  · simp at hx hr; subst hx; subst hr; exact h1.kept hb
  · simp at hx
set_option maxHeartbeats 6400000 in
set_option maxRecDepth 100000 in
theorem afters_up (v1 : Value) (l : List Tx) (mt : Tx) (most : Int) (hl : l.length ≤ 1048576) (w : World) (h1 : TRow w v1 l) :
    Calls Try.prog 4 #[v1, .string (str mt), .int .i64 most] w fun e w' => e = .returned (.bool true) ∧ Below w.heap.size w w' := by
  obtain ⟨a1, c1, e1⟩ := h1.shape
  subst e1
  have H := Lib.hid h1
  clear h1
  have hrs : Hid (∀ r ∈ [l], r.length ≤ 4398046511000) := by
    show ∀ r ∈ [l], _
    intro r hr; simp at hr; subst hr; omega
  go_enter Try.func4, Try.ntmps4
  go_wp2_with fail
  refine (twins_any [l] _ hrs.out (by simp) _ (laid_one H.out _ rfl)).mono ?_
  rintro e w1 ⟨tv, rfl, t1, b1⟩
  obtain ⟨g, cp, g0, c0, rfl, hg, f0, r0⟩ := twins_one t1
  have hbw : Below w.heap.size w w1 := below_thru b1 ((Below.refl _ _).alloc (Nat.le_refl _) _)
  have M1 := Lib.hid (And.intro t1 (And.intro hbw r0))
  clear t1 b1 hbw r0
  go_wp2_with fail
  refine (mAfter_any l mt most _ (by omega) _ M1.out.2.2).mono ?_
  rintro e w2 ⟨x2, rfl, n2, b2⟩
  obtain ⟨o2, d2, rfl⟩ := n2.shape
  have M2 := Lib.hid (And.intro n2 b2)
  clear n2 b2
  have BW2 : Hid (Below w.heap.size w w2) := below_thru M2.out.2 M1.out.2.1
  go_wp2_with fail
  refine (refAfter_any l mt most _ (by omega) _ (H.out.kept BW2.out)).mono ?_
  rintro e w3 ⟨x3, rfl, n3, b3⟩
  obtain ⟨o3, d3, rfl⟩ := n3.shape
  have M3 := Lib.hid (And.intro n3 b3)
  clear n3 b3
  have BW3 : Hid (Below w.heap.size w w3) := below_thru M3.out.2 BW2.out
  have hal := Nat.le_trans (after_len mt most (Pl.ofS l)) (Pl.ofS_length l)
  have TT : Hid (TwinsAt (w.alloc (.cells #[.slice a1 l.length c1] 22)) w3 (.slice (some ⟨g, 0, none⟩) 1 cp) [l]) := (M1.out.1.kept M2.out.2).kept M3.out.2
  go_wp2_with fail
  refine (same_true (Pl.after mt most (Pl.ofS l)) _ _ (by omega) _ (M2.out.1.trow.kept M3.out.2) M3.out.1.trow).mono ?_
  rintro e w4 ⟨rfl, m4, rfl⟩
  have D4 : Hid (Below w3.heap.size w3 (w3.drewN m4)) := below_drewN (Below.refl _ _) m4
  go_wp2_with fail
  refine (kept_any [l] _ _ hrs.out (by simp) _ _ ((TT.out.kept D4.out).kept ((Below.refl _ _).alloc (Nat.le_refl _) _)) (laid_one (H.out.kept (below_thru D4.out BW3.out)) _ rfl)).mono ?_
  rintro e w5 ⟨rfl, m5, rfl⟩
  have B5 : Hid (Below w.heap.size w (((w3.drewN m4).alloc (.cells #[.slice a1 l.length c1] 22)).drewN m5)) := below_drewN (below_alloc (below_thru D4.out BW3.out) _) m5
  go_wp2_with fail
  refine (awake_any _).mono ?_
  rintro e w9 ⟨rfl, b9⟩
  have B9 := Lib.hid (below_thru b9 B5.out)
  clear b9
  go_wp2
  go_ret
  exact ⟨rfl, B9.out⟩
theorem membersAfters_walk (v0 : Value) (bs0 : List ByteArray) (h0 : bulkS bs0 ≤ 1048576) (a1 : ByteArray) (s1 : a1.size ≤ maxLen) (a2 : Int) (w2 : (Lit.int .i64 a2).wf = true) (w : World) (s0 : SRow w v0 bs0) :
    Calls Try.prog 4 #[v0, .string a1, .int .i64 a2] w fun e w' => e = .returned (.bool true) ∧ Below w.heap.size w w' := by
  obtain ⟨l, hl, nl⟩ := texts_of s0 h0
  have := afters_up v0 l a1.data.toList a2 nl w hl
  rw [str_of] at this
  exact this
end Go.Proofs.Ytjceoigekifgdaa
