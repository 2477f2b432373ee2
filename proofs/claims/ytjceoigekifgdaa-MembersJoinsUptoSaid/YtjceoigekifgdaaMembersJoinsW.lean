/- The walk of MembersJoins. -/
import Derived.Test.YtjceoigekifgdaaMem13
import Derived.Test.YtjceoigekifgdaaMembersAddsW
namespace Go.Proofs.Ytjceoigekifgdaa
open Go.ChangeShapes Go.WideShapes Go.ChangeAt Go.RowKit Go.Sort
set_option linter.unusedVariables false

theorem TwinsAt.tlc {w0 w : World} {v : Value} {rs : List (List Tx)} (h : TwinsAt w0 w v rs) : ∃ oa cp, v = .slice oa rs.length cp ∧ TLC w oa cp rs := by
  obtain ⟨xs, hl, hr, hc⟩ := h
  by_cases h0 : 0 < xs.length
  · obtain ⟨g, cp, e, _, hlt, _, hcell⟩ := hr.full h0
    have hcap : xs.length ≤ cp := by
      rcases hr.1.2 with ⟨e2, h2⟩ | ⟨g', cap, cur, e2, _, _, h3, _⟩
      · omega
      · rw [e, Value.slice.injEq] at e2
        obtain ⟨_, _, rfl⟩ := e2
        exact h3
    refine ⟨_, cp, by rw [e, hl], by omega, .inr ⟨g, 0, rfl, hlt, fun j r hj => ?_⟩⟩
    have hj2 : j < xs.length := by rw [hl]; exact (List.getElem?_eq_some_iff.1 hj).1
    refine ⟨xs[j], ?_, (hc j _ r (List.getElem?_eq_getElem hj2) hj).trow⟩
    rw [Nat.zero_add]
    exact hcell j _ (List.getElem?_eq_getElem hj2)
  · obtain ⟨oa, cp, e⟩ := Row.shape hr
    have : rs = [] := List.eq_nil_of_length_eq_zero (by omega)
    subst this
    exact ⟨oa, cp, by rw [e]; simp at hl; simp [hl], Nat.zero_le _, .inl rfl⟩
set_option maxHeartbeats 1600000 in
set_option maxRecDepth 100000 in
theorem joins_up (v : Value) (rs : List (List Tx)) (most : Int) (hs : rs.flatten.length ≤ 1048576) (hn : rs.length ≤ 1048576) (w : World) (h1 : TLRow w v rs) :
    Calls Try.prog 7 #[v, .int .i64 most] w fun e w' => e = .returned (.bool true) ∧ Below w.heap.size w w' := by
  have H := Lib.hid h1
  clear h1
  have hrm : ∀ r ∈ rs, r.length ≤ 1048576 := fun r hr => Nat.le_trans (flat_mem hr) hs
  have HR := Lib.hid hrm
  clear hrm
  have hu : (Pl.unions rs).length ≤ 1048576 := Nat.le_trans (Pl.ofS_length _) hs
  have hi := Nat.le_trans (inters_length rs) hs
  have hd := Nat.le_trans (diffs_length rs) hs
  go_enter Try.func7, Try.ntmps7
  go_wp2_with fail
  refine (twins_any rs v (fun r hr => by have := HR.out r hr; omega) (by omega) _ H.out).mono ?_
  rintro e w1 ⟨tv, rfl, t1, b1⟩
  obtain ⟨oa, cp, rfl, c1⟩ := t1.tlc
  have M1 := Lib.hid (And.intro t1 (And.intro b1 c1))
  clear t1 b1 c1
  go_wp2_with fail
  refine (mUnion_any rs _ hs hn _ M1.out.2.2.tl).mono ?_
  rintro e w2 ⟨x2, rfl, n2, b2⟩
  obtain ⟨o2, d2, rfl⟩ := n2.shape
  have M2 := Lib.hid (And.intro n2 b2)
  clear n2 b2
  have BW2 : Hid (Below w.heap.size w w2) := below_thru M2.out.2 M1.out.2.1
  go_wp2_with fail
  refine (refUnion_any rs v hs hn _ (H.out.kept BW2.out)).mono ?_
  rintro e w3 ⟨x3, rfl, n3, b3⟩
  obtain ⟨o3, d3, rfl⟩ := n3.shape
  have M3 := Lib.hid (And.intro n3 b3)
  clear n3 b3
  go_wp2_with fail
  refine (same_true (Pl.unions rs) _ _ (by omega) _ (M2.out.1.trow.kept M3.out.2) M3.out.1.trow).mono ?_
  rintro e w4 ⟨rfl, m4, rfl⟩
  have B4 : Hid (Below w1.heap.size w1 (w3.drewN m4)) := below_drewN (below_thru M3.out.2 M2.out.2) m4
  obtain ⟨w4, h4⟩ : ∃ w4, w3.drewN m4 = w4 := ⟨_, rfl⟩
  rw [h4] at B4 ⊢
  clear h4 M2 M3 BW2
  go_wp2_with fail
  refine (mInter_any rs oa cp HR.out hn _ (M1.out.2.2.kept B4.out)).mono ?_
  rintro e w5 ⟨x5, rfl, n5, b5⟩
  obtain ⟨o5, d5, rfl⟩ := n5.shape
  have M5 := Lib.hid (And.intro n5 b5)
  clear n5 b5
  have B5 : Hid (Below w1.heap.size w1 w5) := below_thru M5.out.2 B4.out
  go_wp2_with fail
  refine (refInter_any rs v (fun r hr => by have := HR.out r hr; omega) (by omega) _ (H.out.kept (below_thru B5.out M1.out.2.1))).mono ?_
  rintro e w6 ⟨x6, rfl, n6, b6⟩
  obtain ⟨o6, d6, rfl⟩ := n6.shape
  have M6 := Lib.hid (And.intro n6 b6)
  clear n6 b6
  go_wp2_with fail
  refine (same_true (Pl.inters rs) _ _ (by omega) _ (M5.out.1.trow.kept M6.out.2) M6.out.1.fresh.trow).mono ?_
  rintro e w7 ⟨rfl, m7, rfl⟩
  have B7 : Hid (Below w1.heap.size w1 (w6.drewN m7)) := below_drewN (below_thru M6.out.2 B5.out) m7
  obtain ⟨w7, h7⟩ : ∃ w7, w6.drewN m7 = w7 := ⟨_, rfl⟩
  rw [h7] at B7 ⊢
  clear h7 M5 M6 B5
  go_wp2_with fail
  refine (mDiff_any rs oa cp HR.out hn _ (M1.out.2.2.kept B7.out)).mono ?_
  rintro e w8 ⟨x8, rfl, n8, b8⟩
  obtain ⟨o8, d8, rfl⟩ := n8.shape
  have M8 := Lib.hid (And.intro n8 b8)
  clear n8 b8
  have B8 : Hid (Below w1.heap.size w1 w8) := below_thru M8.out.2 B7.out
  go_wp2_with fail
  refine (refDiff_any rs v (fun r hr => by have := HR.out r hr; omega) (by omega) _ (H.out.kept (below_thru B8.out M1.out.2.1))).mono ?_
  rintro e w9 ⟨x9, rfl, n9, b9⟩
  obtain ⟨o9, d9, rfl⟩ := n9.shape
  have M9 := Lib.hid (And.intro n9 b9)
  clear n9 b9
  go_wp2_with fail
  refine (same_true (Pl.diffs rs) _ _ (by omega) _ (M8.out.1.trow.kept M9.out.2) M9.out.1.fresh.trow).mono ?_
  rintro e w10 ⟨rfl, m10, rfl⟩
  have B10 : Hid (Below w1.heap.size w1 (w9.drewN m10)) := below_drewN (below_thru M9.out.2 B8.out) m10
  obtain ⟨w10, h10⟩ : ∃ w10, w9.drewN m10 = w10 := ⟨_, rfl⟩
  rw [h10] at B10 ⊢
  clear h10 M8 M9 B8
  go_wp2_with fail
  refine (mCount_any most rs oa cp HR.out hs hn _ (M1.out.2.2.kept B10.out)).mono ?_
  rintro e w11 ⟨rfl, b11⟩
  have B11 : Hid (Below w1.heap.size w1 w11) := below_thru b11 B10.out
  clear b11
  go_wp2_with fail
  refine (refCount_any most rs v HR.out hs hn _ (H.out.kept (below_thru B11.out M1.out.2.1))).mono ?_
  rintro e w12 ⟨rfl, b12⟩
  have B12 : Hid (Below w1.heap.size w1 w12) := below_thru b12 B11.out
  clear b12
  go_wp2_with fail
  refine (kept_any rs _ _ (fun r hr => by have := HR.out r hr; omega) (by omega) _ _ (M1.out.1.kept B12.out) (H.out.kept (below_thru B12.out M1.out.2.1))).mono ?_
  rintro e w13 ⟨rfl, m13, rfl⟩
  have B13 : Hid (Below w.heap.size w (w12.drewN m13)) := below_drewN (below_thru B12.out M1.out.2.1) m13
  go_wp2_with fail
  refine (awake_any _).mono ?_
  rintro e w14 ⟨rfl, b14⟩
  have B14 := Lib.hid (below_thru b14 B13.out)
  clear b14
  go_wp2
  go_ret
  exact ⟨rfl, B14.out⟩
theorem flat_bulk (bs : List (List ByteArray)) : (bs.map texts).flatten.length ≤ bulkL bs := by
  induction bs with
  | nil => exact Nat.zero_le _
  | cons b r ih =>
    have h1 := bulkS_length b
    have h2 := texts_length b
    have h3 : bulkL (b :: r) = (bulkS b + 1) + bulkL r := by simp [bulkL]
    rw [List.map_cons, List.flatten_cons, List.length_append]
    omega
theorem membersJoins_walk (v0 : Value) (bs0 : List (List ByteArray)) (h0 : bulkL bs0 ≤ 1048576) (a1 : Int) (w1 : (Lit.int .i64 a1).wf = true) (w : World) (s0 : LRow w v0 bs0) :
    Calls Try.prog 7 #[v0, .int .i64 a1] w fun e w' => e = .returned (.bool true) ∧ Below w.heap.size w w' := by
  refine joins_up v0 (bs0.map texts) a1 (Nat.le_trans (flat_bulk bs0) h0) (by rw [List.length_map]; exact Nat.le_trans (bulkL_length bs0) h0) w ?_
  unfold TLRow
  rw [List.map_map, show strs ∘ texts = id by funext x; exact strs_texts x, List.map_id]
  exact s0
end Go.Proofs.Ytjceoigekifgdaa
