/- The walk of BlobCounts. -/
import Derived.Test.YtgdebcpnihibjaaDoorBlobSure
import Derived.Deep.RegionHeld3
namespace Go.Proofs.YtgdebcpnihibjaaDoor
open Go.ChangeShapes Go.WideShapes Go.ChangeAt Go.RowKit
set_option linter.unusedVariables false

section
variable {s : ByteArray} {f t : Int} {wb : World}
theorem cnt_rel (hs : s.size ≤ 140737488351232) (f1 : -9223372036854775808 ≤ f) (f2 : f ≤ 9223372036854775807) (t1 : -9223372036854775808 ≤ t) (t2 : t ≤ 9223372036854775807) (w1 : World) (hb : Below wb.heap.size wb w1) :
    Calls Tryd.prog 23 #[.string s, .int .i64 f, .int .i64 t] w1 fun e w' => e = .returned (.int .i64 (countV s f t : Int)) ∧ Below wb.heap.size wb w' :=
  (count_any s hs f t f1 f2 t1 t2 w1).mono fun e w' ⟨h1, h2⟩ => ⟨h1, hb.trans (h2.mono hb.size)⟩
theorem refCnt_rel (hs : s.size ≤ 140737488351232) (f1 : -9223372036854775808 ≤ f) (f2 : f ≤ 9223372036854775807) (t1 : -9223372036854775808 ≤ t) (t2 : t ≤ 9223372036854775807) (w1 : World) (hb : Below wb.heap.size wb w1) :
    Calls Tryd.prog 24 #[.string s, .int .i64 f, .int .i64 t] w1 fun e w' => e = .returned (.int .i64 (countV s f t : Int)) ∧ Below wb.heap.size wb w' :=
  (refCount_any s hs f t f1 f2 t1 t2 w1).mono fun e w' ⟨h1, h2⟩ => ⟨h1, h2 ▸ hb⟩
theorem sure_rel (h : Pows wb) (hv : Sents wb) (w1 : World) (hb : Below wb.heap.size wb w1) :
    Calls Tryd.prog 14 #[] w1 fun e w' => e = .returned (.bool true) ∧ Below wb.heap.size wb w' :=
  (sure_any w1 (h.kept (B := 0) hb) (hv.kept hb)).mono fun e w' ⟨h1, h2⟩ => ⟨h1, hb.trans (h2.mono hb.size)⟩
end

set_option maxRecDepth 100000 in
theorem counts_0 (s : ByteArray) (hs : s.size ≤ 140737488351232) (f t : Int) (f1 : -9223372036854775808 ≤ f) (f2 : f ≤ 9223372036854775807) (t1 : -9223372036854775808 ≤ t) (t2 : t ≤ 9223372036854775807) (w : World) (h : Pows w) (hv : Sents w) :
    Calls Tryd.prog 6 #[.string s, .agg #[.int .i64 f, .int .i64 t, .int .i64 0]] w fun e w' => e = .returned (.bool true) ∧ Below w.heap.size w w' := by
  obtain ⟨wb, hwb⟩ : ∃ wb, wb = w.alloc (.cells #[.int .i64 f, .int .i64 t, .int .i64 0] 40) := ⟨_, rfl⟩
  have hw0 : Below w.heap.size w wb := by rw [hwb]; exact (Below.refl _ _).alloc (Nat.le_refl _) _
  have hsz : w.heap.size < wb.heap.size := by rw [hwb]; simp
  have kk : ∀ w', Below wb.heap.size wb w' → w'.cell? ⟨w.heap.size, 0, none⟩ = some (.int .i64 f) ∧ w'.cell? ⟨w.heap.size, 1, none⟩ = some (.int .i64 t) := fun w' hb => by
    refine ⟨(hb.cell (p := ⟨w.heap.size, 0, none⟩) hsz).trans ?_, (hb.cell (p := ⟨w.heap.size, 1, none⟩) hsz).trans ?_⟩
    · rw [hwb]; exact World.cell?_alloc_mark _ _ _ _ _
    · rw [hwb]; exact World.cell?_alloc_mark _ _ _ _ _
  have H := Lib.hid (h.kept (B := 0) hw0)
  have HV := Lib.hid (hv.kept hw0)
  have KK := Lib.hid kk
  clear h hv kk
  go_enter Tryd.func6, Tryd.ntmps6
  go_wp2_with fail
  ((with_reducible refine (first_0 s hs f t f1 f2 t1 t2 _).mono ?_); rintro e w1 ⟨x, rfl, hx, rfl⟩)
  go_wp2_with fail
  ((with_reducible refine (refFirst_0 s hs f t f1 f2 t1 t2 _).mono ?_); rintro e w1 ⟨y, rfl, hy, rfl⟩)
  obtain rfl : x = y := hx.eq hy
  clear hx hy
  go_wp2_with fail
  rw [← hwb]
  clear hwb
  go_region_held3 (fun w' => Below wb.heap.size wb w' ∧ w'.cell? ⟨w.heap.size, 0, none⟩ = some (.int .i64 f) ∧ w'.cell? ⟨w.heap.size, 1, none⟩ = some (.int .i64 t)) ((refine (fun hb => And.intro hb (KK.out _ hb)) ?_; first | assumption | exact Below.refl _ _ | exact (Below.refl _ _).drew | exact Below.drew ‹_›))
    (first
      | (go_at_call 23; (with_reducible refine (cnt_rel (wb := wb) hs f1 f2 t1 t2 _ ?_).mono ?_); (first | assumption | exact Below.refl _ _ | exact (Below.refl _ _).drew | exact Below.drew ‹_›); rintro e wx ⟨rfl, bx⟩)
      | (go_at_call 24; (with_reducible refine (refCnt_rel (wb := wb) hs f1 f2 t1 t2 _ ?_).mono ?_); (first | assumption | exact Below.refl _ _ | exact (Below.refl _ _).drew | exact Below.drew ‹_›); rintro e wx ⟨rfl, bx⟩)
      | (go_at_call 14; (with_reducible refine (sure_rel (wb := wb) H.out HV.out _ ?_).mono ?_); (first | assumption | exact Below.refl _ _ | exact (Below.refl _ _).drew | exact Below.drew ‹_›); rintro e wx ⟨rfl, bx⟩))
  all_goals
    go_wp2
    go_ret
    exact ⟨rfl, hw0.trans (Below.mono (by assumption) hw0.size)⟩

set_option maxRecDepth 100000 in
theorem counts_1 (s : ByteArray) (hs : s.size ≤ 140737488351232) (f t : Int) (f1 : -9223372036854775808 ≤ f) (f2 : f ≤ 9223372036854775807) (t1 : -9223372036854775808 ≤ t) (t2 : t ≤ 9223372036854775807) (w : World) (h : Pows w) (hv : Sents w) :
    Calls Tryd.prog 6 #[.string s, .agg #[.int .i64 f, .int .i64 t, .int .i64 1]] w fun e w' => e = .returned (.bool true) ∧ Below w.heap.size w w' := by
  obtain ⟨wb, hwb⟩ : ∃ wb, wb = w.alloc (.cells #[.int .i64 f, .int .i64 t, .int .i64 1] 40) := ⟨_, rfl⟩
  have hw0 : Below w.heap.size w wb := by rw [hwb]; exact (Below.refl _ _).alloc (Nat.le_refl _) _
  have hsz : w.heap.size < wb.heap.size := by rw [hwb]; simp
  have kk : ∀ w', Below wb.heap.size wb w' → w'.cell? ⟨w.heap.size, 0, none⟩ = some (.int .i64 f) ∧ w'.cell? ⟨w.heap.size, 1, none⟩ = some (.int .i64 t) := fun w' hb => by
    refine ⟨(hb.cell (p := ⟨w.heap.size, 0, none⟩) hsz).trans ?_, (hb.cell (p := ⟨w.heap.size, 1, none⟩) hsz).trans ?_⟩
    · rw [hwb]; exact World.cell?_alloc_mark _ _ _ _ _
    · rw [hwb]; exact World.cell?_alloc_mark _ _ _ _ _
  have H := Lib.hid (h.kept (B := 0) hw0)
  have HV := Lib.hid (hv.kept hw0)
  have KK := Lib.hid kk
  clear h hv kk
  go_enter Tryd.func6, Tryd.ntmps6
  go_wp2_with fail
  ((with_reducible refine (first_1 s hs f t f1 f2 t1 t2 _).mono ?_); rintro e w1 ⟨x, rfl, hx, rfl⟩)
  go_wp2_with fail
  ((with_reducible refine (refFirst_1 s hs f t f1 f2 t1 t2 _).mono ?_); rintro e w1 ⟨y, rfl, hy, rfl⟩)
  obtain rfl : x = y := hx.eq hy
  clear hx hy
  go_wp2_with fail
  rw [← hwb]
  clear hwb
  go_region_held3 (fun w' => Below wb.heap.size wb w' ∧ w'.cell? ⟨w.heap.size, 0, none⟩ = some (.int .i64 f) ∧ w'.cell? ⟨w.heap.size, 1, none⟩ = some (.int .i64 t)) ((refine (fun hb => And.intro hb (KK.out _ hb)) ?_; first | assumption | exact Below.refl _ _ | exact (Below.refl _ _).drew | exact Below.drew ‹_›))
    (first
      | (go_at_call 23; (with_reducible refine (cnt_rel (wb := wb) hs f1 f2 t1 t2 _ ?_).mono ?_); (first | assumption | exact Below.refl _ _ | exact (Below.refl _ _).drew | exact Below.drew ‹_›); rintro e wx ⟨rfl, bx⟩)
      | (go_at_call 24; (with_reducible refine (refCnt_rel (wb := wb) hs f1 f2 t1 t2 _ ?_).mono ?_); (first | assumption | exact Below.refl _ _ | exact (Below.refl _ _).drew | exact Below.drew ‹_›); rintro e wx ⟨rfl, bx⟩)
      | (go_at_call 14; (with_reducible refine (sure_rel (wb := wb) H.out HV.out _ ?_).mono ?_); (first | assumption | exact Below.refl _ _ | exact (Below.refl _ _).drew | exact Below.drew ‹_›); rintro e wx ⟨rfl, bx⟩))
  all_goals
    go_wp2
    go_ret
    exact ⟨rfl, hw0.trans (Below.mono (by assumption) hw0.size)⟩

set_option maxRecDepth 100000 in
theorem counts_bad (s : ByteArray) (hs : s.size ≤ 140737488351232) (v : Int) (h0 : (v != 0) = true) (h1 : (v != 1) = true) (f t : Int) (f1 : -9223372036854775808 ≤ f) (f2 : f ≤ 9223372036854775807) (t1 : -9223372036854775808 ≤ t) (t2 : t ≤ 9223372036854775807) (w : World) (h : Pows w) (hv : Sents w) :
    Calls Tryd.prog 6 #[.string s, .agg #[.int .i64 f, .int .i64 t, .int .i64 v]] w fun e w' => e = .returned (.bool true) ∧ Below w.heap.size w w' := by
  obtain ⟨wb, hwb⟩ : ∃ wb, wb = w.alloc (.cells #[.int .i64 f, .int .i64 t, .int .i64 v] 40) := ⟨_, rfl⟩
  have hw0 : Below w.heap.size w wb := by rw [hwb]; exact (Below.refl _ _).alloc (Nat.le_refl _) _
  have hsz : w.heap.size < wb.heap.size := by rw [hwb]; simp
  have kk : ∀ w', Below wb.heap.size wb w' → w'.cell? ⟨w.heap.size, 0, none⟩ = some (.int .i64 f) ∧ w'.cell? ⟨w.heap.size, 1, none⟩ = some (.int .i64 t) := fun w' hb => by
    refine ⟨(hb.cell (p := ⟨w.heap.size, 0, none⟩) hsz).trans ?_, (hb.cell (p := ⟨w.heap.size, 1, none⟩) hsz).trans ?_⟩
    · rw [hwb]; exact World.cell?_alloc_mark _ _ _ _ _
    · rw [hwb]; exact World.cell?_alloc_mark _ _ _ _ _
  have H := Lib.hid (h.kept (B := 0) hw0)
  have HV := Lib.hid (hv.kept hw0)
  have KK := Lib.hid kk
  clear h hv kk
  go_enter Tryd.func6, Tryd.ntmps6
  go_wp2_with fail
  ((with_reducible refine (first_bad s v f t h0 h1 _).mono ?_); rintro e w1 ⟨rfl, rfl⟩)
  go_wp2_with fail
  ((with_reducible refine (refFirst_bad s v f t h0 h1 _).mono ?_); rintro e w1 ⟨rfl, rfl⟩)
  go_wp2_with fail
  rw [← hwb]
  clear hwb
  go_region_held3 (fun w' => Below wb.heap.size wb w' ∧ w'.cell? ⟨w.heap.size, 0, none⟩ = some (.int .i64 f) ∧ w'.cell? ⟨w.heap.size, 1, none⟩ = some (.int .i64 t)) ((refine (fun hb => And.intro hb (KK.out _ hb)) ?_; first | assumption | exact Below.refl _ _ | exact (Below.refl _ _).drew | exact Below.drew ‹_›))
    (first
      | (go_at_call 23; (with_reducible refine (cnt_rel (wb := wb) hs f1 f2 t1 t2 _ ?_).mono ?_); (first | assumption | exact Below.refl _ _ | exact (Below.refl _ _).drew | exact Below.drew ‹_›); rintro e wx ⟨rfl, bx⟩)
      | (go_at_call 24; (with_reducible refine (refCnt_rel (wb := wb) hs f1 f2 t1 t2 _ ?_).mono ?_); (first | assumption | exact Below.refl _ _ | exact (Below.refl _ _).drew | exact Below.drew ‹_›); rintro e wx ⟨rfl, bx⟩)
      | (go_at_call 14; (with_reducible refine (sure_rel (wb := wb) H.out HV.out _ ?_).mono ?_); (first | assumption | exact Below.refl _ _ | exact (Below.refl _ _).drew | exact Below.drew ‹_›); rintro e wx ⟨rfl, bx⟩))
  all_goals
    go_wp2
    go_ret
    exact ⟨rfl, hw0.trans (Below.mono (by assumption) hw0.size)⟩
theorem blobCounts_walk (s : ByteArray) (hs : s.size ≤ 140737488351232) (f : Int) (wf : (Lit.int .i64 f).wf = true) (t : Int) (wt : (Lit.int .i64 t).wf = true) (v : Int) (wv : (Lit.int .i64 v).wf = true) (w : World) (h : Pows w) (hv : Sents w) :
    Calls Tryd.prog 6 #[.string s, .agg #[.int .i64 f, .int .i64 t, .int .i64 v]] w fun e w' => e = .returned (.bool true) ∧ Below w.heap.size w w' := by
  obtain ⟨f1, f2⟩ := bounds_i64 wf
  obtain ⟨t1, t2⟩ := bounds_i64 wt
  by_cases h0 : v = 0
  · subst h0; exact counts_0 s hs f t f1 f2 t1 t2 w h hv
  by_cases h1 : v = 1
  · subst h1; exact counts_1 s hs f t f1 f2 t1 t2 w h hv
  exact counts_bad s hs v (by rw [bne_iff_ne]; exact h0) (by rw [bne_iff_ne]; exact h1) f t f1 f2 t1 t2 w h hv
end Go.Proofs.YtgdebcpnihibjaaDoor
