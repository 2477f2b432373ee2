/- Union, Count. -/
import Derived.Test.YtjceoigekifgdaaMem12
namespace Go.Proofs.Ytjceoigekifgdaa
open Go.ChangeShapes Go.WideShapes Go.ChangeAt Go.RowKit Go.Sort
set_option linter.unusedVariables false

def Pl.unions (rs : List (List Tx)) : List Tx := Pl.ofS rs.flatten
theorem flat_take (rs : List (List Tx)) (k : Nat) : (rs.take k).flatten.length ≤ rs.flatten.length := by
  have := congrArg (fun l : List (List Tx) => l.flatten.length) (List.take_append_drop k rs)
  simp only [List.flatten_append, List.length_append] at this
  omega
theorem flat_step {rs : List (List Tx)} {k : Nat} {r : List Tx} (h : rs[k]? = some r) : (rs.take (k + 1)).flatten = (rs.take k).flatten ++ r := by
  rw [take_row h, List.flatten_append]; simp
theorem flat_mem {rs : List (List Tx)} {r : List Tx} (h : r ∈ rs) : r.length ≤ rs.flatten.length := by
  obtain ⟨s, t, rfl⟩ := List.append_of_mem h
  simp; omega
set_option maxHeartbeats 1600000 in
set_option maxRecDepth 100000 in
theorem mUnion_any (rs : List (List Tx)) (v : Value) (hs : rs.flatten.length ≤ 1048576) (hn : rs.length ≤ 1048576) (w : World) (h : TLRow w v rs) :
    Calls Try.prog 26 #[v] w fun e w' => FreshEnd (Pl.unions rs) w e w' := by
  obtain ⟨ao, cp, rfl, hh⟩ := h.open
  have H := Lib.hid hh
  clear h hh
  go_enter Try.func26, Try.ntmps26
  go_wp2
  go_loopw [3, 8] (fun o i wr => ∃ (k : Nat) (B : List Tx) (oo : Option Addr) (oc : Nat), k ≤ rs.length ∧ i = .int .i64 k ∧ o = .slice oo B.length oc ∧ B.length ≤ 1048576 ∧ Hid (Fresh w wr (.slice oo B.length oc) B ∧ Below w.heap.size w wr) ∧ Hid (B = Pl.ofS (rs.take k).flatten)) (fun _ i _ => rs.length - (intOf i).toNat)
  case atStart => exact ⟨0, [], none, 0, Nat.zero_le _, rfl, rfl, Nat.zero_le _, ⟨(Made.nil _ _).fresh, Below.refl _ _⟩, by show _ = _; rfl⟩
  case round =>
    obtain ⟨k, B, oo, oc, hk, rfl, rfl, hBl, HM, HE⟩ := hrel
    by_cases hlt : k < rs.length
    · obtain ⟨r, hr⟩ : ∃ r, rs[k]? = some r := ⟨rs[k], List.getElem?_eq_getElem hlt⟩
      rcases H.out with h0 | ⟨g2, off2, rfl, hg2, hc2⟩
      · rw [h0] at hlt; simp at hlt
      obtain ⟨x, hx, htx⟩ := hc2 k r hr
      have hrl := flat_mem (List.mem_of_getElem? hr)
      have hxr : wr.cell? ⟨g2, off2 + k, none⟩ = some x := (HM.out.2.cell (p := ⟨g2, off2 + k, none⟩) hg2).trans hx
      have TR : Hid (TRow wr x r) := htx.kept HM.out.2
      have HX := Lib.hid hr
      have hkI : (k : Int) < (rs.length : Int) := by omega
      have hk0 : (0 : Int) ≤ (k : Int) := by omega
      clear hc2 hx htx hr
      go_wp2_with fail
      refine (mOf_any r x (by omega) _ TR.out).mono ?_
      rintro e w2 ⟨y, rfl, m2, b2⟩
      have hol := Pl.ofS_length r
      obtain ⟨o2, c2, rfl, r2⟩ := m2.rowC
      obtain ⟨o1, c1, e1, r1⟩ := HM.out.1.rowC
      rw [Value.slice.injEq] at e1
      obtain ⟨rfl, _, rfl⟩ := e1
      have M2 := Lib.hid (And.intro b2 (And.intro r1 r2))
      clear m2 b2 r1 r2
      go_wp2_with fail
      refine (merge_any B (Pl.ofS r) true true true _ _ _ _ (by omega) _ (M2.out.2.1.kept M2.out.1) M2.out.2.2).mono ?_
      rintro e w3 ⟨y3, rfl, m3, b3⟩
      obtain ⟨C, hC⟩ : ∃ C, Pl.mg true true true B (Pl.ofS r) = C := ⟨_, rfl⟩
      rw [hC] at m3
      have hCe : C = Pl.ofS (rs.take (k + 1)).flatten := by rw [← hC, HE.out, Pl.mg_union, flat_step HX.out]
      have hCl : C.length ≤ 1048576 := by rw [hCe]; exact Nat.le_trans (Pl.ofS_length _) (Nat.le_trans (flat_take rs (k + 1)) hs)
      obtain ⟨o3, c3, rfl⟩ := m3.shape
      have b12 := below_thru M2.out.1 HM.out.2
      have HN : Hid (Fresh w w3 (.slice o3 C.length c3) C ∧ Below w.heap.size w w3) := ⟨m3.fresh.thru b12, below_thru b3 b12⟩
      have HS := Lib.hid hCe
      clear m3 b3 hC hCe b12
      go_wp2
      go_roundw
      case rel => exact ⟨k + 1, C, o3, c3, by omega, by go_num, rfl, hCl, HN, HS.out⟩
      case measure => simp [intOf]; omega
    · obtain rfl : rs.length = k := by omega
      go_wp2
      go_ret
      have := HE.out
      rw [List.take_length] at this
      refine ⟨_, rfl, ?_, HM.out.2⟩
      show Fresh w wr _ (Pl.ofS rs.flatten)
      rw [← this]
      exact HM.out.1
set_option maxHeartbeats 1600000 in
set_option maxRecDepth 100000 in
theorem refUnion_any (rs : List (List Tx)) (v : Value) (hs : rs.flatten.length ≤ 1048576) (hn : rs.length ≤ 1048576) (w : World) (h : TLRow w v rs) :
    Calls Try.prog 27 #[v] w fun e w' => FreshEnd (Pl.unions rs) w e w' := by
  obtain ⟨ao, cp, rfl, hh⟩ := h.open
  have H := Lib.hid hh
  clear h hh
  go_enter Try.func27, Try.ntmps27
  go_wp2
  go_loopw [3, 4] (fun o i wr => ∃ (k : Nat) (B : List Tx) (oo : Option Addr) (oc : Nat), k ≤ rs.length ∧ i = .int .i64 k ∧ o = .slice oo B.length oc ∧ B.length ≤ 1048576 ∧ Hid (Made w wr (.slice oo B.length oc) B ∧ Below w.heap.size w wr) ∧ Hid (B = (rs.take k).flatten)) (fun _ i _ => rs.length - (intOf i).toNat)
  case atStart => exact ⟨0, [], none, 0, Nat.zero_le _, rfl, rfl, Nat.zero_le _, ⟨Made.nil _ _, Below.refl _ _⟩, by show _ = _; rfl⟩
  case round =>
    obtain ⟨k, B, oo, oc, hk, rfl, rfl, hBl, HM, HE⟩ := hrel
    by_cases hlt : k < rs.length
    · obtain ⟨r, hr⟩ : ∃ r, rs[k]? = some r := ⟨rs[k], List.getElem?_eq_getElem hlt⟩
      rcases H.out with h0 | ⟨g2, off2, rfl, hg2, hc2⟩
      · rw [h0] at hlt; simp at hlt
      obtain ⟨x, hx, htx⟩ := hc2 k r hr
      have hrl := flat_mem (List.mem_of_getElem? hr)
      obtain ⟨xa, xc, rfl⟩ := htx.shape
      have hxr : wr.cell? ⟨g2, off2 + k, none⟩ = some (.slice xa r.length xc) := (HM.out.2.cell (p := ⟨g2, off2 + k, none⟩) hg2).trans hx
      have TR : Hid (TRow wr (.slice xa r.length xc) r) := htx.kept HM.out.2
      have hBs : B ++ r = (rs.take (k + 1)).flatten := by rw [HE.out, flat_step hr]
      have hCl : (B ++ r).length ≤ 1048576 := by rw [hBs]; exact Nat.le_trans (flat_take rs (k + 1)) hs
      have HX := Lib.hid hBs
      have hkI : (k : Int) < (rs.length : Int) := by omega
      have hk0 : (0 : Int) ≤ (k : Int) := by omega
      clear hc2 hx htx hr hBs
      go_wp2_with (at_builtin; refine wpList_append_row (w0 := w) rfl _ _ rfl B r _ _ rfl rfl HM.out.1 TR.out HM.out.2 (by omega) ?_; intro v5 w5 m5 b5 _; obtain ⟨o5, c5, rfl⟩ := m5.shape; have HN := Lib.hid (And.intro m5 b5); clear m5 b5)
      go_wp2
      go_roundw
      case rel => exact ⟨k + 1, B ++ r, o5, c5, by omega, by go_num, by rw [List.length_append], hCl, HN, HX.out⟩
      case measure => simp [intOf]; omega
    · obtain rfl : rs.length = k := by omega
      have := HE.out
      rw [List.take_length] at this
      have HF := Lib.hid this
      clear this
      go_wp2_with fail
      refine (refOf_any B _ (by omega) _ HM.out.1.trow).mono ?_
      rintro e w2 ⟨y, rfl, m2, b2⟩
      have M2 := Lib.hid (And.intro m2 b2)
      clear m2 b2
      go_wp2
      go_ret
      refine ⟨_, rfl, ?_, below_thru M2.out.2 HM.out.2⟩
      show Fresh w w2 _ (Pl.ofS rs.flatten)
      rw [← HF.out]
      exact M2.out.1.fresh.thru HM.out.2
theorem inters_length (rs : List (List Tx)) : (Pl.inters rs).length ≤ rs.flatten.length := by
  rcases rs with _ | ⟨r, rest⟩
  · exact Nat.zero_le _
  · exact Nat.le_trans (List.length_filter_le _ _) (Nat.le_trans (Pl.ofS_length r) (by simp))
theorem diffs_length (rs : List (List Tx)) : (Pl.diffs rs).length ≤ rs.flatten.length := by
  rcases rs with _ | ⟨r, rest⟩
  · exact Nat.zero_le _
  · exact Nat.le_trans (List.length_filter_le _ _) (Nat.le_trans (Pl.ofS_length r) (by simp))
def countN (most : Int) (rs : List (List Tx)) : Int := if 1 ≤ most ∧ most < (Pl.inters rs).length then most else (Pl.inters rs).length
def NumEnd (n : Int) (w : World) (e : Ending) (w' : World) : Prop := e = .returned (.int .i64 n) ∧ Below w.heap.size w w'
set_option maxHeartbeats 1600000 in
theorem mCount_any (most : Int) (rs : List (List Tx)) (oa : Option Addr) (cp : Nat) (hr : ∀ r ∈ rs, r.length ≤ 1048576) (hs : rs.flatten.length ≤ 1048576) (hn : rs.length ≤ 1048576) (w : World) (h : TLC w oa cp rs) :
    Calls Try.prog 32 #[.int .i64 most, .slice oa rs.length cp] w fun e w' => NumEnd (countN most rs) w e w' := by
  have H := Lib.hid h
  clear h
  have hil := inters_length rs
  go_enter Try.func32, Try.ntmps32
  go_wp2_with fail
  refine (mInter_any rs oa cp hr hn _ H.out).mono ?_
  rintro e w1 ⟨x, rfl, f1, b1⟩
  obtain ⟨I, hI⟩ : ∃ I, Pl.inters rs = I := ⟨_, rfl⟩
  rw [hI] at f1 hil
  obtain ⟨o1, c1, rfl⟩ := f1.shape
  have B1 := Lib.hid b1
  have HI := Lib.hid hI
  clear f1 b1 hI
  by_cases h1 : 1 ≤ most
  · by_cases h2 : most < (I.length : Int)
    · have hN : countN most rs = most := by unfold countN; rw [HI.out, if_pos ⟨h1, h2⟩]
      have HN := Lib.hid hN
      clear hN
      go_wp2
      go_ret
      exact ⟨by rw [HN.out]; first | rfl | (simp; omega), B1.out⟩
    · have hN : countN most rs = (I.length : Int) := by unfold countN; rw [HI.out, if_neg (fun h => h2 h.2)]
      have HN := Lib.hid hN
      clear hN
      go_wp2
      go_ret
      exact ⟨by rw [HN.out]; first | rfl | (simp; omega), B1.out⟩
  · have hN : countN most rs = (I.length : Int) := by unfold countN; rw [HI.out, if_neg (fun h => h1 h.1)]
    have HN := Lib.hid hN
    clear hN
    go_wp2
    go_ret
    exact ⟨by rw [HN.out]; rfl, B1.out⟩
set_option maxHeartbeats 1600000 in
theorem refCount_any (most : Int) (rs : List (List Tx)) (v : Value) (hr : ∀ r ∈ rs, r.length ≤ 1048576) (hs : rs.flatten.length ≤ 1048576) (hn : rs.length ≤ 1048576) (w : World) (h : TLRow w v rs) :
    Calls Try.prog 33 #[.int .i64 most, v] w fun e w' => NumEnd (countN most rs) w e w' := by
  have H := Lib.hid h
  clear h
  have hil := inters_length rs
  go_enter Try.func33, Try.ntmps33
  go_wp2_with fail
  refine (refInter_any rs v (fun r hh => by have := hr r hh; omega) (by omega) _ H.out).mono ?_
  rintro e w1 ⟨x, rfl, f1, b1⟩
  obtain ⟨I, hI⟩ : ∃ I, Pl.inters rs = I := ⟨_, rfl⟩
  rw [hI] at f1 hil
  obtain ⟨o1, c1, rfl⟩ := f1.shape
  have B1 := Lib.hid b1
  have HI := Lib.hid hI
  clear f1 b1 hI
  by_cases h1 : 1 ≤ most
  · have h1D : decide (0 < most) = true := by rw [decide_eq_true_iff]; omega
    have h1P : 0 < most := by omega
    by_cases h2 : most < (I.length : Int)
    · have hN : countN most rs = most := by unfold countN; rw [HI.out, if_pos ⟨h1, h2⟩]
      have HN := Lib.hid hN
      clear hN
      go_wp2
      go_ret
      exact ⟨by rw [HN.out]; rfl, B1.out⟩
    · have hN : countN most rs = (I.length : Int) := by unfold countN; rw [HI.out, if_neg (fun h => h2 h.2)]
      have h2D : decide (most < (I.length : Int)) = false := by rw [decide_eq_false_iff_not]; exact h2
      have HN := Lib.hid hN
      clear hN
      go_wp2
      go_ret
      exact ⟨by rw [HN.out]; rfl, B1.out⟩
  · have hN : countN most rs = (I.length : Int) := by unfold countN; rw [HI.out, if_neg (fun h => h1 h.1)]
    have h1D : decide (0 < most) = false := by rw [decide_eq_false_iff_not]; omega
    have HN := Lib.hid hN
    clear hN
    go_wp2
    go_ret
    exact ⟨by rw [HN.out]; rfl, B1.out⟩
end Go.Proofs.Ytjceoigekifgdaa
