/- After, Valid, Has. -/
import Derived.Test.YtjceoigekifgdaaMem9
namespace Go.Proofs.Ytjceoigekifgdaa
open Go.ChangeShapes Go.WideShapes Go.ChangeAt Go.RowKit Go.Sort
set_option linter.unusedVariables false

def Pl.after (m : Tx) (most : Int) (A : List Tx) : List Tx := (A.filter fun x => decide (m < x)).take most.toNat
theorem after_len (m : Tx) (most : Int) (A : List Tx) : (Pl.after m most A).length ≤ A.length := Nat.le_trans (List.length_take_le' _ _) (List.length_filter_le _ _)
theorem after_done {m : Tx} {most : Int} {A acc : List Tx} {k : Nat} (h : acc = (A.take k).filter fun x => decide (m < x)) (hl : acc.length ≤ most.toNat) (he : A.length ≤ k ∨ most ≤ acc.length) : Pl.after m most A = acc := by
  unfold Pl.after
  rcases he with he | he
  · rw [List.take_of_length_le he] at h
    rw [← h, List.take_of_length_le hl]
  · have hm : most.toNat = acc.length := by omega
    have : A.filter (fun x => decide (m < x)) = acc ++ (A.drop k).filter fun x => decide (m < x) := by
      rw [h, ← List.filter_append, List.take_append_drop]
    rw [this, hm, List.take_left]
theorem after_step {m x : Tx} {most : Int} {A acc : List Tx} {k : Nat} (h : acc = (A.take k).filter fun x => decide (m < x)) (hx : A[k]? = some x) : (A.take (k + 1)).filter (fun x => decide (m < x)) = acc ++ if m < x then [x] else [] := by
  rw [take_row hx, List.filter_append, ← h, List.filter_cons]
  by_cases e : m < x <;> simp [e]
set_option maxHeartbeats 3200000 in
set_option maxRecDepth 100000 in
theorem mAfter_any (l : List Tx) (mt : Tx) (most : Int) (v : Value) (hl : l.length ≤ 8796093022000) (w : World) (h : TRow w v l) :
    Calls Try.prog 18 #[v, .string (str mt), .int .i64 most] w fun e w' => FreshEnd (Pl.after mt most (Pl.ofS l)) w e w' := by
  have H := Lib.hid h
  clear h
  go_enter Try.func18, Try.ntmps18
  go_wp2_with fail
  refine (mOf_any l v hl _ H.out).mono ?_
  rintro e w1 ⟨a, rfl, m1, b1⟩
  obtain ⟨A, hA⟩ : ∃ A, Pl.ofS l = A := ⟨_, rfl⟩
  have hAl : A.length ≤ 8796093022000 := by rw [← hA]; exact Nat.le_trans (Pl.ofS_length _) hl
  rw [hA] at m1
  obtain ⟨oa, ca, rfl, r1⟩ := m1.rowC
  have M1 := Lib.hid (And.intro m1 (And.intro b1 r1))
  have HA := Lib.hid hA
  clear m1 b1 r1 hA
  go_wp2
  go_loopw [7, 13] (fun o i wr => ∃ (k : Nat) (acc : List Tx) (oo : Option Addr) (oc : Nat), k ≤ A.length ∧ acc.length ≤ k ∧ i = .int .i64 k ∧ o = .slice oo acc.length oc ∧ Hid (Made w1 wr (.slice oo acc.length oc) acc ∧ Below w1.heap.size w1 wr) ∧ Hid ((acc = (A.take k).filter fun x => decide (mt < x)) ∧ acc.length ≤ most.toNat)) (fun _ i _ => A.length - (intOf i).toNat)
  case atStart => exact ⟨0, [], none, 0, Nat.zero_le _, Nat.le_refl _, rfl, rfl, ⟨Made.nil _ _, Below.refl _ _⟩, by show _ ∧ _; simp⟩
  case round =>
    obtain ⟨k, acc, oo, oc, hk, hacc, rfl, rfl, HM, HE⟩ := hrel
    by_cases hlt : k < A.length
    · skip
      obtain ⟨x, hx⟩ : ∃ x, A[k]? = some x := ⟨A[k], List.getElem?_eq_getElem hlt⟩
      rcases M1.out.2.2.2.2 with h0 | ⟨ga, offa, rfl, hga, hca⟩
      · rw [h0] at hlt; simp at hlt
      have hxa := hca k x hx
      have hxr : wr.cell? ⟨ga, offa + k, none⟩ = some (.string (str x)) := (HM.out.2.cell (p := ⟨ga, offa + k, none⟩) hga).trans hxa
      have HS := Lib.hid (after_step (most := most) HE.out.1 hx)
      have hkI : (k : Int) < (A.length : Int) := by omega
      have hk0 : (0 : Int) ≤ (k : Int) := by omega
      clear hca hx hxa
      by_cases hst : most ≤ (acc.length : Int)
      · have hst2 := hst
        go_wp2
        go_ret
        refine ⟨_, rfl, ?_, below_thru HM.out.2 M1.out.2.1⟩
        rw [HA.out, after_done HE.out.1 HE.out.2 (.inr hst2)]
        exact HM.out.1.fresh.thru M1.out.2.1
      · have hst2 : (acc.length : Int) < most := by omega
        by_cases hmx : mt < x
        · have b1 : Op.bytesLess (str x).toList (str mt).toList = false := by rw [less_str, decide_eq_false (Pl.ltA hmx)]
          have b2 : ((str x).toList == (str mt).toList) = false := by rw [eq_str, decide_eq_false (fun e => Pl.ltN hmx e.symm)]
          have HX := Lib.hid hmx
          clear hmx
          go_wp2_with (at_builtin; refine wpList_append_one _ rfl _ _ 22 rfl w1.heap.size 9 (.string ⟨#[]⟩) 16 Try.underlying22 infoS rfl _ acc.length (acc.map strV) rfl (by exact HM.out.1.owns) (.string (str x)) rfl rfl (by simp only [maxLen]; omega) (by omega) (by exact HM.out.2.size) ?_; intro v5 w5 hown5 hg5 hbl; have hb5 := hbl w1 w1.heap.size (by exact HM.out.2) (Nat.le_refl _); clear hbl hg5; obtain ⟨a5, c5, rfl, HM5⟩ := grownT hown5 hb5; clear hown5 hb5)
          go_wp2
          go_roundw
          case rel => exact ⟨k + 1, acc ++ [x], a5, c5, by omega, by simp; omega, by go_num, by simp, by simpa using HM5, by show _ ∧ _; rw [HS.out, if_pos HX.out]; exact ⟨rfl, by simp; omega⟩⟩
          case measure => simp [intOf]; omega
        · have HX := Lib.hid hmx
          by_cases heq : x = mt
          · have b1 : Op.bytesLess (str x).toList (str mt).toList = false := by rw [less_str, decide_eq_false (by rw [heq]; exact Pl.ltI _)]
            have b2 : ((str x).toList == (str mt).toList) = true := by rw [eq_str, decide_eq_true heq]
            clear hmx heq
            go_wp2
            go_roundw
            case rel => exact ⟨k + 1, acc, oo, oc, by omega, by omega, by go_num, rfl, HM, by show _ ∧ _; rw [HS.out, if_neg HX.out, List.append_nil]; exact ⟨rfl, HE.out.2⟩⟩
            case measure => simp [intOf]; omega
          · have b1 : Op.bytesLess (str x).toList (str mt).toList = true := by
              rw [less_str]
              rcases Pl.tri mt x with h | h | h
              · exact absurd h hmx
              · exact absurd h.symm heq
              · exact decide_eq_true h
            have b2 : ((str x).toList == (str mt).toList) = false := by rw [eq_str, decide_eq_false heq]
            clear hmx heq
            go_wp2
            go_roundw
            case rel => exact ⟨k + 1, acc, oo, oc, by omega, by omega, by go_num, rfl, HM, by show _ ∧ _; rw [HS.out, if_neg HX.out, List.append_nil]; exact ⟨rfl, HE.out.2⟩⟩
            case measure => simp [intOf]; omega
    · obtain rfl : A.length = k := by omega
      go_wp2
      go_ret
      refine ⟨_, rfl, ?_, below_thru HM.out.2 M1.out.2.1⟩
      rw [HA.out, after_done HE.out.1 HE.out.2 (.inl (Nat.le_refl _))]
      exact HM.out.1.fresh.thru M1.out.2.1
set_option maxHeartbeats 3200000 in
set_option maxRecDepth 100000 in
theorem refAfter_any (l : List Tx) (mt : Tx) (most : Int) (v : Value) (hl : l.length ≤ 8796093022000) (w : World) (h : TRow w v l) :
    Calls Try.prog 19 #[v, .string (str mt), .int .i64 most] w fun e w' => FreshEnd (Pl.after mt most (Pl.ofS l)) w e w' := by
  have H := Lib.hid h
  clear h
  go_enter Try.func19, Try.ntmps19
  go_wp2_with fail
  refine (refOf_any l v hl _ H.out).mono ?_
  rintro e w1 ⟨a, rfl, m1, b1⟩
  have m1 := m1.fresh
  obtain ⟨A, hA⟩ : ∃ A, Pl.ofS l = A := ⟨_, rfl⟩
  have hAl : A.length ≤ 8796093022000 := by rw [← hA]; exact Nat.le_trans (Pl.ofS_length _) hl
  rw [hA] at m1
  obtain ⟨oa, ca, rfl, r1⟩ := m1.rowC
  have M1 := Lib.hid (And.intro m1 (And.intro b1 r1))
  have HA := Lib.hid hA
  clear m1 b1 r1 hA
  go_wp2
  go_loopw [8, 9] (fun o i wr => ∃ (k : Nat) (acc : List Tx) (oo : Option Addr) (oc : Nat), k ≤ A.length ∧ acc.length ≤ k ∧ i = .int .i64 k ∧ o = .slice oo acc.length oc ∧ Hid (Made w1 wr (.slice oo acc.length oc) acc ∧ Below w1.heap.size w1 wr) ∧ Hid ((acc = (A.take k).filter fun x => decide (mt < x)) ∧ acc.length ≤ most.toNat)) (fun _ i _ => A.length - (intOf i).toNat)
  case atStart => exact ⟨0, [], none, 0, Nat.zero_le _, Nat.le_refl _, rfl, rfl, ⟨Made.nil _ _, Below.refl _ _⟩, by show _ ∧ _; simp⟩
  case round =>
    obtain ⟨k, acc, oo, oc, hk, hacc, rfl, rfl, HM, HE⟩ := hrel
    by_cases hlt : k < A.length
    · skip
      obtain ⟨x, hx⟩ : ∃ x, A[k]? = some x := ⟨A[k], List.getElem?_eq_getElem hlt⟩
      rcases M1.out.2.2.2.2 with h0 | ⟨ga, offa, rfl, hga, hca⟩
      · rw [h0] at hlt; simp at hlt
      have hxa := hca k x hx
      have hxr : wr.cell? ⟨ga, offa + k, none⟩ = some (.string (str x)) := (HM.out.2.cell (p := ⟨ga, offa + k, none⟩) hga).trans hxa
      have HS := Lib.hid (after_step (most := most) HE.out.1 hx)
      have hkI : (k : Int) < (A.length : Int) := by omega
      have hk0 : (0 : Int) ≤ (k : Int) := by omega
      clear hca hx hxa
      have hkN : decide (k < A.length) = true := by rw [decide_eq_true_iff]; exact hlt
      by_cases hst : most ≤ (acc.length : Int)
      · have hst2 := hst
        have hst3 : ¬ (acc.length : Int) < most := by omega
        have hst4 : decide ((acc.length : Int) < most) = false := by rw [decide_eq_false_iff_not]; omega
        go_wp2
        go_ret
        refine ⟨_, rfl, ?_, below_thru HM.out.2 M1.out.2.1⟩
        rw [HA.out, after_done HE.out.1 HE.out.2 (.inr hst2)]
        exact HM.out.1.fresh.thru M1.out.2.1
      · have hst2 : (acc.length : Int) < most := by omega
        by_cases hmx : mt < x
        · have b1 : Op.bytesLess (str x).toList (str mt).toList = false := by rw [less_str, decide_eq_false (Pl.ltA hmx)]
          have b2 : ((str x).toList == (str mt).toList) = false := by rw [eq_str, decide_eq_false (fun e => Pl.ltN hmx e.symm)]
          have HX := Lib.hid hmx
          clear hmx
          go_wp2_with (at_builtin; refine wpList_append_one _ rfl _ _ 22 rfl w1.heap.size 9 (.string ⟨#[]⟩) 16 Try.underlying22 infoS rfl _ acc.length (acc.map strV) rfl (by exact HM.out.1.owns) (.string (str x)) rfl rfl (by simp only [maxLen]; omega) (by omega) (by exact HM.out.2.size) ?_; intro v5 w5 hown5 hg5 hbl; have hb5 := hbl w1 w1.heap.size (by exact HM.out.2) (Nat.le_refl _); clear hbl hg5; obtain ⟨a5, c5, rfl, HM5⟩ := grownT hown5 hb5; clear hown5 hb5)
          go_wp2
          go_roundw
          case rel => exact ⟨k + 1, acc ++ [x], a5, c5, by omega, by simp; omega, by go_num, by simp, by simpa using HM5, by show _ ∧ _; rw [HS.out, if_pos HX.out]; exact ⟨rfl, by simp; omega⟩⟩
          case measure => simp [intOf]; omega
        · have HX := Lib.hid hmx
          by_cases heq : x = mt
          · have b1 : Op.bytesLess (str x).toList (str mt).toList = false := by rw [less_str, decide_eq_false (by rw [heq]; exact Pl.ltI _)]
            have b2 : ((str x).toList == (str mt).toList) = true := by rw [eq_str, decide_eq_true heq]
            clear hmx heq
            go_wp2
            go_roundw
            case rel => exact ⟨k + 1, acc, oo, oc, by omega, by omega, by go_num, rfl, HM, by show _ ∧ _; rw [HS.out, if_neg HX.out, List.append_nil]; exact ⟨rfl, HE.out.2⟩⟩
            case measure => simp [intOf]; omega
          · have b1 : Op.bytesLess (str x).toList (str mt).toList = true := by
              rw [less_str]
              rcases Pl.tri mt x with h | h | h
              · exact absurd h hmx
              · exact absurd h.symm heq
              · exact decide_eq_true h
            have b2 : ((str x).toList == (str mt).toList) = false := by rw [eq_str, decide_eq_false heq]
            clear hmx heq
            go_wp2
            go_roundw
            case rel => exact ⟨k + 1, acc, oo, oc, by omega, by omega, by go_num, rfl, HM, by show _ ∧ _; rw [HS.out, if_neg HX.out, List.append_nil]; exact ⟨rfl, HE.out.2⟩⟩
            case measure => simp [intOf]; omega
    · obtain rfl : A.length = k := by omega
      go_wp2
      go_ret
      refine ⟨_, rfl, ?_, below_thru HM.out.2 M1.out.2.1⟩
      rw [HA.out, after_done HE.out.1 HE.out.2 (.inl (Nat.le_refl _))]
      exact HM.out.1.fresh.thru M1.out.2.1
end Go.Proofs.Ytjceoigekifgdaa
