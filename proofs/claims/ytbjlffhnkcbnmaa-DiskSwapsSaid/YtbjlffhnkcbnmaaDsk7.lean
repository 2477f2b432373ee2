/- The disk of the program: Append, Truncate. -/
import Derived.Test.YtbjlffhnkcbnmaaDsk6
namespace Go.Proofs.Ytbjlffhnkcbnmaa
open Go.ChangeShapes Go.WideShapes Go.ChangeAt Go.RowKit Go.Maps
open Pl (Tx Fl Ch Nm Dk)
set_option linter.unusedVariables false

theorem hitV_three (S : Dk) : ∃ x y z : Int, hitV S = .agg #[.int .i64 x, .int .i64 y, .int .i64 z] := by
  unfold hitV
  split
  · exact ⟨_, _, _, rfl⟩
  · exact ⟨_, _, _, rfl⟩
theorem Disk.alloc {w : World} {b : Nat} {F : Nat → Prop} {φ : Nat → Nat} {S : Dk} (h : Disk w b F φ S) (o : Obj) : Disk (w.alloc o) b F φ S := h.below ((Below.refl _ _).alloc (Nat.le_refl _) _)
/-- Both cells of a file are written. -/
theorem Disk.setFile2 {w : World} {b : Nat} {F : Nat → Prop} {φ : Nat → Nat} {S : Dk} (h : Disk w b F φ S) {i : Nat} {f : Fl} (hf : S.files[i]? = some f) {v0 v1 : Value} (g : Fl → Fl)
    (h0 : v0 = strV (g f).text) (h1 : v1 = .int .i64 (g f).sync) : Disk ((w.setCell ⟨φ i, 0, none⟩ v0).setCell ⟨φ i, 1, none⟩ v1) b F φ (S.setF i g) ∧ Wr F w ((w.setCell ⟨φ i, 0, none⟩ v0).setCell ⟨φ i, 1, none⟩ v1) := by
  subst h0; subst h1
  obtain ⟨nm, lm, ov, pv, h⟩ := h
  obtain ⟨h1, h2⟩ := h.files i f hf
  refine ⟨DiskAt.disk (h.updF hf g (heap_setCell_same (heap_setCell_same h1)) (fun j hj => ?_) (by rw [heap_setCell_size, heap_setCell_size])), ((Wr.refl F w).setCell (p := ⟨φ i, 0, none⟩) h2 _).setCell (p := ⟨φ i, 1, none⟩) h2 _⟩
  rw [Below.heap_setCell _ _ _ _ hj, Below.heap_setCell _ _ _ _ hj]
set_option maxRecDepth 100000 in
set_option maxHeartbeats 1600000 in
theorem append_any {w : World} {b j : Nat} {F : Nat → Prop} {S : Dk} (h : Dsk w b F S) (hI : S.Inv) (hS : S.Small j) (hj : j ≤ 32768) (n s : Tx) (hn : n.length ≤ 140737488355328) (hsl : s.length ≤ 140737488355328) :
    Calls Try.prog 16 #[.pointer (some ⟨b, 0, none⟩), .string (str n), .string (str s)] w (OpEnd b F (S.appendS n s) (.tuple #[.int .i64 (S.appendN n s), .int .i64 (S.appendE n)]) w) := by
  obtain ⟨φ, h⟩ := h
  have HFi := find_any h n hn
  unfold FoundEnd at HFi
  have H := Lib.hid h
  have HSt := step_any h (by have := hS.steps; omega) hS.plan
  unfold StepEnd at HSt
  have hss := str_size s
  by_cases h0 : S.askE n = 0
  · skip
    rw [if_pos h0, h0] at HFi
    replace HFi := Lib.hid HFi
    have hl := hI.fileLt h0
    obtain ⟨f, hf⟩ : ∃ f, S.files[S.fileOf n]? = some f := ⟨_, List.getElem?_eq_getElem hl⟩
    have HFL := Lib.hid (show S.faultS.files[S.fileOf n]? = some f from hf)
    have htl := hS.texts f (List.mem_of_getElem? hf)
    obtain ⟨i, hi⟩ : ∃ i, S.fileOf n = i := ⟨_, rfl⟩
    rw [hi] at HFi HFL
    have hfs := str_size f.text
    by_cases hfe : S.faultE = 0
    · have hcat := str_append f.text s
      obtain ⟨v1, v2, v3, hv0⟩ := hitV_three S
      rw [hfe, hv0] at HSt
      replace HSt := Lib.hid HSt
      have HR := Lib.hid (show S.appendE n = 0 ∧ S.appendN n s = s.length ∧ S.appendS n s = S.faultS.setF i (fun f => ⟨f.text ++ s, f.sync⟩) from by
        have hla : S.laid s = s.length := by unfold Dk.laid; rw [if_pos hfe]
        refine ⟨by unfold Dk.appendE; rw [if_neg (by omega), hfe], by unfold Dk.appendN; rw [if_neg (by omega), hla], by unfold Dk.appendS; rw [if_neg (by omega), hi, hla, List.take_length]⟩)
      clear h h0 hf hl hi hfe hv0
      go_enter Try.func16, Try.ntmps16
      go_wp2_with fail
      ((with_reducible refine HFi.out.mono ?_); rintro e w1 ⟨rfl, rfl⟩)
      go_wp2_with fail
      ((with_reducible refine HSt.out.mono ?_); rintro e w2 ⟨rfl, d2, r2⟩)
      have HD2 := Lib.hid (And.intro d2 r2)
      have c0 := fun o => ((d2.alloc o).fileAt HFL.out).1
      have c1 := fun o => ((d2.alloc o).fileAt HFL.out).2.1
      have c2 := fun o => ((d2.alloc o).fileAt HFL.out).2.2.1
      have c3 := (d2.fileAt HFL.out).2.2.2.1
      have c4 : φ i ≠ w2.heap.size := by omega
      unfold strV at c0
      clear d2 r2
      go_wp2
      go_ret2
      have P := HD2.out.1.setFile HFL.out (k := 0) (v := strV (f.text ++ s)) (fun f => ⟨f.text ++ s, f.sync⟩) rfl
      exact ⟨by rw [HR.out.1, HR.out.2.1]; rfl, by rw [HR.out.2.2]; exact Leaves.same (P.1.alloc _) ((HD2.out.2.trans P.2 (Grew.refl _ _)).alloc _)⟩
    · obtain ⟨⟨p1, p2, p3⟩, hp⟩ : ∃ p, S.hit = some p := by
        cases hh : S.hit with
        | none => exact absurd (by unfold Dk.faultE; rw [hh]) hfe
        | some p => exact ⟨p, rfl⟩
      have hp0 : 0 ≤ p3 := (hI.plan _ (List.mem_of_find?_eq_some hp)).2.2
      rw [show hitV S = .agg #[.int .i64 p1, .int .i64 p2, .int .i64 p3] by unfold hitV; rw [hp]] at HSt
      have hN : S.faultN = if p2 = 2 then p3 else 0 := by unfold Dk.faultN; rw [hp]
      obtain ⟨fe, hfe2⟩ : ∃ fe, S.faultE = fe := ⟨_, rfl⟩
      rw [hfe2] at hfe HSt
      have b1 : ((fe : Int) == 0) = false := by rw [beq_eq_false_iff_ne]; omega
      have hla0 : S.laid s = if (s.length : Int) < S.faultN then s.length else S.faultN.toNat := by unfold Dk.laid; rw [if_neg (by omega)]
      by_cases hk2 : p2 = 2
      · subst hk2
        rw [hN, if_pos rfl] at hla0
        by_cases hlt : (s.length : Int) < p3
        · rw [if_pos hlt] at hla0
          have HR := Lib.hid (show S.appendE n = fe ∧ S.appendN n s = s.length ∧ S.appendS n s = S.faultS.setF i (fun f => ⟨f.text ++ s, f.sync⟩) from ⟨by unfold Dk.appendE; rw [if_neg (by omega), hfe2], by unfold Dk.appendN; rw [if_neg (by omega), hla0], by unfold Dk.appendS; rw [if_neg (by omega), hi, hla0, List.take_length]⟩)
          have hcat := str_append f.text s
          have hmin : min p3 (s.length : Int) = (s.length : Int) := by omega
          have hcut : (str s).extract 0 s.length = str s := by rw [str_take s s.length (Nat.le_refl _), List.take_length]
          have hbig : ¬ 9223372036854775807 < f.text.length + s.length := by omega
          replace HSt := Lib.hid HSt
          clear h h0 hf hl hi hfe hfe2 hp hN hla0
          go_enter Try.func16, Try.ntmps16
          go_wp2_with fail
          ((with_reducible refine HFi.out.mono ?_); rintro e w1 ⟨rfl, rfl⟩)
          go_wp2_with fail
          ((with_reducible refine HSt.out.mono ?_); rintro e w2 ⟨rfl, d2, r2⟩)
          have HD2 := Lib.hid (And.intro d2 r2)
          have HC := Lib.hid (fun o => And.intro (d2.alloc o) ((d2.alloc o).fileAt HFL.out))
          have HWA := Lib.hid (fun o => HD2.out.2.alloc o)
          clear d2 r2
          go_wp2_with fail
          have HW := Lib.hid (And.intro (HC.out (.cells #[.int .i64 p1, .int .i64 2, .int .i64 p3] 58)) (HWA.out (.cells #[.int .i64 p1, .int .i64 2, .int .i64 p3] 58)))
          generalize w2.alloc (.cells #[.int .i64 p1, .int .i64 2, .int .i64 p3] 58) = W at HW ⊢
          obtain ⟨c0, -, c2, hil, -⟩ := HW.out.1.2
          have c3 := c2 0
          unfold strV at c0
          clear c2
          go_still_tail 10, (by kernel_rfl)
          go_wp2
          go_ret2
          have P := (HW.out.1.1.below (Below.refl _ _).drew).setFile HFL.out (k := 0) (v := strV (f.text ++ s)) (fun f => ⟨f.text ++ s, f.sync⟩) rfl
          exact ⟨by rw [HR.out.1, HR.out.2.1]; rfl, by rw [HR.out.2.2]; exact Leaves.same P.1 ((HW.out.2.trans (Wr.of_below (Below.refl _ _).drew) (Grew.refl _ _)).trans P.2 (Grew.refl _ _))⟩
        · rw [if_neg hlt] at hla0
          obtain ⟨u, rfl⟩ : ∃ u : Nat, p3 = u := ⟨p3.toNat, by omega⟩
          rw [Int.toNat_natCast] at hla0
          have hus : u ≤ s.length := by omega
          have HR := Lib.hid (show S.appendE n = fe ∧ S.appendN n s = u ∧ S.appendS n s = S.faultS.setF i (fun f => ⟨f.text ++ s.take u, f.sync⟩) from ⟨by unfold Dk.appendE; rw [if_neg (by omega), hfe2], by unfold Dk.appendN; rw [if_neg (by omega), hla0], by unfold Dk.appendS; rw [if_neg (by omega), hi, hla0]⟩)
          have hcat := str_append f.text (s.take u)
          have hcut := str_take s u hus
          have hmin : min (u : Int) (s.length : Int) = (u : Int) := by omega
          have husI : (u : Int) ≤ (s.length : Int) := by omega
          have hts : (str (s.take u)).size = u := by rw [str_size, List.length_take]; omega
          have hbig : ¬ 9223372036854775807 < f.text.length + u := by omega
          replace HSt := Lib.hid HSt
          clear h h0 hf hl hi hfe hfe2 hp hN hla0
          go_enter Try.func16, Try.ntmps16
          go_wp2_with fail
          ((with_reducible refine HFi.out.mono ?_); rintro e w1 ⟨rfl, rfl⟩)
          go_wp2_with fail
          ((with_reducible refine HSt.out.mono ?_); rintro e w2 ⟨rfl, d2, r2⟩)
          have HD2 := Lib.hid (And.intro d2 r2)
          have HC := Lib.hid (fun o => And.intro (d2.alloc o) ((d2.alloc o).fileAt HFL.out))
          have HWA := Lib.hid (fun o => HD2.out.2.alloc o)
          clear d2 r2
          go_wp2_with fail
          have HW := Lib.hid (And.intro (HC.out (.cells #[.int .i64 p1, .int .i64 2, .int .i64 u] 58)) (HWA.out (.cells #[.int .i64 p1, .int .i64 2, .int .i64 u] 58)))
          generalize w2.alloc (.cells #[.int .i64 p1, .int .i64 2, .int .i64 u] 58) = W at HW ⊢
          obtain ⟨c0, -, c2, hil, -⟩ := HW.out.1.2
          have c3 := c2 0
          unfold strV at c0
          clear c2
          go_still_tail 10, (by kernel_rfl)
          go_wp2
          go_ret2
          have P := (HW.out.1.1.below (Below.refl _ _).drew).setFile HFL.out (k := 0) (v := strV (f.text ++ s.take u)) (fun f => ⟨f.text ++ s.take u, f.sync⟩) rfl
          exact ⟨by rw [HR.out.1, HR.out.2.1]; rfl, by rw [HR.out.2.2]; exact Leaves.same P.1 ((HW.out.2.trans (Wr.of_below (Below.refl _ _).drew) (Grew.refl _ _)).trans P.2 (Grew.refl _ _))⟩
      · rw [hN, if_neg hk2] at hla0
        have hla : S.laid s = 0 := by rw [hla0, if_neg (by omega)]; rfl
        have bk : (p2 == 2) = false := by rw [beq_eq_false_iff_ne]; exact hk2
        have HR := Lib.hid (show S.appendE n = fe ∧ S.appendN n s = 0 ∧ S.appendS n s = S.faultS.setF i (fun f => ⟨f.text ++ [], f.sync⟩) from ⟨by unfold Dk.appendE; rw [if_neg (by omega), hfe2], by unfold Dk.appendN; rw [if_neg (by omega), hla], by unfold Dk.appendS; rw [if_neg (by omega), hi, hla]; rfl⟩)
        have hcat := str_append f.text []
        have hcut := str_take s 0 (Nat.zero_le _)
        have hbig : ¬ 9223372036854775807 < f.text.length := by omega
        clear hla
        replace HSt := Lib.hid HSt
        clear h h0 hf hl hi hfe hfe2 hp hN hla0
        go_enter Try.func16, Try.ntmps16
        go_wp2_with fail
        ((with_reducible refine HFi.out.mono ?_); rintro e w1 ⟨rfl, rfl⟩)
        go_wp2_with fail
        ((with_reducible refine HSt.out.mono ?_); rintro e w2 ⟨rfl, d2, r2⟩)
        have HD2 := Lib.hid (And.intro d2 r2)
        have HC := Lib.hid (fun o => And.intro (d2.alloc o) ((d2.alloc o).fileAt HFL.out))
        have HWA := Lib.hid (fun o => HD2.out.2.alloc o)
        clear d2 r2
        go_wp2_with fail
        have HW := Lib.hid (And.intro (HC.out (.cells #[.int .i64 p1, .int .i64 p2, .int .i64 p3] 58)) (HWA.out (.cells #[.int .i64 p1, .int .i64 p2, .int .i64 p3] 58)))
        generalize w2.alloc (.cells #[.int .i64 p1, .int .i64 p2, .int .i64 p3] 58) = W at HW ⊢
        obtain ⟨c0, -, c2, hil, -⟩ := HW.out.1.2
        have c3 := c2 0
        unfold strV at c0
        clear c2
        go_still_tail 10, (by kernel_rfl)
        go_wp2
        go_ret2
        have P := HW.out.1.1.setFile HFL.out (k := 0) (v := strV f.text) (fun f => ⟨f.text ++ [], f.sync⟩) (by dsimp only; rw [List.append_nil]; rfl)
        exact ⟨by rw [HR.out.1, HR.out.2.1]; rfl, by rw [HR.out.2.2]; exact Leaves.same (P.1.below (Below.refl _ _).drew) ((HW.out.2.trans P.2 (Grew.refl _ _)).trans (Wr.of_below (Below.refl _ _).drew) (Grew.refl _ _))⟩
  · skip
    rw [if_neg h0] at HFi
    obtain ⟨k, hk⟩ : ∃ k, S.askE n = k := ⟨_, rfl⟩
    rw [hk] at HFi h0
    replace HFi := Lib.hid HFi
    have b1 : ((k : Int) == 0) = false := by rw [beq_eq_false_iff_ne]; omega
    have HR := Lib.hid (show S.appendE n = k ∧ S.appendN n s = 0 ∧ S.appendS n s = S from ⟨by unfold Dk.appendE; rw [if_pos (by omega), hk], by unfold Dk.appendN; rw [if_pos (by omega)], by unfold Dk.appendS; rw [if_pos (by omega)]⟩)
    clear h h0 hk HSt
    go_enter Try.func16, Try.ntmps16
    go_wp2_with fail
    ((with_reducible refine HFi.out.mono ?_); rintro e w1 ⟨rfl, rfl⟩)
    go_wp2
    go_ret2
    exact ⟨by rw [HR.out.1, HR.out.2.1]; rfl, by rw [HR.out.2.2]; exact Leaves.same H.out (Wr.refl _ _)⟩
set_option maxRecDepth 100000 in
set_option maxHeartbeats 1600000 in
theorem truncate_any {w : World} {b j : Nat} {F : Nat → Prop} {S : Dk} (h : Dsk w b F S) (hI : S.Inv) (hS : S.Small j) (hj : j ≤ 32768) (n : Tx) (k0 : Int) (hn : n.length ≤ 140737488355328) :
    Calls Try.prog 29 #[.pointer (some ⟨b, 0, none⟩), .string (str n), .int .i64 k0] w (OpEnd b F (S.truncS n k0) (.int .i64 (S.appendE n)) w) := by
  obtain ⟨φ, h⟩ := h
  have HFi := find_any h n hn
  unfold FoundEnd at HFi
  have H := Lib.hid h
  have HSt := step_any h (by have := hS.steps; omega) hS.plan
  unfold StepEnd at HSt
  obtain ⟨v1, v2, v3, hv0⟩ := hitV_three S
  rw [hv0] at HSt
  by_cases h0 : S.askE n = 0
  · skip
    rw [if_pos h0, h0] at HFi
    replace HFi := Lib.hid HFi
    have hl := hI.fileLt h0
    obtain ⟨f, hf⟩ : ∃ f, S.files[S.fileOf n]? = some f := ⟨_, List.getElem?_eq_getElem hl⟩
    have HFL := Lib.hid (show S.faultS.files[S.fileOf n]? = some f from hf)
    have htl := hS.texts f (List.mem_of_getElem? hf)
    obtain ⟨i, hi⟩ : ∃ i, S.fileOf n = i := ⟨_, rfl⟩
    rw [hi] at HFi HFL
    have hsy := hI.sync f (List.mem_of_getElem? hf)
    have hfs := str_size f.text
    by_cases hfe : S.faultE = 0
    · rw [hfe] at HSt
      replace HSt := Lib.hid HSt
      have HR := Lib.hid (show S.appendE n = 0 ∧ S.truncS n k0 = S.faultS.setF i (fun f => ⟨f.text.take k0.toNat, min f.sync k0.toNat⟩) from ⟨by unfold Dk.appendE; rw [if_neg (by omega), hfe], by unfold Dk.truncS; rw [if_neg (by omega), if_neg (by omega), hi]⟩)
      -- how many bytes stay
      obtain ⟨m, hm⟩ : ∃ m : Nat, m = min k0.toNat f.text.length := ⟨_, rfl⟩
      have hmx : max (0 : Int) (min k0 (f.text.length : Int)) = (m : Int) := by omega
      have hml : (m : Int) ≤ (f.text.length : Int) := by omega
      have hml2 : m ≤ f.text.length := by omega
      have hcut := str_take f.text m hml2
      have HM := Lib.hid (show f.text.take k0.toNat = f.text.take m ∧ (min (f.sync : Int) (m : Int) = ((min f.sync k0.toNat : Nat) : Int)) from ⟨by
        rw [hm]
        by_cases hk : k0.toNat ≤ f.text.length
        · rw [Nat.min_eq_left hk]
        · rw [Nat.min_eq_right (by omega), List.take_length, List.take_of_length_le (by omega)], by omega⟩)
      obtain ⟨q, hq⟩ : ∃ q : Nat, q = min f.sync k0.toNat := ⟨_, rfl⟩
      have hmq : min (f.sync : Int) (m : Int) = (q : Int) := by rw [HM.out.2, hq]
      have HQ := Lib.hid hq
      clear h h0 hf hl hi hfe hv0 hm hq hsy
      go_enter Try.func29, Try.ntmps29
      go_wp2_with fail
      ((with_reducible refine HFi.out.mono ?_); rintro e w1 ⟨rfl, rfl⟩)
      go_wp2_with fail
      ((with_reducible refine HSt.out.mono ?_); rintro e w2 ⟨rfl, d2, r2⟩)
      have HD2 := Lib.hid (And.intro d2 r2)
      obtain ⟨c0, c1, c2, -, -⟩ := d2.fileAt HFL.out
      unfold strV at c0
      clear d2 r2
      go_wp2
      go_ret
      have P := HD2.out.1.setFile2 HFL.out (v0 := .string (str (f.text.take m))) (v1 := .int .i64 q) (fun f => ⟨f.text.take k0.toNat, min f.sync k0.toNat⟩) (by dsimp only; rw [HM.out.1]; rfl) (by dsimp only; rw [HQ.out])
      exact ⟨by rw [HR.out.1]; rfl, by rw [HR.out.2]; exact Leaves.same P.1 (HD2.out.2.trans P.2 (Grew.refl _ _))⟩
    · obtain ⟨fe, hfe2⟩ : ∃ fe, S.faultE = fe := ⟨_, rfl⟩
      rw [hfe2] at hfe HSt
      replace HSt := Lib.hid HSt
      have HR := Lib.hid (show S.appendE n = fe ∧ S.truncS n k0 = S.faultS from ⟨by unfold Dk.appendE; rw [if_neg (by omega), hfe2], by unfold Dk.truncS; rw [if_neg (by omega), if_pos (by omega)]⟩)
      have b1 : ((fe : Int) == 0) = false := by rw [beq_eq_false_iff_ne]; omega
      clear h h0 hf hl hi hfe hfe2 hv0
      go_enter Try.func29, Try.ntmps29
      go_wp2_with fail
      ((with_reducible refine HFi.out.mono ?_); rintro e w1 ⟨rfl, rfl⟩)
      go_wp2_with fail
      ((with_reducible refine HSt.out.mono ?_); rintro e w2 ⟨rfl, d2, r2⟩)
      have HD2 := Lib.hid (And.intro d2 r2)
      clear d2 r2
      go_wp2
      go_ret
      exact ⟨by rw [HR.out.1]; rfl, by rw [HR.out.2]; exact Leaves.same HD2.out.1 HD2.out.2⟩
  · skip
    rw [if_neg h0] at HFi
    obtain ⟨k, hk⟩ : ∃ k, S.askE n = k := ⟨_, rfl⟩
    rw [hk] at HFi h0
    replace HFi := Lib.hid HFi
    have b1 : ((k : Int) == 0) = false := by rw [beq_eq_false_iff_ne]; omega
    have HR := Lib.hid (show S.appendE n = k ∧ S.truncS n k0 = S from ⟨by unfold Dk.appendE; rw [if_pos (by omega), hk], by unfold Dk.truncS; rw [if_pos (by omega)]⟩)
    clear h h0 hk HSt hv0
    go_enter Try.func29, Try.ntmps29
    go_wp2_with fail
    ((with_reducible refine HFi.out.mono ?_); rintro e w1 ⟨rfl, rfl⟩)
    go_wp2
    go_ret
    exact ⟨by rw [HR.out.1]; rfl, by rw [HR.out.2]; exact Leaves.same H.out (Wr.refl _ _)⟩
end Go.Proofs.Ytbjlffhnkcbnmaa
