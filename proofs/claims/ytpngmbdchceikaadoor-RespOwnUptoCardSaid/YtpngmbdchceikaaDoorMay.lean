/- The walk of may, the program's. -/
import Derived.Test.YtpngmbdchceikaaDoorRepl
namespace Go.Proofs.YtpngmbdchceikaaDoor
open Go.ChangeShapes Go.WideShapes Go.ChangeAt Go.RowKit
open Pl (R)
set_option linter.unusedVariables false

theorem may_1 (d : Nat) (t : List UInt8) (n : Int) (l : List R) : Pl.mayL d (.mk 1 t n l) = (Pl.noEnd t && n == 0 && l.isEmpty) := by cases d <;> simp [Pl.mayL, Pl.flatOk, R.k, R.t, R.n, R.l]
theorem may_2 (d : Nat) (t : List UInt8) (n : Int) (l : List R) : Pl.mayL d (.mk 2 t n l) = (Pl.noEnd t && n == 0 && l.isEmpty) := by cases d <;> simp [Pl.mayL, Pl.flatOk, R.k, R.t, R.n, R.l]
theorem may_3 (d : Nat) (t : List UInt8) (n : Int) (l : List R) : Pl.mayL d (.mk 3 t n l) = (t.isEmpty && l.isEmpty) := by cases d <;> simp [Pl.mayL, Pl.flatOk, R.k, R.t, R.n, R.l]
theorem may_4 (d : Nat) (t : List UInt8) (n : Int) (l : List R) : Pl.mayL d (.mk 4 t n l) = (n == 0 && l.isEmpty) := by cases d <;> simp [Pl.mayL, Pl.flatOk, R.k, R.t, R.n, R.l]
theorem may_5 (d : Nat) (t : List UInt8) (n : Int) (l : List R) : Pl.mayL d (.mk 5 t n l) = (t.isEmpty && n == 0 && l.isEmpty) := by cases d <;> simp [Pl.mayL, Pl.flatOk, R.k, R.t, R.n, R.l]
theorem may_7 (d : Nat) (t : List UInt8) (n : Int) (l : List R) : Pl.mayL d (.mk 7 t n l) = (decide (0 < d) && t.isEmpty && n == 0 && l.isEmpty) := by cases d <;> simp [Pl.mayL, Pl.flatOk, R.k, R.t, R.n, R.l]
theorem may_60 (t : List UInt8) (n : Int) (l : List R) : Pl.mayL 0 (.mk 6 t n l) = false := by simp [Pl.mayL, Pl.flatOk, R.k, R.t, R.n, R.l]
theorem may_6s (d : Nat) (t : List UInt8) (n : Int) (l : List R) : Pl.mayL (d + 1) (.mk 6 t n l) = (t.isEmpty && n == 0 && l.all (Pl.mayL d)) := by simp [Pl.mayL, Pl.flatOk, R.k, R.t, R.n, R.l]
theorem may_no {k : Int} (d : Nat) (t : List UInt8) (n : Int) (l : List R) (h1 : (k == 1) = false) (h2 : (k == 2) = false) (h3 : (k == 3) = false) (h4 : (k == 4) = false) (h5 : (k == 5) = false) (h6 : (k == 6) = false) (h7 : (k == 7) = false) : Pl.mayL d (.mk k t n l) = false := by
  cases d <;> simp [Pl.mayL, Pl.flatOk, R.k, R.t, R.n, R.l, h1, h2, h3, h4, h5, h6, h7]
theorem str_empty (t : List UInt8) : (str t).toList.isEmpty = t.isEmpty := by rw [ByteArray.toList_eq]; rfl
theorem len_empty (l : List R) : ((l.length : Int) == 0) = l.isEmpty := by
  cases l with
  | nil => rfl
  | cons a l => simp; omega
/-- What may gives. -/
def MayEnd (d : Nat) (r : R) (w : World) (e : Ending) (w' : World) : Prop := e = .returned (.bool (Pl.mayL d r)) ∧ Below w.heap.size w w'

set_option maxRecDepth 100000 in
set_option maxHeartbeats 1600000 in
theorem mayP_1 (d : Nat) (hd : d ≤ 8) (t : List UInt8) (ht : t.length ≤ 1073741824) (n : Int) (l : List R) (ao : Option Addr) (cp : Nat) (hl : l.length ≤ 1073741824) (w : World) : Calls Tryd.prog 34 #[.agg #[.int .i64 1, .string (str t), .int .i64 n, .slice ao l.length cp], .int .i64 d] w (MayEnd d (.mk 1 t n l) w) := by
  unfold MayEnd
  rw [may_1]
  have hp := fun W => plain_any t ht W
  generalize Pl.noEnd t = bp at *
  have HP := Lib.hid hp
  clear hp
  obtain ⟨bn, h2⟩ : ∃ b, (n == 0) = b := ⟨_, rfl⟩
  rw [h2]
  have h1 := len_empty l
  generalize l.isEmpty = bl at *
  rcases bp <;> rcases bn <;> rcases bl
  all_goals
    go_enter Tryd.func34, Tryd.ntmps34
    go_wp2_with fail
    ((with_reducible refine (HP.out _).mono ?_); rintro e w4 ⟨rfl, b4⟩)
    obtain ⟨q0, q1, q2, q3⟩ := box4_cells b4
    go_wp2
    go_ret
    exact ⟨rfl, box4_below b4⟩
set_option maxRecDepth 100000 in
set_option maxHeartbeats 1600000 in
theorem mayP_2 (d : Nat) (hd : d ≤ 8) (t : List UInt8) (ht : t.length ≤ 1073741824) (n : Int) (l : List R) (ao : Option Addr) (cp : Nat) (hl : l.length ≤ 1073741824) (w : World) : Calls Tryd.prog 34 #[.agg #[.int .i64 2, .string (str t), .int .i64 n, .slice ao l.length cp], .int .i64 d] w (MayEnd d (.mk 2 t n l) w) := by
  unfold MayEnd
  rw [may_2]
  have hp := fun W => plain_any t ht W
  generalize Pl.noEnd t = bp at *
  have HP := Lib.hid hp
  clear hp
  obtain ⟨bn, h2⟩ : ∃ b, (n == 0) = b := ⟨_, rfl⟩
  rw [h2]
  have h1 := len_empty l
  generalize l.isEmpty = bl at *
  rcases bp <;> rcases bn <;> rcases bl
  all_goals
    go_enter Tryd.func34, Tryd.ntmps34
    go_wp2_with fail
    ((with_reducible refine (HP.out _).mono ?_); rintro e w4 ⟨rfl, b4⟩)
    obtain ⟨q0, q1, q2, q3⟩ := box4_cells b4
    go_wp2
    go_ret
    exact ⟨rfl, box4_below b4⟩
set_option maxRecDepth 100000 in
set_option maxHeartbeats 1600000 in
theorem mayP_3 (d : Nat) (hd : d ≤ 8) (t : List UInt8) (ht : t.length ≤ 1073741824) (n : Int) (l : List R) (ao : Option Addr) (cp : Nat) (hl : l.length ≤ 1073741824) (w : World) : Calls Tryd.prog 34 #[.agg #[.int .i64 3, .string (str t), .int .i64 n, .slice ao l.length cp], .int .i64 d] w (MayEnd d (.mk 3 t n l) w) := by
  unfold MayEnd
  rw [may_3]
  have h3 := str_empty t
  generalize t.isEmpty = bt at *
  have h1 := len_empty l
  generalize l.isEmpty = bl at *
  rcases bt <;> rcases bl
  all_goals
    go_enter Tryd.func34, Tryd.ntmps34
    go_wp2
    go_ret
    exact ⟨rfl, (Below.refl _ _).alloc (Nat.le_refl _) _⟩
set_option maxRecDepth 100000 in
set_option maxHeartbeats 1600000 in
theorem mayP_4 (d : Nat) (hd : d ≤ 8) (t : List UInt8) (ht : t.length ≤ 1073741824) (n : Int) (l : List R) (ao : Option Addr) (cp : Nat) (hl : l.length ≤ 1073741824) (w : World) : Calls Tryd.prog 34 #[.agg #[.int .i64 4, .string (str t), .int .i64 n, .slice ao l.length cp], .int .i64 d] w (MayEnd d (.mk 4 t n l) w) := by
  unfold MayEnd
  rw [may_4]
  obtain ⟨bn, h2⟩ : ∃ b, (n == 0) = b := ⟨_, rfl⟩
  rw [h2]
  have h1 := len_empty l
  generalize l.isEmpty = bl at *
  rcases bn <;> rcases bl
  all_goals
    go_enter Tryd.func34, Tryd.ntmps34
    go_wp2
    go_ret
    exact ⟨rfl, (Below.refl _ _).alloc (Nat.le_refl _) _⟩
set_option maxRecDepth 100000 in
set_option maxHeartbeats 1600000 in
theorem mayP_5 (d : Nat) (hd : d ≤ 8) (t : List UInt8) (ht : t.length ≤ 1073741824) (n : Int) (l : List R) (ao : Option Addr) (cp : Nat) (hl : l.length ≤ 1073741824) (w : World) : Calls Tryd.prog 34 #[.agg #[.int .i64 5, .string (str t), .int .i64 n, .slice ao l.length cp], .int .i64 d] w (MayEnd d (.mk 5 t n l) w) := by
  unfold MayEnd
  rw [may_5]
  have h3 := str_empty t
  generalize t.isEmpty = bt at *
  obtain ⟨bn, h2⟩ : ∃ b, (n == 0) = b := ⟨_, rfl⟩
  rw [h2]
  have h1 := len_empty l
  generalize l.isEmpty = bl at *
  rcases bt <;> rcases bn <;> rcases bl
  all_goals
    go_enter Tryd.func34, Tryd.ntmps34
    go_wp2
    go_ret
    exact ⟨rfl, (Below.refl _ _).alloc (Nat.le_refl _) _⟩
set_option maxRecDepth 100000 in
set_option maxHeartbeats 1600000 in
theorem mayP_7 (d : Nat) (hd : d ≤ 8) (t : List UInt8) (ht : t.length ≤ 1073741824) (n : Int) (l : List R) (ao : Option Addr) (cp : Nat) (hl : l.length ≤ 1073741824) (w : World) : Calls Tryd.prog 34 #[.agg #[.int .i64 7, .string (str t), .int .i64 n, .slice ao l.length cp], .int .i64 d] w (MayEnd d (.mk 7 t n l) w) := by
  unfold MayEnd
  rw [may_7]
  obtain ⟨bd, h0⟩ : ∃ b, decide (0 < d) = b := ⟨_, rfl⟩
  rw [h0]
  have h3 := str_empty t
  generalize t.isEmpty = bt at *
  obtain ⟨bn, h2⟩ : ∃ b, (n == 0) = b := ⟨_, rfl⟩
  rw [h2]
  have h1 := len_empty l
  generalize l.isEmpty = bl at *
  rcases bd <;> rcases bt <;> rcases bn <;> rcases bl
  all_goals
    first | (have h0' := of_decide_eq_true h0) | (have h0' := of_decide_eq_false h0)
    clear h0
    go_enter Tryd.func34, Tryd.ntmps34
    go_wp2
    go_ret
    exact ⟨rfl, (Below.refl _ _).alloc (Nat.le_refl _) _⟩
set_option maxRecDepth 100000 in
theorem mayP_no (k : Int) (d : Nat) (hd : d ≤ 8) (t : List UInt8) (ht : t.length ≤ 1073741824) (n : Int) (l : List R) (ao : Option Addr) (cp : Nat) (hl : l.length ≤ 1073741824) (w : World) (h1 : (k == 1) = false) (h2 : (k == 2) = false) (h3 : (k == 3) = false) (h4 : (k == 4) = false) (h5 : (k == 5) = false) (h6 : (k == 6) = false) (h7 : (k == 7) = false) : Calls Tryd.prog 34 #[.agg #[.int .i64 k, .string (str t), .int .i64 n, .slice ao l.length cp], .int .i64 d] w (MayEnd d (.mk k t n l) w) := by
  unfold MayEnd
  rw [may_no d t n l h1 h2 h3 h4 h5 h6 h7]
  go_enter Tryd.func34, Tryd.ntmps34
  go_wp2
  go_ret
  exact ⟨rfl, (Below.refl _ _).alloc (Nat.le_refl _) _⟩
set_option maxRecDepth 100000 in
theorem mayP_60 (t : List UInt8) (n : Int) (l : List R) (ao : Option Addr) (cp : Nat) (w : World) : Calls Tryd.prog 34 #[.agg #[.int .i64 6, .string (str t), .int .i64 n, .slice ao l.length cp], .int .i64 0] w (MayEnd 0 (.mk 6 t n l) w) := by
  unfold MayEnd
  rw [may_60]
  go_enter Tryd.func34, Tryd.ntmps34
  go_wp2
  go_ret
  exact ⟨rfl, (Below.refl _ _).alloc (Nat.le_refl _) _⟩
set_option maxRecDepth 100000 in
set_option maxHeartbeats 1600000 in
theorem mayP_6not (d : Nat) (hd : d < 8) (t : List UInt8) (n : Int) (l : List R) (ao : Option Addr) (cp : Nat) (w : World) (h : (t.isEmpty && n == 0) = false) : Calls Tryd.prog 34 #[.agg #[.int .i64 6, .string (str t), .int .i64 n, .slice ao l.length cp], .int .i64 ((d : Int) + 1)] w (MayEnd (d + 1) (.mk 6 t n l) w) := by
  unfold MayEnd
  rw [may_6s, h, Bool.false_and]
  have h3 := str_empty t
  generalize t.isEmpty = bt at *
  obtain ⟨bn, h2⟩ : ∃ b, (n == 0) = b := ⟨_, rfl⟩
  have h4 : (n != 0) = !bn := by rw [← h2]; rfl
  rw [h2] at h
  have h5 : ((d : Int) + 1 == 0) = false := by rw [beq_eq_false_iff_ne]; omega
  rcases bt <;> rcases bn
  all_goals first
    | (simp at h; done)
    | (clear h
       go_enter Tryd.func34, Tryd.ntmps34
       go_wp2
       go_ret
       exact ⟨rfl, (Below.refl _ _).alloc (Nat.le_refl _) _⟩)
theorem all_take {p : R → Bool} {l : List R} {j : Nat} {x : R} (hx : l[j]? = some x) : (l.take (j + 1)).all p = ((l.take j).all p && p x) := by
  obtain ⟨h1, h2⟩ := List.getElem?_eq_some_iff.1 hx
  rw [List.take_succ_eq_append_getElem h1, h2]; simp
theorem all_false {p : R → Bool} {l : List R} {j : Nat} {x : R} (hx : l[j]? = some x) (h : p x = false) : l.all p = false := by
  rw [List.all_eq_false]
  exact ⟨x, List.mem_of_getElem? hx, by rw [h]; simp⟩
set_option maxRecDepth 100000 in
set_option maxHeartbeats 1600000 in
theorem mayP_6 (d : Nat) (hd : d < 8) (ih : ∀ (r : R) (lv : Value) (F : Nat → Prop) (w : World), OkR r → LIs F w lv r.l → Calls Tryd.prog 34 #[rv r lv, .int .i64 d] w (MayEnd d r w))
    (l : List R) (lv : Value) (F : Nat → Prop) (hl : l.length ≤ 1073741824) (w : World) (hL : LIs F w lv l) : Calls Tryd.prog 34 #[.agg #[.int .i64 6, .string (str []), .int .i64 0, lv], .int .i64 ((d : Int) + 1)] w (MayEnd (d + 1) (.mk 6 [] 0 l) w) := by
  unfold MayEnd
  rw [may_6s]
  obtain ⟨ao, cp, rfl⟩ := hL.shape
  have HL := Lib.hid hL
  have IH := Lib.hid ih
  have h3 := str_empty []
  have h5 : ((d : Int) + 1 == 0) = false := by rw [beq_eq_false_iff_ne]; omega
  clear hL ih
  go_enter Tryd.func34, Tryd.ntmps34
  go_wp2_with fail
  go_loopw [101] (fun i wr => ∃ j : Nat, j ≤ l.length ∧ i = .int .i64 j ∧ Hid ((l.take j).all (Pl.mayL d) = true) ∧ Below w.heap.size w wr) (fun i _ => l.length - (intOf i).toNat)
  case atStart => exact ⟨0, Nat.zero_le _, rfl, (show _ = _ by simp), (Below.refl _ _).alloc (Nat.le_refl _) _⟩
  case round =>
    obtain ⟨j, hj, rfl, hall, hb⟩ := hrel
    by_cases hlt : j < l.length
    · have hLr := HL.out.later hb
      obtain ⟨g, off, r, lv, rfl, hg, hr, hok, k0, k1, k2, k3, hLe⟩ := hLr.at hlt
      clear hLr
      obtain ⟨aj, cj, rfl⟩ := hLe.shape
      have HR := Lib.hid hr
      have HE := Lib.hid hLe
      clear hr hLe
      have hBB : ∀ W, Below (wr.alloc (.cells #[.int .i64 r.k, .string (str r.t), .int .i64 r.n, .slice aj r.l.length cj] 24)).heap.size (wr.alloc (.cells #[.int .i64 r.k, .string (str r.t), .int .i64 r.n, .slice aj r.l.length cj] 24)) W → Below w.heap.size w W := fun W h => hb.trans ((box4_below h).mono hb.size)
      have HBB := Lib.hid hBB
      clear hBB
      rcases hm : Pl.mayL d r with _ | _
      · have hall2 := Lib.hid (all_false HR.out hm)
        have HM := Lib.hid hm
        clear hm
        go_wp2_with fail
        ((with_reducible refine (IH.out r _ F _ hok (HE.out.later ((Below.refl _ _).alloc (Nat.le_refl _) _))).mono ?_); rintro e w5 ⟨rfl, b5⟩)
        rw [HM.out]
        go_wp2
        go_ret
        exact ⟨by rw [hall2.out]; rfl, HBB.out _ b5⟩
      · have hall2 : Hid ((l.take (j + 1)).all (Pl.mayL d) = true) := (by show _ = _; rw [all_take HR.out, hall.out, hm]; rfl)
        have HM := Lib.hid hm
        clear hm
        go_wp2_with fail
        ((with_reducible refine (IH.out r _ F _ hok (HE.out.later ((Below.refl _ _).alloc (Nat.le_refl _) _))).mono ?_); rintro e w5 ⟨rfl, b5⟩)
        rw [HM.out]
        go_wp2
        go_roundw
        case rel => exact ⟨j + 1, by omega, by go_num, hall2, HBB.out _ b5⟩
        case measure => simp [intOf]; omega
    · obtain rfl : j = l.length := by omega
      have hall2 := hall.out
      rw [List.take_length] at hall2
      have HA := Lib.hid hall2
      clear hall2
      go_wp2
      go_ret
      exact ⟨by rw [HA.out]; rfl, hb⟩
theorem mayP_any : ∀ (d : Nat), d ≤ 8 → ∀ (r : R) (lv : Value) (F : Nat → Prop) (w : World), OkR r → LIs F w lv r.l → Calls Tryd.prog 34 #[rv r lv, .int .i64 d] w (MayEnd d r w)
  | d, hd, .mk k t n l, lv, F, w, hok, hL => by
    obtain ⟨ao, cp, rfl⟩ := hL.shape
    obtain ⟨_, _, ht, hl⟩ := hok
    simp only [R.t, R.l] at ht hl
    show Calls Tryd.prog 34 #[.agg #[.int .i64 k, .string (str t), .int .i64 n, .slice ao l.length cp], .int .i64 d] w (MayEnd d (.mk k t n l) w)
    by_cases h1 : k = 1
    · subst h1; exact mayP_1 d hd t ht n l ao cp hl w
    by_cases h2 : k = 2
    · subst h2; exact mayP_2 d hd t ht n l ao cp hl w
    by_cases h3 : k = 3
    · subst h3; exact mayP_3 d hd t ht n l ao cp hl w
    by_cases h4 : k = 4
    · subst h4; exact mayP_4 d hd t ht n l ao cp hl w
    by_cases h5 : k = 5
    · subst h5; exact mayP_5 d hd t ht n l ao cp hl w
    by_cases h7 : k = 7
    · subst h7; exact mayP_7 d hd t ht n l ao cp hl w
    by_cases h6 : k = 6
    · subst h6
      cases d with
      | zero => exact mayP_60 t n l ao cp w
      | succ d =>
        by_cases hc : (t.isEmpty && n == 0) = true
        · simp only [Bool.and_eq_true, List.isEmpty_iff, beq_iff_eq] at hc
          obtain ⟨rfl, rfl⟩ := hc
          exact mayP_6 d (by omega) (mayP_any d (by omega)) l _ F hl w hL
        · exact mayP_6not d (by omega) t n l ao cp w (by simpa using hc)
    · exact mayP_no k d hd t ht n l ao cp hl w (by simpa using h1) (by simpa using h2) (by simpa using h3) (by simpa using h4) (by simpa using h5) (by simpa using h6) (by simpa using h7)
end Go.Proofs.YtpngmbdchceikaaDoor
