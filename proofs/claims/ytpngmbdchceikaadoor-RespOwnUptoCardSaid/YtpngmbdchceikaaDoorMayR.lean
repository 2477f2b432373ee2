/- The walk of may, the reference's. -/
import Derived.Test.YtpngmbdchceikaaDoorMay
namespace Go.Proofs.YtpngmbdchceikaaDoor
open Go.ChangeShapes Go.WideShapes Go.ChangeAt Go.RowKit
open Pl (R)
set_option linter.unusedVariables false

theorem take_full (T : ByteArray) : T.data.toList.take T.size = T.data.toList := List.take_of_length_le (by simp)
theorem noEnd_false {l : List UInt8} {j : Nat} {c : UInt8} (hx : l[j]? = some c) (h : c = 13 ∨ c = 10) : Pl.noEnd l = false := by
  unfold Pl.noEnd
  rw [List.all_eq_false]
  exact ⟨c, List.mem_of_getElem? hx, by rcases h with rfl | rfl <;> decide⟩
theorem noEnd_more {l : List UInt8} {j : Nat} {c : UInt8} (hx : l[j]? = some c) (h : Pl.noEnd (l.take j) = true) (h1 : c ≠ 13) (h2 : c ≠ 10) : Pl.noEnd (l.take (j + 1)) = true := by
  obtain ⟨q1, q2⟩ := List.getElem?_eq_some_iff.1 hx
  unfold Pl.noEnd at h ⊢
  rw [List.take_succ_eq_append_getElem q1, q2, List.all_append, h]
  simp [h1, h2]
set_option maxRecDepth 100000 in
set_option maxHeartbeats 3200000 in
theorem mayR_3 (d : Nat) (hd : d ≤ 8) (t : List UInt8) (ht : t.length ≤ 1073741824) (n : Int) (l : List R) (ao : Option Addr) (cp : Nat) (hl : l.length ≤ 1073741824) (w : World) : Calls Tryd.prog 35 #[.agg #[.int .i64 3, .string (str t), .int .i64 n, .slice ao l.length cp], .int .i64 d] w (MayEnd d (.mk 3 t n l) w) := by
  unfold MayEnd
  rw [may_3]
  have h3 := str_empty t
  generalize t.isEmpty = bt at *
  obtain ⟨bn, h2⟩ : ∃ b, (n == 0) = b := ⟨_, rfl⟩
  have h2' : (n != 0) = !bn := by rw [← h2]; rfl
  try rw [h2]
  have h1 := len_empty l
  generalize l.isEmpty = bl at *
  rcases bt <;> rcases bn <;> rcases bl
  all_goals
    first | (have h1' : l.length = 0 := by simpa using h1) | (have h1' : 0 < l.length := by have : ¬ l.length = 0 := (by simpa using h1); omega)
    clear h1
    go_enter Tryd.func35, Tryd.ntmps35
    go_wp2
    first
      | (go_ret
         exact ⟨rfl, (Below.refl _ _).alloc (Nat.le_refl _) _⟩)
      | (go_loopw [6] (fun i wr => i = .int .i64 0 ∧ Below (w.alloc (.cells #[.int .i64 3, .string (str t), .int .i64 n, .slice ao 0 cp] 24)).heap.size (w.alloc (.cells #[.int .i64 3, .string (str t), .int .i64 n, .slice ao 0 cp] 24)) wr) (fun i _ => 1)
         case atStart => exact ⟨rfl, Below.refl _ _⟩
         case round =>
           obtain ⟨rfl, hb⟩ := hrel
           obtain ⟨q0, q1, q2, q3⟩ := box4_cells hb
           go_wp2
           go_ret
           exact ⟨rfl, box4_below hb⟩)
set_option maxRecDepth 100000 in
set_option maxHeartbeats 3200000 in
theorem mayR_4 (d : Nat) (hd : d ≤ 8) (t : List UInt8) (ht : t.length ≤ 1073741824) (n : Int) (l : List R) (ao : Option Addr) (cp : Nat) (hl : l.length ≤ 1073741824) (w : World) : Calls Tryd.prog 35 #[.agg #[.int .i64 4, .string (str t), .int .i64 n, .slice ao l.length cp], .int .i64 d] w (MayEnd d (.mk 4 t n l) w) := by
  unfold MayEnd
  rw [may_4]
  have h3 := str_empty t
  generalize t.isEmpty = bt at *
  obtain ⟨bn, h2⟩ : ∃ b, (n == 0) = b := ⟨_, rfl⟩
  have h2' : (n != 0) = !bn := by rw [← h2]; rfl
  try rw [h2]
  have h1 := len_empty l
  generalize l.isEmpty = bl at *
  rcases bt <;> rcases bn <;> rcases bl
  all_goals
    first | (have h1' : l.length = 0 := by simpa using h1) | (have h1' : 0 < l.length := by have : ¬ l.length = 0 := (by simpa using h1); omega)
    clear h1
    go_enter Tryd.func35, Tryd.ntmps35
    go_wp2
    first
      | (go_ret
         exact ⟨rfl, (Below.refl _ _).alloc (Nat.le_refl _) _⟩)
      | (go_loopw [6] (fun i wr => i = .int .i64 0 ∧ Below (w.alloc (.cells #[.int .i64 4, .string (str t), .int .i64 n, .slice ao 0 cp] 24)).heap.size (w.alloc (.cells #[.int .i64 4, .string (str t), .int .i64 n, .slice ao 0 cp] 24)) wr) (fun i _ => 1)
         case atStart => exact ⟨rfl, Below.refl _ _⟩
         case round =>
           obtain ⟨rfl, hb⟩ := hrel
           obtain ⟨q0, q1, q2, q3⟩ := box4_cells hb
           go_wp2
           go_ret
           exact ⟨rfl, box4_below hb⟩)
set_option maxRecDepth 100000 in
set_option maxHeartbeats 3200000 in
theorem mayR_5 (d : Nat) (hd : d ≤ 8) (t : List UInt8) (ht : t.length ≤ 1073741824) (n : Int) (l : List R) (ao : Option Addr) (cp : Nat) (hl : l.length ≤ 1073741824) (w : World) : Calls Tryd.prog 35 #[.agg #[.int .i64 5, .string (str t), .int .i64 n, .slice ao l.length cp], .int .i64 d] w (MayEnd d (.mk 5 t n l) w) := by
  unfold MayEnd
  rw [may_5]
  have h3 := str_empty t
  generalize t.isEmpty = bt at *
  obtain ⟨bn, h2⟩ : ∃ b, (n == 0) = b := ⟨_, rfl⟩
  have h2' : (n != 0) = !bn := by rw [← h2]; rfl
  try rw [h2]
  have h1 := len_empty l
  generalize l.isEmpty = bl at *
  rcases bt <;> rcases bn <;> rcases bl
  all_goals
    first | (have h1' : l.length = 0 := by simpa using h1) | (have h1' : 0 < l.length := by have : ¬ l.length = 0 := (by simpa using h1); omega)
    clear h1
    go_enter Tryd.func35, Tryd.ntmps35
    go_wp2
    first
      | (go_ret
         exact ⟨rfl, (Below.refl _ _).alloc (Nat.le_refl _) _⟩)
      | (go_loopw [6] (fun i wr => i = .int .i64 0 ∧ Below (w.alloc (.cells #[.int .i64 5, .string (str t), .int .i64 n, .slice ao 0 cp] 24)).heap.size (w.alloc (.cells #[.int .i64 5, .string (str t), .int .i64 n, .slice ao 0 cp] 24)) wr) (fun i _ => 1)
         case atStart => exact ⟨rfl, Below.refl _ _⟩
         case round =>
           obtain ⟨rfl, hb⟩ := hrel
           obtain ⟨q0, q1, q2, q3⟩ := box4_cells hb
           go_wp2
           go_ret
           exact ⟨rfl, box4_below hb⟩)
set_option maxRecDepth 100000 in
set_option maxHeartbeats 3200000 in
theorem mayR_7 (d : Nat) (hd : d ≤ 8) (t : List UInt8) (ht : t.length ≤ 1073741824) (n : Int) (l : List R) (ao : Option Addr) (cp : Nat) (hl : l.length ≤ 1073741824) (w : World) : Calls Tryd.prog 35 #[.agg #[.int .i64 7, .string (str t), .int .i64 n, .slice ao l.length cp], .int .i64 d] w (MayEnd d (.mk 7 t n l) w) := by
  unfold MayEnd
  rw [may_7]
  have h3 := str_empty t
  generalize t.isEmpty = bt at *
  obtain ⟨bn, h2⟩ : ∃ b, (n == 0) = b := ⟨_, rfl⟩
  have h2' : (n != 0) = !bn := by rw [← h2]; rfl
  try rw [h2]
  have h1 := len_empty l
  generalize l.isEmpty = bl at *
  obtain ⟨bd, h0⟩ : ∃ b, decide (0 < d) = b := ⟨_, rfl⟩
  rw [h0]
  rcases bd <;> rcases bt <;> rcases bn <;> rcases bl
  all_goals
    first | (have h1' : l.length = 0 := by simpa using h1) | (have h1' : 0 < l.length := by have : ¬ l.length = 0 := (by simpa using h1); omega)
    clear h1
    first | (have h0' := of_decide_eq_true h0) | (have h0' := of_decide_eq_false h0)
    clear h0
    go_enter Tryd.func35, Tryd.ntmps35
    go_wp2
    first
      | (go_ret
         exact ⟨rfl, (Below.refl _ _).alloc (Nat.le_refl _) _⟩)
      | (go_loopw [6] (fun i wr => i = .int .i64 0 ∧ Below (w.alloc (.cells #[.int .i64 7, .string (str t), .int .i64 n, .slice ao 0 cp] 24)).heap.size (w.alloc (.cells #[.int .i64 7, .string (str t), .int .i64 n, .slice ao 0 cp] 24)) wr) (fun i _ => 1)
         case atStart => exact ⟨rfl, Below.refl _ _⟩
         case round =>
           obtain ⟨rfl, hb⟩ := hrel
           obtain ⟨q0, q1, q2, q3⟩ := box4_cells hb
           go_wp2
           go_ret
           exact ⟨rfl, box4_below hb⟩)
set_option maxRecDepth 100000 in
set_option maxHeartbeats 3200000 in
theorem mayR_1a (d : Nat) (hd : d ≤ 8) (t : List UInt8) (ht : t.length ≤ 1073741824) (n : Int) (l : List R) (ao : Option Addr) (cp : Nat) (hl : l.length ≤ 1073741824) (w : World) (hb : (n == 0 && l.isEmpty) = false) : Calls Tryd.prog 35 #[.agg #[.int .i64 1, .string (str t), .int .i64 n, .slice ao l.length cp], .int .i64 d] w (MayEnd d (.mk 1 t n l) w) := by
  unfold MayEnd
  rw [may_1, Bool.and_assoc, hb, Bool.and_false]
  have h3 := str_empty t
  generalize t.isEmpty = bt at *
  obtain ⟨bn, h2⟩ : ∃ b, (n == 0) = b := ⟨_, rfl⟩
  have h2' : (n != 0) = !bn := by rw [← h2]; rfl
  rw [h2] at hb
  have h1 := len_empty l
  generalize l.isEmpty = bl at *
  rcases bt <;> rcases bn <;> rcases bl
  all_goals first
    | (simp at hb; done)
    | skip
  all_goals
    clear hb
    first | (have h1' : l.length = 0 := by simpa using h1) | (have h1' : 0 < l.length := by have : ¬ l.length = 0 := (by simpa using h1); omega)
    clear h1
    go_enter Tryd.func35, Tryd.ntmps35
    go_wp2
    go_ret
    exact ⟨rfl, (Below.refl _ _).alloc (Nat.le_refl _) _⟩
set_option maxRecDepth 100000 in
set_option maxHeartbeats 3200000 in
theorem mayR_1b (d : Nat) (hd : d ≤ 8) (T : ByteArray) (hT : T.size ≤ 1073741824) (ao : Option Addr) (cp : Nat) (w : World) : Calls Tryd.prog 35 #[.agg #[.int .i64 1, .string T, .int .i64 0, .slice ao 0 cp], .int .i64 d] w (MayEnd d (.mk 1 T.data.toList 0 []) w) := by
  unfold MayEnd
  rw [may_1]
  have HG := Lib.hid (rfl : Pl.noEnd T.data.toList = Pl.noEnd T.data.toList)
  obtain ⟨bt, h3⟩ : ∃ b, T.toList.isEmpty = b := ⟨_, rfl⟩
  rcases bt
  all_goals
    go_enter Tryd.func35, Tryd.ntmps35
    go_wp2
    go_loopw [5] (fun i wr => ∃ j : Nat, j ≤ T.size ∧ i = .int .i64 j ∧ Hid (Pl.noEnd (T.data.toList.take j) = true) ∧ Below (w.alloc (.cells #[.int .i64 1, .string T, .int .i64 0, .slice ao 0 cp] 24)).heap.size (w.alloc (.cells #[.int .i64 1, .string T, .int .i64 0, .slice ao 0 cp] 24)) wr) (fun i _ => T.size - (intOf i).toNat)
    case atStart => exact ⟨0, Nat.zero_le _, rfl, (show _ = _ from rfl), Below.refl _ _⟩
    case round =>
      obtain ⟨j, hj, rfl, hall, hb⟩ := hrel
      obtain ⟨q0, q1, q2, q3⟩ := box4_cells hb
      by_cases hlt : j < T.size
      · have hx : T.data.toList[j]? = some (T[j]'hlt) := by rw [List.getElem?_eq_getElem (by simpa using hlt)]; rfl
        have HX := Lib.hid hx
        clear hx
        by_cases h1 : T[j].toNat = 13
        · have hno := Lib.hid (noEnd_false HX.out (.inl (UInt8.toNat_inj.1 h1)))
          have h1I : ((T[j].toNat : Nat) : Int) = 13 := by omega
          clear h1
          go_wp2
          go_ret
          exact ⟨by rw [hno.out]; rfl, box4_below hb⟩
        by_cases h2 : T[j].toNat = 10
        · have hno := Lib.hid (noEnd_false HX.out (.inr (UInt8.toNat_inj.1 h2)))
          have h2I : ((T[j].toNat : Nat) : Int) = 10 := by omega
          clear h1 h2
          go_wp2
          go_ret
          exact ⟨by rw [hno.out]; rfl, box4_below hb⟩
        have hall2 : Hid (Pl.noEnd (T.data.toList.take (j + 1)) = true) := (by show _ = _; exact noEnd_more HX.out hall.out (fun h => h1 (by rw [h]; rfl)) (fun h => h2 (by rw [h]; rfl)))
        have h1I : (((T[j].toNat : Nat) : Int) == 13) = false := by rw [beq_eq_false_iff_ne]; omega
        have h2I : (((T[j].toNat : Nat) : Int) == 10) = false := by rw [beq_eq_false_iff_ne]; omega
        clear h1 h2
        go_wp2
        go_roundw
        case rel => exact ⟨j + 1, by omega, by go_num, hall2, hb⟩
        case measure => simp [intOf]; omega
      · obtain rfl : j = T.size := by omega
        rw [take_full] at hall
        have hall2 := Lib.hid hall.out
        go_wp2
        go_loopw [6] (fun i wr => i = .int .i64 0 ∧ Below (w.alloc (.cells #[.int .i64 1, .string T, .int .i64 0, .slice ao 0 cp] 24)).heap.size (w.alloc (.cells #[.int .i64 1, .string T, .int .i64 0, .slice ao 0 cp] 24)) wr) (fun i _ => 1)
        case atStart => exact ⟨rfl, hb⟩
        case round =>
          obtain ⟨rfl, hb⟩ := hrel
          obtain ⟨q0, q1, q2, q3⟩ := box4_cells hb
          go_wp2
          go_ret
          exact ⟨by rw [hall2.out]; rfl, box4_below hb⟩
theorem mayR_1 (d : Nat) (hd : d ≤ 8) (t : List UInt8) (ht : t.length ≤ 1073741824) (n : Int) (l : List R) (ao : Option Addr) (cp : Nat) (hl : l.length ≤ 1073741824) (w : World) : Calls Tryd.prog 35 #[.agg #[.int .i64 1, .string (str t), .int .i64 n, .slice ao l.length cp], .int .i64 d] w (MayEnd d (.mk 1 t n l) w) := by
  by_cases hb : (n == 0 && l.isEmpty) = true
  · simp only [Bool.and_eq_true, List.isEmpty_iff, beq_iff_eq] at hb
    obtain ⟨rfl, rfl⟩ := hb
    have := mayR_1b d hd (str t) (by rw [str_size]; exact ht) ao cp w
    exact this
  · exact mayR_1a d hd t ht n l ao cp hl w (by simpa using hb)
set_option maxRecDepth 100000 in
set_option maxHeartbeats 3200000 in
theorem mayR_2a (d : Nat) (hd : d ≤ 8) (t : List UInt8) (ht : t.length ≤ 1073741824) (n : Int) (l : List R) (ao : Option Addr) (cp : Nat) (hl : l.length ≤ 1073741824) (w : World) (hb : (n == 0 && l.isEmpty) = false) : Calls Tryd.prog 35 #[.agg #[.int .i64 2, .string (str t), .int .i64 n, .slice ao l.length cp], .int .i64 d] w (MayEnd d (.mk 2 t n l) w) := by
  unfold MayEnd
  rw [may_2, Bool.and_assoc, hb, Bool.and_false]
  have h3 := str_empty t
  generalize t.isEmpty = bt at *
  obtain ⟨bn, h2⟩ : ∃ b, (n == 0) = b := ⟨_, rfl⟩
  have h2' : (n != 0) = !bn := by rw [← h2]; rfl
  rw [h2] at hb
  have h1 := len_empty l
  generalize l.isEmpty = bl at *
  rcases bt <;> rcases bn <;> rcases bl
  all_goals first
    | (simp at hb; done)
    | skip
  all_goals
    clear hb
    first | (have h1' : l.length = 0 := by simpa using h1) | (have h1' : 0 < l.length := by have : ¬ l.length = 0 := (by simpa using h1); omega)
    clear h1
    go_enter Tryd.func35, Tryd.ntmps35
    go_wp2
    go_ret
    exact ⟨rfl, (Below.refl _ _).alloc (Nat.le_refl _) _⟩
set_option maxRecDepth 100000 in
set_option maxHeartbeats 3200000 in
theorem mayR_2b (d : Nat) (hd : d ≤ 8) (T : ByteArray) (hT : T.size ≤ 1073741824) (ao : Option Addr) (cp : Nat) (w : World) : Calls Tryd.prog 35 #[.agg #[.int .i64 2, .string T, .int .i64 0, .slice ao 0 cp], .int .i64 d] w (MayEnd d (.mk 2 T.data.toList 0 []) w) := by
  unfold MayEnd
  rw [may_2]
  have HG := Lib.hid (rfl : Pl.noEnd T.data.toList = Pl.noEnd T.data.toList)
  obtain ⟨bt, h3⟩ : ∃ b, T.toList.isEmpty = b := ⟨_, rfl⟩
  rcases bt
  all_goals
    go_enter Tryd.func35, Tryd.ntmps35
    go_wp2
    go_loopw [5] (fun i wr => ∃ j : Nat, j ≤ T.size ∧ i = .int .i64 j ∧ Hid (Pl.noEnd (T.data.toList.take j) = true) ∧ Below (w.alloc (.cells #[.int .i64 2, .string T, .int .i64 0, .slice ao 0 cp] 24)).heap.size (w.alloc (.cells #[.int .i64 2, .string T, .int .i64 0, .slice ao 0 cp] 24)) wr) (fun i _ => T.size - (intOf i).toNat)
    case atStart => exact ⟨0, Nat.zero_le _, rfl, (show _ = _ from rfl), Below.refl _ _⟩
    case round =>
      obtain ⟨j, hj, rfl, hall, hb⟩ := hrel
      obtain ⟨q0, q1, q2, q3⟩ := box4_cells hb
      by_cases hlt : j < T.size
      · have hx : T.data.toList[j]? = some (T[j]'hlt) := by rw [List.getElem?_eq_getElem (by simpa using hlt)]; rfl
        have HX := Lib.hid hx
        clear hx
        by_cases h1 : T[j].toNat = 13
        · have hno := Lib.hid (noEnd_false HX.out (.inl (UInt8.toNat_inj.1 h1)))
          have h1I : ((T[j].toNat : Nat) : Int) = 13 := by omega
          clear h1
          go_wp2
          go_ret
          exact ⟨by rw [hno.out]; rfl, box4_below hb⟩
        by_cases h2 : T[j].toNat = 10
        · have hno := Lib.hid (noEnd_false HX.out (.inr (UInt8.toNat_inj.1 h2)))
          have h2I : ((T[j].toNat : Nat) : Int) = 10 := by omega
          clear h1 h2
          go_wp2
          go_ret
          exact ⟨by rw [hno.out]; rfl, box4_below hb⟩
        have hall2 : Hid (Pl.noEnd (T.data.toList.take (j + 1)) = true) := (by show _ = _; exact noEnd_more HX.out hall.out (fun h => h1 (by rw [h]; rfl)) (fun h => h2 (by rw [h]; rfl)))
        have h1I : (((T[j].toNat : Nat) : Int) == 13) = false := by rw [beq_eq_false_iff_ne]; omega
        have h2I : (((T[j].toNat : Nat) : Int) == 10) = false := by rw [beq_eq_false_iff_ne]; omega
        clear h1 h2
        go_wp2
        go_roundw
        case rel => exact ⟨j + 1, by omega, by go_num, hall2, hb⟩
        case measure => simp [intOf]; omega
      · obtain rfl : j = T.size := by omega
        rw [take_full] at hall
        have hall2 := Lib.hid hall.out
        go_wp2
        go_loopw [6] (fun i wr => i = .int .i64 0 ∧ Below (w.alloc (.cells #[.int .i64 2, .string T, .int .i64 0, .slice ao 0 cp] 24)).heap.size (w.alloc (.cells #[.int .i64 2, .string T, .int .i64 0, .slice ao 0 cp] 24)) wr) (fun i _ => 1)
        case atStart => exact ⟨rfl, hb⟩
        case round =>
          obtain ⟨rfl, hb⟩ := hrel
          obtain ⟨q0, q1, q2, q3⟩ := box4_cells hb
          go_wp2
          go_ret
          exact ⟨by rw [hall2.out]; rfl, box4_below hb⟩
theorem mayR_2 (d : Nat) (hd : d ≤ 8) (t : List UInt8) (ht : t.length ≤ 1073741824) (n : Int) (l : List R) (ao : Option Addr) (cp : Nat) (hl : l.length ≤ 1073741824) (w : World) : Calls Tryd.prog 35 #[.agg #[.int .i64 2, .string (str t), .int .i64 n, .slice ao l.length cp], .int .i64 d] w (MayEnd d (.mk 2 t n l) w) := by
  by_cases hb : (n == 0 && l.isEmpty) = true
  · simp only [Bool.and_eq_true, List.isEmpty_iff, beq_iff_eq] at hb
    obtain ⟨rfl, rfl⟩ := hb
    have := mayR_2b d hd (str t) (by rw [str_size]; exact ht) ao cp w
    exact this
  · exact mayR_2a d hd t ht n l ao cp hl w (by simpa using hb)
set_option maxRecDepth 100000 in
theorem mayR_no (k : Int) (d : Nat) (hd : d ≤ 8) (t : List UInt8) (ht : t.length ≤ 1073741824) (n : Int) (l : List R) (ao : Option Addr) (cp : Nat) (hl : l.length ≤ 1073741824) (w : World) (h1 : (k == 1) = false) (h2 : (k == 2) = false) (h3 : (k == 3) = false) (h4 : (k == 4) = false) (h5 : (k == 5) = false) (h6 : (k == 6) = false) (h7 : (k == 7) = false) : Calls Tryd.prog 35 #[.agg #[.int .i64 k, .string (str t), .int .i64 n, .slice ao l.length cp], .int .i64 d] w (MayEnd d (.mk k t n l) w) := by
  unfold MayEnd
  rw [may_no d t n l h1 h2 h3 h4 h5 h6 h7]
  rw [beq_eq_false_iff_ne] at h1 h2 h3 h4 h5 h6 h7
  rcases (show k < 1 ∨ 7 < k by omega) with hk | hk
  all_goals
    clear h1 h2 h3 h4 h5 h6 h7
    go_enter Tryd.func35, Tryd.ntmps35
    go_wp2
    go_ret
    exact ⟨rfl, (Below.refl _ _).alloc (Nat.le_refl _) _⟩
set_option maxRecDepth 100000 in
theorem mayR_60 (t : List UInt8) (n : Int) (l : List R) (ao : Option Addr) (cp : Nat) (w : World) : Calls Tryd.prog 35 #[.agg #[.int .i64 6, .string (str t), .int .i64 n, .slice ao l.length cp], .int .i64 0] w (MayEnd 0 (.mk 6 t n l) w) := by
  unfold MayEnd
  rw [may_60]
  have h3 := str_empty t
  generalize t.isEmpty = bt at *
  obtain ⟨bn, h2⟩ : ∃ b, (n == 0) = b := ⟨_, rfl⟩
  have h4 : (n != 0) = !bn := by rw [← h2]; rfl
  rcases bt <;> rcases bn <;> rcases (show l.length = 0 ∨ 0 < l.length by omega) with hz | hz
  all_goals
    go_enter Tryd.func35, Tryd.ntmps35
    go_wp2
    go_ret
    exact ⟨rfl, (Below.refl _ _).alloc (Nat.le_refl _) _⟩
set_option maxRecDepth 100000 in
set_option maxHeartbeats 1600000 in
theorem mayR_6not (d : Nat) (hd : d < 8) (t : List UInt8) (n : Int) (l : List R) (ao : Option Addr) (cp : Nat) (w : World) (h : (t.isEmpty && n == 0) = false) : Calls Tryd.prog 35 #[.agg #[.int .i64 6, .string (str t), .int .i64 n, .slice ao l.length cp], .int .i64 ((d : Int) + 1)] w (MayEnd (d + 1) (.mk 6 t n l) w) := by
  unfold MayEnd
  rw [may_6s, h, Bool.false_and]
  have h3 := str_empty t
  generalize t.isEmpty = bt at *
  obtain ⟨bn, h2⟩ : ∃ b, (n == 0) = b := ⟨_, rfl⟩
  have h4 : (n != 0) = !bn := by rw [← h2]; rfl
  rw [h2] at h
  have h5 : ((d : Int) + 1 == 0) = false := by rw [beq_eq_false_iff_ne]; omega
  rcases bt <;> rcases bn
  all_goals first
    | (simp at h; done)
    | (clear h
       go_enter Tryd.func35, Tryd.ntmps35
       go_wp2
       go_ret
       exact ⟨rfl, (Below.refl _ _).alloc (Nat.le_refl _) _⟩)
set_option maxRecDepth 100000 in
set_option maxHeartbeats 1600000 in
theorem mayR_6e (d : Nat) (hd : d < 8) (ao : Option Addr) (cp : Nat) (w : World) : Calls Tryd.prog 35 #[.agg #[.int .i64 6, .string (str []), .int .i64 0, .slice ao 0 cp], .int .i64 ((d : Int) + 1)] w (MayEnd (d + 1) (.mk 6 [] 0 []) w) := by
  unfold MayEnd
  rw [may_6s]
  have h3 := str_empty []
  have h5 : ((d : Int) + 1 == 0) = false := by rw [beq_eq_false_iff_ne]; omega
  go_enter Tryd.func35, Tryd.ntmps35
  go_wp2
  go_loopw [6] (fun i wr => i = .int .i64 0 ∧ Below (w.alloc (.cells #[.int .i64 6, .string (str []), .int .i64 0, .slice ao 0 cp] 24)).heap.size (w.alloc (.cells #[.int .i64 6, .string (str []), .int .i64 0, .slice ao 0 cp] 24)) wr) (fun i _ => 1)
  case atStart => exact ⟨rfl, Below.refl _ _⟩
  case round =>
    obtain ⟨rfl, hb⟩ := hrel
    obtain ⟨q0, q1, q2, q3⟩ := box4_cells hb
    go_wp2
    go_ret
    exact ⟨rfl, box4_below hb⟩
set_option maxRecDepth 100000 in
set_option maxHeartbeats 1600000 in
theorem mayR_6 (d : Nat) (hd : d < 8) (ih : ∀ (r : R) (lv : Value) (F : Nat → Prop) (w : World), OkR r → LIs F w lv r.l → Calls Tryd.prog 35 #[rv r lv, .int .i64 d] w (MayEnd d r w))
    (l : List R) (lv : Value) (F : Nat → Prop) (hl : l.length ≤ 1073741824) (hz : 0 < l.length) (w : World) (hL : LIs F w lv l) : Calls Tryd.prog 35 #[.agg #[.int .i64 6, .string (str []), .int .i64 0, lv], .int .i64 ((d : Int) + 1)] w (MayEnd (d + 1) (.mk 6 [] 0 l) w) := by
  unfold MayEnd
  rw [may_6s]
  obtain ⟨ao, cp, rfl⟩ := hL.shape
  have HL := Lib.hid hL
  have IH := Lib.hid ih
  have h3 := str_empty []
  have h5 : ((d : Int) + 1 == 0) = false := by rw [beq_eq_false_iff_ne]; omega
  clear hL ih
  go_enter Tryd.func35, Tryd.ntmps35
  go_wp2_with fail
  go_loopw [6] (fun i wr => ∃ j : Nat, j ≤ l.length ∧ i = .int .i64 j ∧ Hid ((l.take j).all (Pl.mayL d) = true) ∧ Below (w.alloc (.cells #[.int .i64 6, .string (str []), .int .i64 0, .slice ao l.length cp] 24)).heap.size (w.alloc (.cells #[.int .i64 6, .string (str []), .int .i64 0, .slice ao l.length cp] 24)) wr) (fun i _ => l.length - (intOf i).toNat)
  case atStart => exact ⟨0, Nat.zero_le _, rfl, (show _ = _ by simp), Below.refl _ _⟩
  case round =>
    obtain ⟨j, hj, rfl, hall, hB⟩ := hrel
    obtain ⟨q0, q1, q2, q3⟩ := box4_cells hB
    have hb := box4_below hB
    by_cases hlt : j < l.length
    · have hLr := HL.out.later hb
      obtain ⟨g, off, r, lv, rfl, hg, hr, hok, k0, k1, k2, k3, hLe⟩ := hLr.at hlt
      clear hLr
      obtain ⟨aj, cj, rfl⟩ := hLe.shape
      have HR := Lib.hid hr
      have HE := Lib.hid hLe
      clear hr hLe
      rcases hm : Pl.mayL d r with _ | _
      · have hall2 := Lib.hid (all_false HR.out hm)
        have HM := Lib.hid hm
        clear hm
        go_wp2_with fail
        ((with_reducible refine (IH.out r _ F _ hok (HE.out)).mono ?_); rintro e w5 ⟨rfl, b5⟩)
        rw [HM.out]
        go_wp2
        go_ret
        exact ⟨by rw [hall2.out]; rfl, hb.trans (b5.mono hb.size)⟩
      · have hall2 : Hid ((l.take (j + 1)).all (Pl.mayL d) = true) := (by show _ = _; rw [all_take HR.out, hall.out, hm]; rfl)
        have HM := Lib.hid hm
        clear hm
        go_wp2_with fail
        ((with_reducible refine (IH.out r _ F _ hok (HE.out)).mono ?_); rintro e w5 ⟨rfl, b5⟩)
        rw [HM.out]
        go_wp2
        go_roundw
        case rel => exact ⟨j + 1, by omega, by go_num, hall2, hB.trans (b5.mono hB.size)⟩
        case measure => simp [intOf]; omega
    · obtain rfl : j = l.length := by omega
      have hall2 := hall.out
      rw [List.take_length] at hall2
      have HA := Lib.hid hall2
      clear hall2
      go_wp2
      go_ret
      exact ⟨by rw [HA.out]; rfl, hb⟩
theorem mayR_any : ∀ (d : Nat), d ≤ 8 → ∀ (r : R) (lv : Value) (F : Nat → Prop) (w : World), OkR r → LIs F w lv r.l → Calls Tryd.prog 35 #[rv r lv, .int .i64 d] w (MayEnd d r w)
  | d, hd, .mk k t n l, lv, F, w, hok, hL => by
    obtain ⟨ao, cp, rfl⟩ := hL.shape
    obtain ⟨_, _, ht, hl⟩ := hok
    simp only [R.t, R.l] at ht hl
    show Calls Tryd.prog 35 #[.agg #[.int .i64 k, .string (str t), .int .i64 n, .slice ao l.length cp], .int .i64 d] w (MayEnd d (.mk k t n l) w)
    by_cases h1 : k = 1
    · subst h1; exact mayR_1 d hd t ht n l ao cp hl w
    by_cases h2 : k = 2
    · subst h2; exact mayR_2 d hd t ht n l ao cp hl w
    by_cases h3 : k = 3
    · subst h3; exact mayR_3 d hd t ht n l ao cp hl w
    by_cases h4 : k = 4
    · subst h4; exact mayR_4 d hd t ht n l ao cp hl w
    by_cases h5 : k = 5
    · subst h5; exact mayR_5 d hd t ht n l ao cp hl w
    by_cases h7 : k = 7
    · subst h7; exact mayR_7 d hd t ht n l ao cp hl w
    by_cases h6 : k = 6
    · subst h6
      cases d with
      | zero => exact mayR_60 t n l ao cp w
      | succ d =>
        by_cases hc : (t.isEmpty && n == 0) = true
        · simp only [Bool.and_eq_true, List.isEmpty_iff, beq_iff_eq] at hc
          obtain ⟨rfl, rfl⟩ := hc
          cases l with
          | nil => exact mayR_6e d (by omega) ao cp w
          | cons a l => exact mayR_6 d (by omega) (mayR_any d (by omega)) (a :: l) _ F hl (by simp) w hL
        · exact mayR_6not d (by omega) t n l ao cp w (by simpa using hc)
    · exact mayR_no k d hd t ht n l ao cp hl w (by simpa using h1) (by simpa using h2) (by simpa using h3) (by simpa using h4) (by simpa using h5) (by simpa using h6) (by simpa using h7)
end Go.Proofs.YtpngmbdchceikaaDoor
