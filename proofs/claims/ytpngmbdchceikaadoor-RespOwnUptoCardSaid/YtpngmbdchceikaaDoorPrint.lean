/- The reference's text of a number is strconv's. -/
import Derived.Test.YtpngmbdchceikaaDoorBase
import Derived.Lib.ItoaNum
import Derived.Laws.IdiomStrings
namespace Go.Proofs.YtpngmbdchceikaaDoor
open Go.ChangeShapes Go.WideShapes Go.ChangeAt Go.RowKit
set_option linter.unusedVariables false

/-- The digits of a number; none for 0. -/
def dd (u : Nat) : List UInt8 := if u = 0 then [] else Lib.decDigits u
theorem dd_zero : dd 0 = [] := rfl
theorem dd_step {u : Nat} (h : 0 < u) : dd u = dd (u / 10) ++ [UInt8.ofNat (48 + u % 10)] := by
  unfold dd
  rw [if_neg (by omega), Lib.decDigits]
  by_cases h10 : u < 10
  · rw [dif_pos h10, if_pos (by omega), Nat.mod_eq_of_lt h10]; rfl
  · rw [dif_neg h10, if_neg (by omega)]
theorem dd_length : ∀ (k u : Nat), u < 10 ^ k → (dd u).length ≤ k
  | 0, u, h => by have : u = 0 := by simpa using h
                  subst this; simp [dd]
  | k + 1, u, h => by
    by_cases h0 : u = 0
    · subst h0; simp [dd]
    · rw [dd_step (by omega)]
      have := dd_length k (u / 10) (by rw [Nat.pow_succ] at h; omega)
      simp; omega
theorem itoa_dd {n : Int} (h : n ≠ 0) : Lib.itoa n = if n < 0 then 45 :: dd n.natAbs else dd n.natAbs := by
  unfold Lib.itoa dd
  have : n.natAbs ≠ 0 := by omega
  rw [if_neg this]
  by_cases hn : n < 0
  · rw [if_pos hn, if_pos hn]
  · rw [if_neg hn, if_neg hn, show n.toNat = n.natAbs by omega]
theorem toNat_dig {d : Nat} (h : d < 10) : (UInt8.ofNat (48 + d)).toNat = 48 + d := by
  simp; omega

def dig (q : Nat) : UInt8 := UInt8.ofNat (48 + q % 10)
theorem dig_toNat (q : Nat) : ((dig q).toNat : Int) = 48 + (q : Int) % 10 := by
  unfold dig
  rw [toNat_dig (Nat.mod_lt _ (by omega))]
  omega
theorem str_one (c : UInt8) (l : List UInt8) : str [c] ++ str l = str (c :: l) := by
  apply ByteArray.ext
  apply Array.ext'
  simp [str]
theorem conv_one (w : World) (c : UInt8) : (convert 61 9 (.slice (some ⟨w.heap.size, 0, none⟩) 1 1)).run Tryd.prog (w.alloc (.cells #[.int .u8 (c.toNat : Int)] 5)) = .ok (.string (str [c])) (w.alloc (.cells #[.int .u8 (c.toNat : Int)] 5)) :=
  run_convert_bytes_back (P := Tryd.prog) _ 61 9 5 ⟨w.heap.size, 0, none⟩ 1 [c] Tryd.underlying61 Tryd.underlying5 Tryd.underlying9 (fun j hj => by
    have hj0 : j = 0 := by simp at hj; omega
    subst hj0
    exact World.cell?_alloc_mark _ _ _ _ _)

set_option maxHeartbeats 1600000 in
theorem refPrint_pos (n : Nat) (hn : 0 < n) (hm : n ≤ 9223372036854775807) (w : World) :
    Calls Tryd.prog 29 #[.int .i64 n] w fun e w' => e = .returned (.string (str (dd n))) ∧ Below w.heap.size w w' := by
  have h0 : ((n : Int) == 0) = false := by rw [beq_eq_false_iff_ne]; omega
  have hw : IntKind.u64.wrap (n : Int) = n := by unfold IntKind.wrap; simp [IntKind.signed, IntKind.bits]; omega
  have hneg : decide ((n : Int) < 0) = false := by rw [decide_eq_false_iff_not]; omega
  have hlen := dd_length 20 n (by omega)
  go_enter Tryd.func29, Tryd.ntmps29
  go_wp2
  go_loopw [3, 4] (fun u s wr => ∃ (q : Nat) (l : List UInt8), u = .int .u64 q ∧ s = .string (str l) ∧ q ≤ n ∧ l.length ≤ 20 ∧ Hid (dd q ++ l = dd n) ∧ Below w.heap.size w wr) (fun u _ _ => (intOf u).toNat)
  case atStart => exact ⟨n, [], rfl, rfl, Nat.le_refl _, by simp, by show _ = _; simp, Below.refl _ _⟩
  case round =>
    obtain ⟨q, l, rfl, rfl, hq, hl, hd, hb⟩ := hrel
    by_cases hlt : 0 < q
    · have hcv : ∀ W : World, (convert 61 9 (.slice (some ⟨W.heap.size, 0, none⟩) 1 1)).run Tryd.prog (W.alloc (.cells #[.int .u8 (48 + (q : Int) % 10)] 5)) = .ok (.string (str [dig q])) (W.alloc (.cells #[.int .u8 (48 + (q : Int) % 10)] 5)) := fun W => by
        have := conv_one W (dig q)
        rw [dig_toNat] at this
        exact this
      have hfit : ¬ 9223372036854775807 < (str [dig q]).size + (str l).size := by rw [str_size, str_size]; simp; omega
      have hnext : Hid (dd (q / 10) ++ dig q :: l = dd n) := by
        show _ = _
        rw [← hd.out, dd_step hlt, List.append_assoc]; rfl
      have hl2 : (dig q :: l).length ≤ 20 := by
        have h3 := congrArg List.length hnext.out
        rw [List.length_append] at h3
        omega
      have hqi : (0 : Int) < (q : Int) := by omega
      have hm1 : (0 : Int) ≤ (q : Int) % 10 := by omega
      have hm2 : (q : Int) % 10 < 10 := by omega
      go_wp2
      go_roundw
      case rel => exact ⟨q / 10, dig q :: l, by go_num, by rw [str_one], by omega, hl2, hnext, hb.alloc hb.size _⟩
      case measure => simp [intOf]; omega
    · go_wp2
      go_ret
      obtain rfl : q = 0 := by omega
      have := hd.out
      rw [dd_zero, List.nil_append] at this
      exact ⟨by rw [← this]; rfl, hb⟩
set_option maxHeartbeats 1600000 in
theorem refPrint_neg (m : Int) (hm0 : m < 0) (n : Nat) (hmn : n = m.natAbs) (hm : n ≤ 9223372036854775808) (w : World) :
    Calls Tryd.prog 29 #[.int .i64 m] w fun e w' => e = .returned (.string (str (45 :: dd n))) ∧ Below w.heap.size w w' := by
  have h0 : (m == 0) = false := by rw [beq_eq_false_iff_ne]; omega
  obtain ⟨x, hx⟩ : ∃ x, IntKind.u64.wrap m = x := ⟨_, rfl⟩
  have hw2 : IntKind.u64.wrap (-x) = n := by rw [← hx]; unfold IntKind.wrap; simp [IntKind.signed, IntKind.bits]; omega
  have hneg : decide (m < 0) = true := by rw [decide_eq_true_iff]; omega
  have Hmn := Lib.hid hmn
  clear hmn
  have hlen := dd_length 20 n (by omega)
  go_enter Tryd.func29, Tryd.ntmps29
  go_wp2
  clear hx hw2
  go_loopw [3, 4] (fun u s wr => ∃ (q : Nat) (l : List UInt8), u = .int .u64 q ∧ s = .string (str l) ∧ q ≤ n ∧ l.length ≤ 20 ∧ Hid (dd q ++ l = dd n) ∧ Below w.heap.size w wr) (fun u _ _ => (intOf u).toNat)
  case atStart => exact ⟨n, [], rfl, rfl, Nat.le_refl _, by simp, by show _ = _; simp, Below.refl _ _⟩
  case round =>
    obtain ⟨q, l, rfl, rfl, hq, hl, hd, hb⟩ := hrel
    by_cases hlt : 0 < q
    · have hcv : ∀ W : World, (convert 61 9 (.slice (some ⟨W.heap.size, 0, none⟩) 1 1)).run Tryd.prog (W.alloc (.cells #[.int .u8 (48 + (q : Int) % 10)] 5)) = .ok (.string (str [dig q])) (W.alloc (.cells #[.int .u8 (48 + (q : Int) % 10)] 5)) := fun W => by
        have := conv_one W (dig q)
        rw [dig_toNat] at this
        exact this
      have hfit : ¬ 9223372036854775807 < (str [dig q]).size + (str l).size := by rw [str_size, str_size]; simp; omega
      have hnext : Hid (dd (q / 10) ++ dig q :: l = dd n) := by
        show _ = _
        rw [← hd.out, dd_step hlt, List.append_assoc]; rfl
      have hl2 : (dig q :: l).length ≤ 20 := by
        have h3 := congrArg List.length hnext.out
        rw [List.length_append] at h3
        omega
      have hqi : (0 : Int) < (q : Int) := by omega
      have hm1 : (0 : Int) ≤ (q : Int) % 10 := by omega
      have hm2 : (q : Int) % 10 < 10 := by omega
      go_wp2
      go_roundw
      case rel => exact ⟨q / 10, dig q :: l, by go_num, by rw [str_one], by omega, hl2, hnext, hb.alloc hb.size _⟩
      case measure => simp [intOf]; omega
    · have hfit : ¬ 9223372036854775807 < (⟨#[45]⟩ : ByteArray).size + (str l).size := by rw [str_size, show (⟨#[45]⟩ : ByteArray).size = 1 from rfl]; omega
      go_wp2
      go_ret
      obtain rfl : q = 0 := by omega
      have := hd.out
      rw [dd_zero, List.nil_append] at this
      exact ⟨by rw [← this, ← str_one]; rfl, hb⟩
theorem refPrint_zero (w : World) : Calls Tryd.prog 29 #[.int .i64 0] w fun e w' => e = .returned (.string (str [48])) ∧ Below w.heap.size w w' := by
  go_enter Tryd.func29, Tryd.ntmps29
  go_wp2
  go_ret
  exact ⟨rfl, Below.refl _ _⟩
theorem refPrint_any (n : Int) (h1 : -9223372036854775808 ≤ n) (h2 : n ≤ 9223372036854775807) (w : World) :
    Calls Tryd.prog 29 #[.int .i64 n] w fun e w' => e = .returned (.string (str (Lib.itoa n))) ∧ Below w.heap.size w w' := by
  by_cases h0 : n = 0
  · subst h0
    have : Lib.itoa 0 = [48] := by
      unfold Lib.itoa
      rw [if_neg (by omega), Lib.decDigits, dif_pos (by decide)]
      rfl
    rw [this]
    exact refPrint_zero w
  rw [itoa_dd h0]
  by_cases hn : n < 0
  · rw [if_pos hn]
    exact refPrint_neg n hn n.natAbs rfl (by omega) w
  · rw [if_neg hn]
    have e : n = (n.natAbs : Int) := by omega
    have := refPrint_pos n.natAbs (by omega) (by omega) w
    rw [← e] at this
    exact this
end Go.Proofs.YtpngmbdchceikaaDoor
