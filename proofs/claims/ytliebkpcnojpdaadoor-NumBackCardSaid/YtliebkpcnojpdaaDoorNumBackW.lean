/- The walk of NumBack. -/
import Derived.Test.YtliebkpcnojpdaaDoorNumParsesW
import Derived.Test.YtliebkpcnojpdaaDoorNumPrintsW
import Derived.Test.YtliebkpcnojpdaaDoorNumFix
import Derived.Test.YtliebkpcnojpdaaDoorNumUnfix
namespace Go.Proofs.YtliebkpcnojpdaaDoor
open Go.ChangeShapes Go.WideShapes Go.ChangeAt Go.RowKit
set_option linter.unusedVariables false


theorem unfix_fix {u k : Nat} (h1 : 1 ≤ k) (h8 : k ≤ 8) (hz : u / 2 ^ (8 * k) = 0) : unfixN (str (Pl.fixL u k)) = u ∧ unfixE (str (Pl.fixL u k)) = 0 := by
  have hs : (str (Pl.fixL u k)).size = k := by rw [str_size]; exact Pl.fixL_length u k
  have hlt : u < 2 ^ (8 * k) := by
    rcases Nat.lt_or_ge u (2 ^ (8 * k)) with h | h
    · exact h
    · exfalso
      have := Nat.div_pos h (Nat.pow_pos (by omega))
      omega
  unfold unfixN unfixE
  rw [if_pos (by rw [hs]; omega), if_pos (by rw [hs]; omega)]
  refine ⟨?_, rfl⟩
  show Pl.num (Pl.fixL u k) = u
  rw [Pl.num_fixL, Nat.mod_eq_of_lt hlt]
theorem refP_len {n : Int} (h1 : -9223372036854775808 ≤ n) (h2 : n ≤ 9223372036854775807) : (Lib.itoa n).length ≤ 21 := by
  unfold Lib.itoa
  have fl := Pl.dec_len (u := n.natAbs) (by have : (10 : Nat) ^ 19 = 10000000000000000000 := by decide
                                            omega)
  split
  · simp; omega
  · rw [show n.toNat = n.natAbs by omega]; omega
theorem itoa_size {n : Int} (h1 : -9223372036854775808 ≤ n) (h2 : n ≤ 9223372036854775807) : (str (Lib.itoa n)).size ≤ 140737488351232 := by
  have := refP_len h1 h2
  rw [str_size]; omega
set_option maxHeartbeats 3200000 in
set_option maxRecDepth 100000 in
theorem numBack_walk (n : Int) (wf : (Lit.int .i64 n).wf = true) (s : ByteArray) (hs : s.size ≤ 140737488351232) (u0 : Int) (wu : (Lit.int .u64 u0).wf = true) (w : World) (h : Pows w) (hv : Sents w) :
    Calls Tryd.prog 5 #[.int .i64 n, .string s, .int .u64 u0] w fun e w' => e = .returned (.bool true) ∧ Below w.heap.size w w' := by
  have hb := bounds_u64 wu
  obtain ⟨h1, h2⟩ := bounds_i64 wf
  obtain ⟨u, rfl⟩ := Int.eq_ofNat_of_zero_le hb.1
  have hu : u ≤ 18446744073709551615 := by omega
  have H := Lib.hid h
  have HV := Lib.hid hv
  have hback : Pl.refP (str (Lib.itoa n)).data.toList = some n := Pl.refP_of h1 h2
  have HBk := Lib.hid hback
  have hsz0 := itoa_size h1 h2
  clear h hv hb hback
  rcases ho : Pl.refP s.data.toList with _ | v
  · have HO := Lib.hid ho
    clear ho
    go_enter Tryd.func5, Tryd.ntmps5
    go_wp2_with fail
    ((with_reducible refine (print_any n h1 h2 _ H.out).mono ?_); rintro e w1 ⟨rfl, b1⟩)
    go_wp2_with fail
    ((with_reducible refine (numParse_any _ hsz0 _ (H.out.kept (B := 0) b1) (HV.out.kept b1)).mono ?_); rintro e w2 ⟨rfl, b2⟩)
    rw [HBk.out]
    simp only [optV]
    have B2 := Lib.hid (b1.trans (b2.mono b1.size))
    clear b1 b2
    go_wp2_with fail
    ((with_reducible refine (numParse_any s hs _ (H.out.kept (B := 0) B2.out) (HV.out.kept B2.out)).mono ?_); rintro e w3 ⟨rfl, b3⟩)
    rw [HO.out]
    simp only [optV]
    have B3 := Lib.hid (B2.out.trans (b3.mono B2.out.size))
    clear b3 B2
    go_wp2_with fail
    go_loopw [11] (fun i wr => ∃ k : Nat, 1 ≤ k ∧ k ≤ 9 ∧ i = .int .i64 k ∧ Hid (Below w.heap.size w wr)) (fun i _ => 9 - (intOf i).toNat)
    case atStart => exact ⟨1, by omega, by omega, rfl, B3.out⟩
    case round =>
      obtain ⟨k, hk1, hk9, rfl, HB⟩ := hrel
      clear B3
      by_cases hk : k ≤ 8
      · have hkI : (k : Int) ≤ 8 := by omega
        have hp8 : (8 : Int) * (k : Int) ≤ 64 := by omega
        by_cases hz : u / 2 ^ (8 * k) = 0
        · have hzI : ((u : Int) / 2 ^ (8 * k) == 0) = true := by
            have : (u : Int) / 2 ^ (8 * k) = ((u / 2 ^ (8 * k) : Nat) : Int) := by simp
            rw [this, hz]; rfl
          obtain ⟨e1, e2⟩ := fix_yes (n := u) (width := (k : Int)) ⟨by omega, by omega, by simpa using hz⟩
          rw [Int.toNat_natCast] at e1
          have hlen := Pl.fixL_length u k
          have hun : unfixN (str (Pl.fixL u k)) = u ∧ unfixE (str (Pl.fixL u k)) = 0 := unfix_fix hk1 hk hz
          have hsz : (str (Pl.fixL u k)).size = k := by rw [str_size]; exact hlen
          have HE := Lib.hid (And.intro e1 e2)
          have HU := Lib.hid hun
          clear e1 e2 hun hz hlen
          rcases Nat.lt_or_ge k 8 with h8 | h8
          · have h8I : ((k : Int) == 8) = false := by rw [beq_eq_false_iff_ne]; omega
            go_wp2_with fail
            ((with_reducible refine (numFix_any u (k : Int) _ hu).mono ?_); rintro e w5 ⟨rfl, b5⟩)
            rw [HE.out.1, HE.out.2]
            have B5 := Lib.hid (HB.out.trans (b5.mono HB.out.size))
            clear b5
            go_wp2_with fail
            ((with_reducible refine (numUnfix_any _ _ (by rw [hsz]; unfold maxLen; omega)).mono ?_); rintro e w6 ⟨rfl, rfl⟩)
            rw [HU.out.1, HU.out.2]
            go_wp2
            go_roundw
            case rel => exact ⟨k + 1, by omega, by omega, by go_num, B5.out⟩
            case measure => simp [intOf]; omega
          · have h8I : ((k : Int) == 8) = true := by rw [beq_iff_eq]; omega
            go_wp2_with fail
            ((with_reducible refine (numFix_any u (k : Int) _ hu).mono ?_); rintro e w5 ⟨rfl, b5⟩)
            rw [HE.out.1, HE.out.2]
            have B5 := Lib.hid (HB.out.trans (b5.mono HB.out.size))
            clear b5
            go_wp2_with fail
            ((with_reducible refine (numUnfix_any _ _ (by rw [hsz]; unfold maxLen; omega)).mono ?_); rintro e w6 ⟨rfl, rfl⟩)
            rw [HU.out.1, HU.out.2]
            go_wp2
            go_roundw
            case rel => exact ⟨k + 1, by omega, by omega, by go_num, B5.out⟩
            case measure => simp [intOf]; omega
        · have hzI : ((u : Int) / 2 ^ (8 * k) == 0) = false := by
            have : (u : Int) / 2 ^ (8 * k) = ((u / 2 ^ (8 * k) : Nat) : Int) := by simp
            rw [this, beq_eq_false_iff_ne]; omega
          have h8 : k < 8 := Decidable.byContradiction fun h => hz (pow8 hu h)
          have h8I : ((k : Int) == 8) = false := by rw [beq_eq_false_iff_ne]; omega
          obtain ⟨e1, e2⟩ := fix_no (n := u) (width := (k : Int)) (by rw [Int.toNat_natCast]; omega)
          have HE := Lib.hid (And.intro e1 e2)
          clear e1 e2 hz
          go_wp2_with fail
          ((with_reducible refine (numFix_any u (k : Int) _ hu).mono ?_); rintro e w5 ⟨rfl, b5⟩)
          rw [HE.out.1, HE.out.2]
          have B5 := Lib.hid (HB.out.trans (b5.mono HB.out.size))
          clear b5
          go_wp2
          go_roundw
          case rel => exact ⟨k + 1, by omega, by omega, by go_num, B5.out⟩
          case measure => simp [intOf]; omega
      · have hkI : (8 : Int) < (k : Int) := by omega
        go_wp2
        go_ret
        exact ⟨rfl, HB.out⟩
  · obtain ⟨v1, v2, v3⟩ := Pl.refP_itoa ho
    have HO := Lib.hid ho
    have hsame : str (Lib.itoa v) = s := by rw [v3, str_of]
    have HS := Lib.hid hsame
    clear ho v3 hsame
    go_enter Tryd.func5, Tryd.ntmps5
    go_wp2_with fail
    ((with_reducible refine (print_any n h1 h2 _ H.out).mono ?_); rintro e w1 ⟨rfl, b1⟩)
    go_wp2_with fail
    ((with_reducible refine (numParse_any _ hsz0 _ (H.out.kept (B := 0) b1) (HV.out.kept b1)).mono ?_); rintro e w2 ⟨rfl, b2⟩)
    rw [HBk.out]
    simp only [optV]
    have B2 := Lib.hid (b1.trans (b2.mono b1.size))
    clear b1 b2
    go_wp2_with fail
    ((with_reducible refine (numParse_any s hs _ (H.out.kept (B := 0) B2.out) (HV.out.kept B2.out)).mono ?_); rintro e w3 ⟨rfl, b3⟩)
    rw [HO.out]
    simp only [optV]
    have B3 := Lib.hid (B2.out.trans (b3.mono B2.out.size))
    clear b3 B2
    go_wp2_with fail
    ((with_reducible refine (print_any v v1 v2 _ (H.out.kept (B := 0) B3.out)).mono ?_); rintro e w4 ⟨rfl, b4⟩)
    rw [HS.out]
    have B3 := Lib.hid (B3.out.trans (b4.mono B3.out.size))
    clear b4
    go_wp2_with fail
    go_loopw [11] (fun i wr => ∃ k : Nat, 1 ≤ k ∧ k ≤ 9 ∧ i = .int .i64 k ∧ Hid (Below w.heap.size w wr)) (fun i _ => 9 - (intOf i).toNat)
    case atStart => exact ⟨1, by omega, by omega, rfl, B3.out⟩
    case round =>
      obtain ⟨k, hk1, hk9, rfl, HB⟩ := hrel
      clear B3
      by_cases hk : k ≤ 8
      · have hkI : (k : Int) ≤ 8 := by omega
        have hp8 : (8 : Int) * (k : Int) ≤ 64 := by omega
        by_cases hz : u / 2 ^ (8 * k) = 0
        · have hzI : ((u : Int) / 2 ^ (8 * k) == 0) = true := by
            have : (u : Int) / 2 ^ (8 * k) = ((u / 2 ^ (8 * k) : Nat) : Int) := by simp
            rw [this, hz]; rfl
          obtain ⟨e1, e2⟩ := fix_yes (n := u) (width := (k : Int)) ⟨by omega, by omega, by simpa using hz⟩
          rw [Int.toNat_natCast] at e1
          have hlen := Pl.fixL_length u k
          have hun : unfixN (str (Pl.fixL u k)) = u ∧ unfixE (str (Pl.fixL u k)) = 0 := unfix_fix hk1 hk hz
          have hsz : (str (Pl.fixL u k)).size = k := by rw [str_size]; exact hlen
          have HE := Lib.hid (And.intro e1 e2)
          have HU := Lib.hid hun
          clear e1 e2 hun hz hlen
          rcases Nat.lt_or_ge k 8 with h8 | h8
          · have h8I : ((k : Int) == 8) = false := by rw [beq_eq_false_iff_ne]; omega
            go_wp2_with fail
            ((with_reducible refine (numFix_any u (k : Int) _ hu).mono ?_); rintro e w5 ⟨rfl, b5⟩)
            rw [HE.out.1, HE.out.2]
            have B5 := Lib.hid (HB.out.trans (b5.mono HB.out.size))
            clear b5
            go_wp2_with fail
            ((with_reducible refine (numUnfix_any _ _ (by rw [hsz]; unfold maxLen; omega)).mono ?_); rintro e w6 ⟨rfl, rfl⟩)
            rw [HU.out.1, HU.out.2]
            go_wp2
            go_roundw
            case rel => exact ⟨k + 1, by omega, by omega, by go_num, B5.out⟩
            case measure => simp [intOf]; omega
          · have h8I : ((k : Int) == 8) = true := by rw [beq_iff_eq]; omega
            go_wp2_with fail
            ((with_reducible refine (numFix_any u (k : Int) _ hu).mono ?_); rintro e w5 ⟨rfl, b5⟩)
            rw [HE.out.1, HE.out.2]
            have B5 := Lib.hid (HB.out.trans (b5.mono HB.out.size))
            clear b5
            go_wp2_with fail
            ((with_reducible refine (numUnfix_any _ _ (by rw [hsz]; unfold maxLen; omega)).mono ?_); rintro e w6 ⟨rfl, rfl⟩)
            rw [HU.out.1, HU.out.2]
            go_wp2
            go_roundw
            case rel => exact ⟨k + 1, by omega, by omega, by go_num, B5.out⟩
            case measure => simp [intOf]; omega
        · have hzI : ((u : Int) / 2 ^ (8 * k) == 0) = false := by
            have : (u : Int) / 2 ^ (8 * k) = ((u / 2 ^ (8 * k) : Nat) : Int) := by simp
            rw [this, beq_eq_false_iff_ne]; omega
          have h8 : k < 8 := Decidable.byContradiction fun h => hz (pow8 hu h)
          have h8I : ((k : Int) == 8) = false := by rw [beq_eq_false_iff_ne]; omega
          obtain ⟨e1, e2⟩ := fix_no (n := u) (width := (k : Int)) (by rw [Int.toNat_natCast]; omega)
          have HE := Lib.hid (And.intro e1 e2)
          clear e1 e2 hz
          go_wp2_with fail
          ((with_reducible refine (numFix_any u (k : Int) _ hu).mono ?_); rintro e w5 ⟨rfl, b5⟩)
          rw [HE.out.1, HE.out.2]
          have B5 := Lib.hid (HB.out.trans (b5.mono HB.out.size))
          clear b5
          go_wp2
          go_roundw
          case rel => exact ⟨k + 1, by omega, by omega, by go_num, B5.out⟩
          case measure => simp [intOf]; omega
      · have hkI : (8 : Int) < (k : Int) := by omega
        go_wp2
        go_ret
        exact ⟨rfl, HB.out⟩
end Go.Proofs.YtliebkpcnojpdaaDoor
