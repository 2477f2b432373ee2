/- The walks of Count and First. -/
import Derived.Test.YtgdebcpnihibjaaDoorBlob4
import Derived.Test.YtgdebcpnihibjaaDoorBlob1
import Derived.Test.YtgdebcpnihibjaaDoorShelf
namespace Go.Proofs.YtgdebcpnihibjaaDoor
open Go.ChangeShapes Go.WideShapes Go.ChangeAt Go.RowKit
set_option linter.unusedVariables false

theorem ones1 (c : UInt8) (w : World) : Calls Tryd.prog 36 #[.int .u8 (c.toNat : Int)] w fun e w' => e = .returned (.int .i64 (Pl.ones c : Int)) ∧ w = w' :=
  (Tryd.bits_OnesCount8 (c.toNat : Int) w (by omega) (by have := c.toNat_lt; omega)).mono fun e w' ⟨h1, h2⟩ => ⟨h1, h2.symm⟩
theorem lz1 (c : UInt8) (w : World) : Calls Tryd.prog 35 #[.int .u8 (c.toNat : Int)] w fun e w' => e = .returned (.int .i64 (Pl.lz c : Int)) ∧ w = w' :=
  (Tryd.bits_LeadingZeros8 (c.toNat : Int) w (by omega) (by have := c.toNat_lt; omega)).mono fun e w' ⟨h1, h2⟩ => ⟨by
    rw [h1]
    congr 2
    have : Lib.bitLen c.toNat ≤ 8 := Lib.bitLen_le8 ⟨c.toNat, c.toNat_lt⟩
    unfold Pl.lz
    simp only [Int.toNat_natCast]
    omega, h2.symm⟩
theorem places_nat (n : Nat) (f t : Int) : ∃ F T : Nat, F ≤ T ∧ T ≤ n ∧ Pl.pfrom n f t = (F : Int) ∧ Pl.pto n f t = (T : Int) := by
  obtain ⟨g1, g2, g3⟩ := Pl.places_ok n f t (by omega)
  exact ⟨(Pl.pfrom n f t).toNat, (Pl.pto n f t).toNat, by omega, by omega, by omega, by omega⟩
theorem range_nat {s : ByteArray} {f t : Int} {F T : Nat} (hF : Pl.pfrom s.size f t = (F : Int)) (hT : Pl.pto s.size f t = (T : Int)) : rangeT s f t = (s.data.toList.drop F).take (T - F) := by
  unfold rangeT
  rw [hF, hT, Int.toNat_natCast, Int.toNat_natCast, List.drop_take]
def countV (s : ByteArray) (f t : Int) : Nat := Pl.pop (rangeT s f t)
theorem rangeT_le (s : ByteArray) (f t : Int) : (rangeT s f t).length ≤ s.size := by
  unfold rangeT
  rw [List.length_drop, List.length_take, len_toList]; omega
theorem count_any (s : ByteArray) (hn : s.size ≤ 140737488351232) (f t : Int) (f1 : -9223372036854775808 ≤ f) (f2 : f ≤ 9223372036854775807) (t1 : -9223372036854775808 ≤ t) (t2 : t ≤ 9223372036854775807) (w : World) :
    Calls Tryd.prog 23 #[.string s, .int .i64 f, .int .i64 t] w fun e w' => e = .returned (.int .i64 (countV s f t : Int)) ∧ Below w.heap.size w w' := by
  have hrange := blobRange_any s (by omega) f t f1 f2 t1 t2 w
  have hlen := rangeT_le s f t
  unfold countV
  obtain ⟨X, hX⟩ : ∃ X, str (rangeT s f t) = X := ⟨_, rfl⟩
  have hXl : rangeT s f t = X.data.toList := by rw [← hX]; rfl
  rw [hX] at hrange
  rw [hXl] at hlen ⊢
  rw [len_toList] at hlen
  clear hX hXl
  obtain ⟨cap, w1, hcv, hrow, hb, hlt, hcap⟩ := bytes_of_text (P := Tryd.prog) w 9 54 5 X Tryd.underlying9 Tryd.underlying54 Tryd.underlying5
  have HR := Lib.hid hrange
  clear hrange
  go_enter Tryd.func23, Tryd.ntmps23
  go_wp2_with fail
  ((with_reducible refine HR.out.mono ?_); rintro e w2 ⟨rfl, rfl⟩)
  go_wp2_with fail
  clear hcv
  go_loop [7, 9, 16] (fun n c i => ∃ k : Nat, k ≤ X.size ∧ i = .int .i64 k ∧ n = .int .i64 (Pl.pop (X.data.toList.take k) : Int)) (fun _ _ i => X.size - (intOf i).toNat)
  case atStart => exact ⟨0, Nat.zero_le _, rfl, rfl⟩
  case round =>
    obtain ⟨k, hk, rfl, rfl⟩ := hrel
    by_cases hlt : k < X.size
    · have hc := BRow.cell hrow hlt
      have hpl := Pl.pop_le (X.data.toList.take k)
      have ho := Pl.ones_le (byteAt X k)
      rw [List.length_take] at hpl
      have HP : Hid (Pl.pop (X.data.toList.take (k + 1)) = Pl.pop (X.data.toList.take k) + Pl.ones (byteAt X k)) := by
        show _ = _
        rw [take_snoc X k hlt, Pl.pop_snoc, byteAt_eq X hlt]
      go_wp2_with fail
      ((with_reducible refine (ones1 _ _).mono ?_); rintro e w3 ⟨rfl, rfl⟩)
      go_wp2
      go_round
      case rel => exact ⟨k + 1, by omega, by go_num, by rw [HP.out]; go_num⟩
      case measure => simp [intOf]; omega
    · go_wp2
      go_ret
      obtain rfl : k = X.size := by omega
      exact ⟨by rw [take_all]; rfl, hb⟩
theorem refCount_any (s : ByteArray) (hn : s.size ≤ 140737488351232) (f t : Int) (f1 : -9223372036854775808 ≤ f) (f2 : f ≤ 9223372036854775807) (t1 : -9223372036854775808 ≤ t) (t2 : t ≤ 9223372036854775807) (w : World) :
    Calls Tryd.prog 24 #[.string s, .int .i64 f, .int .i64 t] w fun e w' => e = .returned (.int .i64 (countV s f t : Int)) ∧ w = w' := by
  have hp := refPlaces_any s.size (by omega) f t f1 f2 t1 t2 w
  obtain ⟨F, T, h1, h2, hF, hT⟩ := places_nat s.size f t
  rw [hF, hT] at hp
  have hv : Hid (countV s f t = Pl.cnt s.data.toList (8 * F) (8 * (T - F))) := by
    show _ = _
    unfold countV
    rw [range_nat hF hT, Pl.cnt_pop _ _ _ (by rw [len_toList]; omega)]
  clear hF hT
  have HP := Lib.hid hp
  clear hp
  go_enter Tryd.func24, Tryd.ntmps24
  go_wp2_with fail
  ((with_reducible refine HP.out.mono ?_); rintro e w2 ⟨rfl, rfl⟩)
  go_wp2_with fail
  go_loop [9, 10] (fun n i => ∃ k : Nat, 8 * F + k ≤ 8 * T ∧ i = .int .i64 (8 * F + k : Nat) ∧ n = .int .i64 (Pl.cnt s.data.toList (8 * F) k : Int)) (fun _ i => 8 * T - (intOf i).toNat)
  case atStart => exact ⟨0, by omega, by go_num, rfl⟩
  case round =>
    obtain ⟨k, hk, rfl, rfl⟩ := hrel
    have hcn := Pl.cnt_le s.data.toList (8 * F) k
    have hbn := Pl.bitL_lt s.data.toList (8 * F + k)
    obtain ⟨i, hi⟩ : ∃ i, 8 * F + k = i := ⟨_, rfl⟩
    rw [hi] at hbn
    have HI := Lib.hid hi
    have hi1 : i ≤ 8 * T := by omega
    rw [hi]
    by_cases hlt : i < 8 * T
    · clear hi
      go_wp2_with fail
      ((with_reducible refine (refbit_any s hn i (by omega) _).mono ?_); rintro e w3 ⟨rfl, rfl⟩)
      go_wp2
      go_round
      case rel => exact ⟨k + 1, by have := HI.out; omega, by have := HI.out; rw [← Nat.add_assoc, this]; go_num, by rw [Pl.cnt, HI.out]; go_num⟩
      case measure => simp [intOf]; omega
    · clear hi
      go_wp2
      go_ret
      obtain rfl : k = 8 * (T - F) := by have := HI.out; omega
      exact ⟨by rw [hv.out]; rfl, rfl⟩
end Go.Proofs.YtgdebcpnihibjaaDoor
