/- The walks of num.Unfix and of the reference's. -/
import Derived.Test.YtliebkpcnojpdaaDoorBase
import Derived.Test.YtliebkpcnojpdaaDoorPlainNum
import Derived.Laws.BitsAllLaws
namespace Go.Proofs.YtliebkpcnojpdaaDoor
open Go.ChangeShapes Go.WideShapes Go.ChangeAt Go.RowKit
set_option linter.unusedVariables false

theorem numUnfix_not (s : ByteArray) (w : World) (hs : s.size ≤ maxLen) (h : s.size < 1 ∨ 8 < s.size) :
    Calls Tryd.prog 11 #[.string s] w fun e w' => e = .returned (.tuple #[.int .u64 0, .int .i64 12]) ∧ w = w' := by
  unfold maxLen at hs
  rcases h with h | h
  all_goals
    go_enter Tryd.func11, Tryd.ntmps11
    go_wp2
    go_ret2
    exact ⟨rfl, rfl⟩

theorem wrap_u64_of {n : Int} (h0 : 0 ≤ n) (h : n ≤ 18446744073709551615) : IntKind.u64.wrap n = n := by
  rw [IntKind.wrap_u64]; omega

theorem unfix_step (s : ByteArray) (j : Nat) (hj : j < s.size) (h8 : s.size ≤ 8) :
    bits BinOp.or IntKind.u64 (Pl.num (s.data.toList.take j) : Nat) (IntKind.u64.wrap (IntKind.u64.wrap (s[j].toNat : Int) * 2 ^ (8 * j))) = (Pl.num (s.data.toList.take (j + 1)) : Nat) := by
  have hc := (s[j]).toNat_lt
  have hl : (s.data.toList.take j).length = j := by rw [List.length_take, len_toList]; omega
  have hp : 2 ^ (8 * j) ≤ 2 ^ 56 := Nat.pow_le_pow_right (by omega) (by omega)
  have hm : s[j].toNat * 2 ^ (8 * j) ≤ 255 * 2 ^ 56 := Nat.mul_le_mul (by omega) hp
  have e1 : IntKind.u64.wrap (s[j].toNat : Int) = s[j].toNat := wrap_u64_of (by omega) (by omega)
  have e2 : (s[j].toNat : Int) * 2 ^ (8 * j) = ((s[j].toNat * 2 ^ (8 * j) : Nat) : Int) := by simp
  have e3 : IntKind.u64.wrap ((s[j].toNat * 2 ^ (8 * j) : Nat) : Int) = (s[j].toNat * 2 ^ (8 * j) : Nat) := wrap_u64_of (by omega) (by omega)
  have hn := Pl.num_lt8 (l := s.data.toList.take j) (by omega)
  rw [e1, e2, e3, u64_or_nat _ _ hn (by omega)]
  have h := Pl.num_or (s.data.toList.take j) s[j]
  rw [hl] at h
  rw [h, take_snoc s j hj]

theorem numUnfix_ok (s : ByteArray) (w : World) (h1 : 1 ≤ s.size) (h8 : s.size ≤ 8) :
    Calls Tryd.prog 11 #[.string s] w fun e w' => e = .returned (.tuple #[.int .u64 (Pl.num s.data.toList), .int .i64 0]) ∧ w = w' := by
  go_enter Tryd.func11, Tryd.ntmps11
  go_wp2_with fail
  go_loop [4, 16] (fun n i => ∃ j q : Nat, j ≤ s.size ∧ i = .int .i64 j ∧ n = .int .u64 q ∧ Hid (q = Pl.num (s.data.toList.take j))) (fun _ i => s.size - (intOf i).toNat)
  case atStart => exact ⟨0, 0, by omega, rfl, rfl, rfl⟩
  case round =>
    obtain ⟨j, q, hj, rfl, rfl, hq⟩ := hrel
    by_cases hlt : j < s.size
    · have hst := Lib.hid (unfix_step s j hlt h8)
      go_wp2
      go_round
      case rel => exact ⟨j + 1, Pl.num (s.data.toList.take (j + 1)), by omega, by go_num, by rw [hq.out, hst.out], rfl⟩
      case measure => (simp [intOf]; try omega)
    · have hfin : Hid (q = Pl.num s.data.toList) := by
        have := hq.out
        rwa [show j = s.size by omega, take_all] at this
      clear hq
      go_wp2
      go_ret2
      exact ⟨by rw [← hfin.out]; rfl, rfl⟩

/-! the reference -/
theorem unfix_back (s : ByteArray) (k : Nat) (hk : k < s.size) (h8 : s.size ≤ 8) :
    IntKind.u64.wrap (IntKind.u64.wrap (256 * (Pl.num (s.data.toList.drop (k + 1)) : Nat)) + IntKind.u64.wrap (s[k].toNat : Int)) = (Pl.num (s.data.toList.drop k) : Nat) := by
  have hc := (s[k]).toNat_lt
  have hn := Pl.num_lt8 (l := s.data.toList.drop k) (by rw [List.length_drop, len_toList]; omega)
  rw [drop_cons s k hk] at hn ⊢
  simp only [Pl.num] at hn ⊢
  rw [wrap_u64_of (n := 256 * _) (by omega) (by omega), wrap_u64_of (n := (s[k].toNat : Int)) (by omega) (by omega), wrap_u64_of (by omega) (by omega)]
  omega

/-- What both tell: the number, and the error. -/
def unfixN (s : ByteArray) : Nat := if 1 ≤ s.size ∧ s.size ≤ 8 then Pl.num s.data.toList else 0
def unfixE (s : ByteArray) : Int := if 1 ≤ s.size ∧ s.size ≤ 8 then 0 else 12
theorem unfixN_le (s : ByteArray) : unfixN s ≤ 18446744073709551615 := by
  unfold unfixN
  split
  · have := Pl.num_lt8 (l := s.data.toList) (by rw [len_toList]; omega)
    omega
  · omega

theorem numUnfix_any (s : ByteArray) (w : World) (hs : s.size ≤ maxLen) :
    Calls Tryd.prog 11 #[.string s] w fun e w' => e = .returned (.tuple #[.int .u64 (unfixN s), .int .i64 (unfixE s)]) ∧ w = w' := by
  unfold unfixN unfixE
  by_cases h : 1 ≤ s.size ∧ s.size ≤ 8
  · rw [if_pos h, if_pos h]; exact numUnfix_ok s w h.1 h.2
  · rw [if_neg h, if_neg h]; exact numUnfix_not s w hs (by omega)
end Go.Proofs.YtliebkpcnojpdaaDoor
