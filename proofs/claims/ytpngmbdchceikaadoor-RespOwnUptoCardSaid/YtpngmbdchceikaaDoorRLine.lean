/- line, number: the reference's. -/
import Derived.Test.YtpngmbdchceikaaDoorNum2
import Derived.Test.YtpngmbdchceikaaDoorPlainResp4
namespace Go.Proofs.YtpngmbdchceikaaDoor
open Go.ChangeShapes Go.WideShapes Go.ChangeAt Go.RowKit
set_option linter.unusedVariables false

/-- How a line of a text stands, as the reference's line tells it. -/
def lnV (S : ByteArray) (p : Nat) (x : Pl.Ln) : Value :=
  match x with
  | .bad => .tuple #[.int .i64 0, .int .i64 30]
  | .cut => .tuple #[.int .i64 S.size, .int .i64 31]
  | .half i => .tuple #[.int .i64 ((p : Int) + i), .int .i64 31]
  | .full i => .tuple #[.int .i64 ((p : Int) + i), .int .i64 0]
set_option maxRecDepth 100000 in
set_option maxHeartbeats 1600000 in
theorem refLine_any (S : ByteArray) (hS : S.size ≤ 1073741824) (p : Nat) (hp : p ≤ S.size) (w : World) : Calls Tryd.prog 48 #[.string S, .int .i64 p] w fun e w' => e = .returned (lnV S p (Pl.lineS (S.data.toList.drop p))) ∧ Below w.heap.size w w' := by
  go_enter Tryd.func48, Tryd.ntmps48
  go_wp2
  go_loopw [6] (fun i wr => ∃ q : Nat, i = .int .i64 q ∧ p ≤ q ∧ q ≤ S.size ∧ wr = w ∧ Hid (Pl.lineS (S.data.toList.drop p) = (Pl.lineS (S.data.toList.drop q)).sh (q - p))) (fun i _ => S.size - (intOf i).toNat)
  case atStart => exact ⟨p, rfl, Nat.le_refl _, hp, rfl, (by show _ = _; rw [Nat.sub_self, Pl.Ln.sh_zero])⟩
  case round =>
    obtain ⟨q, rfl, hpq, hq, rfl, HL⟩ := hrel
    by_cases hlt : q < S.size
    · obtain ⟨c, hc⟩ : ∃ c, S.data.toList[q]? = some c := ⟨_, List.getElem?_eq_getElem (by simpa using hlt)⟩
      have hdr := drop_at hc
      obtain ⟨hk, hb⟩ := byte_at hc
      have hL := HL.out
      rw [hdr, Pl.lineS_cons] at hL
      have hlt' : (q : Int) < (S.size : Int) := by omega
      by_cases h10 : c = 10
      · subst h10
        rw [if_pos rfl] at hL
        have HV : Hid (lnV S p (Pl.lineS (S.data.toList.drop p)) = .tuple #[.int .i64 0, .int .i64 30]) := (by show _ = _; rw [hL]; rfl)
        have hb' : ((S[q]'hk).toNat : Int) = 10 := hb
        clear hL hdr hc hb HL
        go_wp2
        go_ret2
        exact ⟨by rw [HV.out]; rfl, Below.refl _ _⟩
      rw [if_neg h10] at hL
      have hb10 : (((S[q]'hk).toNat : Int) == 10) = false := by
        rw [hb, beq_eq_false_iff_ne]; intro e; exact h10 (UInt8.toNat_inj.1 (by simp; omega))
      by_cases h13 : c = 13
      · subst h13
        rw [if_pos rfl] at hL
        have hb' : ((S[q]'hk).toNat : Int) = 13 := hb
        by_cases hend : q + 1 = S.size
        · have hd : S.data.toList.drop (q + 1) = [] := by rw [List.drop_eq_nil_iff]; simp; omega
          rw [hd] at hL
          have HV : Hid (lnV S p (Pl.lineS (S.data.toList.drop p)) = .tuple #[.int .i64 q, .int .i64 31]) := (by show _ = _; rw [hL]; simp only [Pl.Ln.sh, lnV]; rw [show (p : Int) + ((q - p + 0 : Nat) : Int) = q by omega])
          have hend' : (q : Int) + 1 = S.size := by omega
          clear hL hdr hc hb HL hb10 hd
          go_wp2
          go_ret2
          exact ⟨by rw [HV.out]; rfl, Below.refl _ _⟩
        obtain ⟨x, hx⟩ : ∃ x, S.data.toList[q + 1]? = some x := ⟨_, List.getElem?_eq_getElem (by simp; omega)⟩
        obtain ⟨hk2, hb2⟩ := byte_at hx
        rw [drop_at hx] at hL
        have hend' : ((q : Int) + 1 == S.size) = false := by rw [beq_eq_false_iff_ne]; omega
        by_cases hx10 : x = 10
        · subst hx10
          have hb2' : ((S[q + 1]'hk2).toNat : Int) = 10 := hb2
          have HV : Hid (lnV S p (Pl.lineS (S.data.toList.drop p)) = .tuple #[.int .i64 q, .int .i64 0]) := (by show _ = _; rw [hL]; simp only [if_true, Pl.Ln.sh, lnV]; rw [show (p : Int) + ((q - p + 0 : Nat) : Int) = q by omega])
          clear hL hdr hc hb HL hb10 hx hb2
          go_wp2
          go_ret2
          exact ⟨by rw [HV.out]; rfl, Below.refl _ _⟩
        · have hb2' : (((S[q + 1]'hk2).toNat : Int) != 10) = true := by rw [hb2]; exact byte_ne10 hx10
          have HV : Hid (lnV S p (Pl.lineS (S.data.toList.drop p)) = .tuple #[.int .i64 0, .int .i64 30]) := (by show _ = _; rw [hL]; simp only [hx10, if_false, Pl.Ln.sh, lnV])
          clear hL hdr hc hb HL hb10 hx hb2
          go_wp2
          go_ret2
          exact ⟨by rw [HV.out]; rfl, Below.refl _ _⟩
      · rw [if_neg h13, Pl.Ln.sh_up] at hL
        have hb13 : (((S[q]'hk).toNat : Int) != 13) = true := by
          rw [hb, bne_iff_ne]; intro e; exact h13 (UInt8.toNat_inj.1 (by simp; omega))
        have HX := Lib.hid hL
        clear hL hdr hc hb HL
        go_wp2
        go_roundw
        case rel => exact ⟨q + 1, by go_num, by omega, by omega, (by first | rfl | trivial), (by show _ = _; rw [show q + 1 - p = q - p + 1 by omega]; exact HX.out)⟩
        case measure => simp [intOf]; omega
    · obtain rfl : q = S.size := by omega
      have hL := HL.out
      rw [show S.data.toList.drop S.size = [] by rw [List.drop_eq_nil_iff]; simp] at hL
      have HV : Hid (lnV S p (Pl.lineS (S.data.toList.drop p)) = .tuple #[.int .i64 S.size, .int .i64 31]) := (by show _ = _; rw [hL]; rfl)
      clear hL HL
      go_wp2
      go_ret2
      exact ⟨by rw [HV.out]; rfl, Below.refl _ _⟩
end Go.Proofs.YtpngmbdchceikaaDoor
