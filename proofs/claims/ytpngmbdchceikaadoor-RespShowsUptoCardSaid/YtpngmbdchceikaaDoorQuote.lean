/- quoted: the program's. -/
import Derived.Test.YtpngmbdchceikaaDoorEnc
import Derived.Test.YtpngmbdchceikaaDoorLine
import Derived.Test.YtpngmbdchceikaaDoorPlainShow
import Derived.StillTailTactics
namespace Go.Proofs.YtpngmbdchceikaaDoor
open Go.ChangeShapes Go.WideShapes Go.ChangeAt Go.RowKit
open Pl (R)
set_option linter.unusedVariables false

theorem q_take {M : List UInt8} {j : Nat} {c : UInt8} (h : M[j]? = some c) {q : List UInt8} (hq : Pl.qB c = q) : 34 :: (M.take (j + 1)).flatMap Pl.qB = (34 :: (M.take j).flatMap Pl.qB) ++ q := by
  rw [List.take_add_one, h, ← hq]; simp
theorem and15 (x : Nat) (h : x < 256) : bits .and .u8 (x : Int) 15 = ((x % 16 : Nat) : Int) := (show ∀ x : Fin 256, bits .and .u8 (x.val : Int) 15 = ((x.val % 16 : Nat) : Int) by decide +kernel) ⟨x, h⟩
theorem hex_text (a b : Nat) (ha : a < 16) (hb : b < 16) : ((⟨#[92, 120]⟩ : ByteArray) ++ (⟨#[48, 49, 50, 51, 52, 53, 54, 55, 56, 57, 97, 98, 99, 100, 101, 102]⟩ : ByteArray).extract a (a + 1) ++ (⟨#[48, 49, 50, 51, 52, 53, 54, 55, 56, 57, 97, 98, 99, 100, 101, 102]⟩ : ByteArray).extract b (b + 1)).data.toList = [92, 120, Pl.hexd a, Pl.hexd b] ∧ ((⟨#[92, 120]⟩ : ByteArray) ++ (⟨#[48, 49, 50, 51, 52, 53, 54, 55, 56, 57, 97, 98, 99, 100, 101, 102]⟩ : ByteArray).extract a (a + 1) ++ (⟨#[48, 49, 50, 51, 52, 53, 54, 55, 56, 57, 97, 98, 99, 100, 101, 102]⟩ : ByteArray).extract b (b + 1)).size = 4 :=
  (show ∀ a b : Fin 16, ((⟨#[92, 120]⟩ : ByteArray) ++ (⟨#[48, 49, 50, 51, 52, 53, 54, 55, 56, 57, 97, 98, 99, 100, 101, 102]⟩ : ByteArray).extract a.val (a.val + 1) ++ (⟨#[48, 49, 50, 51, 52, 53, 54, 55, 56, 57, 97, 98, 99, 100, 101, 102]⟩ : ByteArray).extract b.val (b.val + 1)).data.toList = [92, 120, Pl.hexd a.val, Pl.hexd b.val] ∧ ((⟨#[92, 120]⟩ : ByteArray) ++ (⟨#[48, 49, 50, 51, 52, 53, 54, 55, 56, 57, 97, 98, 99, 100, 101, 102]⟩ : ByteArray).extract a.val (a.val + 1) ++ (⟨#[48, 49, 50, 51, 52, 53, 54, 55, 56, 57, 97, 98, 99, 100, 101, 102]⟩ : ByteArray).extract b.val (b.val + 1)).size = 4 by decide +kernel) ⟨a, ha⟩ ⟨b, hb⟩
theorem q_part (M : List UInt8) (j : Nat) : ((M.take j).flatMap Pl.qB).length ≤ 4 * M.length := by
  have := Pl.flatQ_len (M.take j)
  rw [List.length_take] at this
  omega
set_option maxRecDepth 100000 in
set_option maxHeartbeats 6400000 in
theorem quoted_any (S : ByteArray) (hS : S.size ≤ 1073741824) (w : World) : Calls Tryd.prog 40 #[.string S] w fun e w' => e = .returned (.string (str (Pl.quoteL S.data.toList))) ∧ Below w.heap.size w w' := by
  have hSl : S.data.toList.length = S.size := by simp
  have hbld : Bld w.heap.size w.heap.size [] (w.alloc (.cells #[.pointer none, .slice none 0 0] 63)) := .inl ⟨Nat.le_refl _, .slice none 0 0, heap_alloc_new w _, World.ownsRow_nil _ _ _ _, by simp [Value.ownBlock]⟩
  have hb0 : Below w.heap.size w (w.alloc (.cells #[.pointer none, .slice none 0 0] 63)) := (Below.refl _ _).alloc (Nat.le_refl _) _
  have HB := Lib.hid (fun (l : List UInt8) (c : UInt8) (W : World) (h : Bld w.heap.size w.heap.size l W) (hl : l.length + 1 ≤ 140737488355328) (hw : w.heap.size ≤ W.heap.size) => writeByte_any w.heap.size w.heap.size l c W h hl hw)
  have HS := Lib.hid (fun (l : List UInt8) (s : ByteArray) (W : World) (h : Bld w.heap.size w.heap.size l W) (hl : l.length + s.size ≤ 140737488355328) (hw : w.heap.size ≤ W.heap.size) => writeString_any w.heap.size w.heap.size l s W h hl hw)
  have H0 := Lib.hid (And.intro hbld hb0)
  have h34 : ((34 : UInt8).toNat : Int) = 34 := rfl
  clear hbld hb0
  go_enter Tryd.func40, Tryd.ntmps40
  go_wp2_with fail
  have hq0 := HB.out [] 34 _ H0.out.1 (by simp) H0.out.2.size
  rw [h34] at hq0
  ((with_reducible refine hq0.mono ?_); rintro e w1 ⟨rfl, h1, b1⟩)
  have H1 := Lib.hid (And.intro h1 (H0.out.2.trans b1))
  clear h1 b1
  go_wp2_with fail
  go_loopw [9] (fun i wr => ∃ j : Nat, j ≤ S.size ∧ i = .int .i64 j ∧ Hid (Bld w.heap.size w.heap.size (34 :: (S.data.toList.take j).flatMap Pl.qB) wr ∧ Below w.heap.size w wr)) (fun i _ => S.size - (intOf i).toNat)
  case atStart => exact ⟨0, Nat.zero_le _, rfl, by simp only [List.take_zero, List.flatMap_nil]; exact H1.out⟩
  case round =>
    obtain ⟨j, hj, rfl, H⟩ := hrel
    have HQ := Lib.hid (show ((S.data.toList.take j).flatMap Pl.qB).length ≤ 4 * 1073741824 by have := q_part S.data.toList j; omega)
    by_cases hlt : j < S.size
    · obtain ⟨c, hc⟩ : ∃ c, S.data.toList[j]? = some c := ⟨_, List.getElem?_eq_getElem (by simpa using hlt)⟩
      obtain ⟨hk, hb⟩ := byte_at hc
      have hlt' : (j : Int) < (S.size : Int) := by omega
      have hne : ∀ x : UInt8, c ≠ x → ((((S[j]'hk).toNat : Int)) == (x.toNat : Int)) = false := fun x hx => by
        rw [hb, beq_eq_false_iff_ne]
        intro e
        exact hx (UInt8.toNat_inj.1 (by omega))
      by_cases h : c = 34
      · subst h
        have HT := Lib.hid (q_take hc (show Pl.qB 34 = [92, 34] by decide))
        have hb' : ((S[j]'hk).toNat : Int) = 34 := hb
        clear hc hb hne
        go_wp2_with fail
        ((with_reducible refine (HS.out (34 :: (S.data.toList.take j).flatMap Pl.qB) _ _ H.out.1 (by have := HQ.out; rw [show (⟨#[92]⟩ ++ Utf8.encode 34 : ByteArray).size = 2 by decide]; simp at this ⊢; omega) H.out.2.size).mono ?_); rintro e w5 ⟨rfl, h5, b5⟩)
        rw [show (⟨#[92]⟩ ++ Utf8.encode 34 : ByteArray).data.toList = [92, 34] by decide] at h5
        have H5 := Lib.hid (And.intro h5 (H.out.2.trans b5))
        clear h5 b5
        go_wp2
        go_roundw
        case rel => exact ⟨j + 1, by omega, by go_num, by show _ ∧ _; rw [HT.out]; exact H5.out⟩
        case measure => simp [intOf]; omega
      have h34 := hne 34 h
      replace h34 : ((((S[j]'hk).toNat : Int)) == 34) = false := h34
      have g34 := h
      clear h
      by_cases h : c = 92
      · subst h
        have HT := Lib.hid (q_take hc (show Pl.qB 92 = [92, 92] by decide))
        have hb' : ((S[j]'hk).toNat : Int) = 92 := hb
        clear hc hb hne
        go_wp2_with fail
        ((with_reducible refine (HS.out (34 :: (S.data.toList.take j).flatMap Pl.qB) _ _ H.out.1 (by have := HQ.out; rw [show (⟨#[92]⟩ ++ Utf8.encode 92 : ByteArray).size = 2 by decide]; simp at this ⊢; omega) H.out.2.size).mono ?_); rintro e w5 ⟨rfl, h5, b5⟩)
        rw [show (⟨#[92]⟩ ++ Utf8.encode 92 : ByteArray).data.toList = [92, 92] by decide] at h5
        have H5 := Lib.hid (And.intro h5 (H.out.2.trans b5))
        clear h5 b5
        go_wp2
        go_roundw
        case rel => exact ⟨j + 1, by omega, by go_num, by show _ ∧ _; rw [HT.out]; exact H5.out⟩
        case measure => simp [intOf]; omega
      have h92 := hne 92 h
      replace h92 : ((((S[j]'hk).toNat : Int)) == 92) = false := h92
      have g92 := h
      clear h
      by_cases h : c = 10
      · subst h
        have HT := Lib.hid (q_take hc (show Pl.qB 10 = [92, 110] by decide))
        have hb' : ((S[j]'hk).toNat : Int) = 10 := hb
        clear hc hb hne
        go_wp2_with fail
        ((with_reducible refine (HS.out (34 :: (S.data.toList.take j).flatMap Pl.qB) _ _ H.out.1 (by have := HQ.out; rw [show (⟨#[92, 110]⟩ : ByteArray).size = 2 by decide]; simp at this ⊢; omega) H.out.2.size).mono ?_); rintro e w5 ⟨rfl, h5, b5⟩)
        rw [show (⟨#[92, 110]⟩ : ByteArray).data.toList = [92, 110] by decide] at h5
        have H5 := Lib.hid (And.intro h5 (H.out.2.trans b5))
        clear h5 b5
        go_wp2
        go_roundw
        case rel => exact ⟨j + 1, by omega, by go_num, by show _ ∧ _; rw [HT.out]; exact H5.out⟩
        case measure => simp [intOf]; omega
      have h10 := hne 10 h
      replace h10 : ((((S[j]'hk).toNat : Int)) == 10) = false := h10
      have g10 := h
      clear h
      by_cases h : c = 13
      · subst h
        have HT := Lib.hid (q_take hc (show Pl.qB 13 = [92, 114] by decide))
        have hb' : ((S[j]'hk).toNat : Int) = 13 := hb
        clear hc hb hne
        go_wp2_with fail
        ((with_reducible refine (HS.out (34 :: (S.data.toList.take j).flatMap Pl.qB) _ _ H.out.1 (by have := HQ.out; rw [show (⟨#[92, 114]⟩ : ByteArray).size = 2 by decide]; simp at this ⊢; omega) H.out.2.size).mono ?_); rintro e w5 ⟨rfl, h5, b5⟩)
        rw [show (⟨#[92, 114]⟩ : ByteArray).data.toList = [92, 114] by decide] at h5
        have H5 := Lib.hid (And.intro h5 (H.out.2.trans b5))
        clear h5 b5
        go_wp2
        go_roundw
        case rel => exact ⟨j + 1, by omega, by go_num, by show _ ∧ _; rw [HT.out]; exact H5.out⟩
        case measure => simp [intOf]; omega
      have h13 := hne 13 h
      replace h13 : ((((S[j]'hk).toNat : Int)) == 13) = false := h13
      have g13 := h
      clear h
      by_cases h : c = 9
      · subst h
        have HT := Lib.hid (q_take hc (show Pl.qB 9 = [92, 116] by decide))
        have hb' : ((S[j]'hk).toNat : Int) = 9 := hb
        clear hc hb hne
        go_wp2_with fail
        ((with_reducible refine (HS.out (34 :: (S.data.toList.take j).flatMap Pl.qB) _ _ H.out.1 (by have := HQ.out; rw [show (⟨#[92, 116]⟩ : ByteArray).size = 2 by decide]; simp at this ⊢; omega) H.out.2.size).mono ?_); rintro e w5 ⟨rfl, h5, b5⟩)
        rw [show (⟨#[92, 116]⟩ : ByteArray).data.toList = [92, 116] by decide] at h5
        have H5 := Lib.hid (And.intro h5 (H.out.2.trans b5))
        clear h5 b5
        go_wp2
        go_roundw
        case rel => exact ⟨j + 1, by omega, by go_num, by show _ ∧ _; rw [HT.out]; exact H5.out⟩
        case measure => simp [intOf]; omega
      have h9 := hne 9 h
      replace h9 : ((((S[j]'hk).toNat : Int)) == 9) = false := h9
      have g9 := h
      clear h
      by_cases h : c.toNat < 32 ∨ 126 < c.toNat
      · have HT := Lib.hid (q_take hc (show Pl.qB c = [92, 120, Pl.hexd (c.toNat / 16), Pl.hexd (c.toNat % 16)] by unfold Pl.qB; rw [if_neg (by simp [g34, g92]), if_neg g10, if_neg g13, if_neg g9, if_pos h]))
        obtain ⟨x, hx⟩ : ∃ x : Nat, (S[j]'hk).toNat = x := ⟨_, rfl⟩
        have hxc : c.toNat = x := by omega
        rw [hxc] at HT h
        have hx256 : x < 256 := by have := c.toNat_lt; omega
        have hxi : (((S[j]'hk).toNat : Nat) : Int) = (x : Int) := by rw [hx]
        rw [hx] at h34 h92 h10 h13 h9
        have hcond : (if (x : Int) < 32 then true else decide ((126 : Int) < x)) = true := by rcases h with h | h <;> (split <;> simp <;> omega)
        clear hc hb hne g34 g92 g10 g13 g9
        obtain ⟨hi, hhi0⟩ : ∃ hi, x / 16 = hi := ⟨_, rfl⟩
        have hhi1 : (x : Int) / 16 = (hi : Int) := by omega
        have hhi2 : (hi : Int) + 1 ≤ 16 := by omega
        have hhi3 : IntKind.u8.wrap ((hi : Int) + 1) = (hi : Int) + 1 := by rw [IntWalk.u8_in] <;> omega
        have hhi4 : (0 : Int) ≤ (hi : Int) + 1 := by omega
        have hhi5 : (hi : Int) ≤ (hi : Int) + 1 := by omega
        obtain ⟨lo, hlo0⟩ : ∃ lo, x % 16 = lo := ⟨_, rfl⟩
        have hlo1 : bits .and .u8 (x : Int) 15 = (lo : Int) := by rw [← hlo0]; exact and15 x hx256
        have hlo2 : (lo : Int) + 1 ≤ 16 := by omega
        have hlo3 : IntKind.u8.wrap ((lo : Int) + 1) = (lo : Int) + 1 := by rw [IntWalk.u8_in] <;> omega
        have hlo4 : (0 : Int) ≤ (lo : Int) + 1 := by omega
        have hlo5 : (lo : Int) ≤ (lo : Int) + 1 := by omega
        have hmh : min (hi + 1) 16 - hi = 1 := by omega
        have hml : min (lo + 1) 16 - lo = 1 := by omega
        have HX := Lib.hid (hex_text hi lo (by omega) (by omega))
        rw [hhi0, hlo0] at HT
        clear hhi0 hlo0 hcond hxc hx
        rcases (show (x < 32) ∨ (32 ≤ x ∧ 126 < x) by omega) with hh | ⟨hh, hh'⟩
        · have hhi : (x : Int) < 32 := by omega
          go_wp2_with fail
          go_still_tail 14, (by kernel_rfl)
          have HDZ := Lib.hid (show w.heap.size ≤ wr.drew.heap.size from H.out.2.size)
          go_wp2_with fail
          ((with_reducible refine (HS.out (34 :: (S.data.toList.take j).flatMap Pl.qB) _ _ (by exact H.out.1.later (Below.refl _ _).drew) (by have := HQ.out; rw [HX.out.2]; simp at this ⊢; omega) HDZ.out).mono ?_); rintro e w5 ⟨rfl, h5, b5⟩)
          rw [HX.out.1] at h5
          have H5 := Lib.hid (And.intro h5 ((H.out.2.trans (Below.refl _ _).drew).trans b5))
          clear h5 b5
          go_wp2
          go_roundw
          case rel => exact ⟨j + 1, by omega, by go_num, by show _ ∧ _; rw [HT.out]; exact H5.out⟩
          case measure => simp [intOf]; omega
        · have hhi : (32 : Int) ≤ (x : Int) := by omega
          have hhi' : (126 : Int) < (x : Int) := by omega
          go_wp2_with fail
          go_still_tail 14, (by kernel_rfl)
          have HDZ := Lib.hid (show w.heap.size ≤ wr.drew.heap.size from H.out.2.size)
          go_wp2_with fail
          ((with_reducible refine (HS.out (34 :: (S.data.toList.take j).flatMap Pl.qB) _ _ (by exact H.out.1.later (Below.refl _ _).drew) (by have := HQ.out; rw [HX.out.2]; simp at this ⊢; omega) HDZ.out).mono ?_); rintro e w5 ⟨rfl, h5, b5⟩)
          rw [HX.out.1] at h5
          have H5 := Lib.hid (And.intro h5 ((H.out.2.trans (Below.refl _ _).drew).trans b5))
          clear h5 b5
          go_wp2
          go_roundw
          case rel => exact ⟨j + 1, by omega, by go_num, by show _ ∧ _; rw [HT.out]; exact H5.out⟩
          case measure => simp [intOf]; omega
      · have HT := Lib.hid (q_take hc (show Pl.qB c = [c] by unfold Pl.qB; rw [if_neg (by simp [g34, g92]), if_neg g10, if_neg g13, if_neg g9, if_neg h]))
        have hc1 : ((S[j]'hk).toNat : Int) = (c.toNat : Int) := hb
        rw [hb] at h34 h92 h10 h13 h9
        have hl1 : (32 : Int) ≤ (c.toNat : Int) := by omega
        have hl2 : (c.toNat : Int) ≤ 126 := by omega
        clear hc hb hne g34 g92 g10 g13 g9 h
        go_wp2_with fail
        ((with_reducible refine (HB.out (34 :: (S.data.toList.take j).flatMap Pl.qB) c _ H.out.1 (by have := HQ.out; simp at this ⊢; omega) H.out.2.size).mono ?_); rintro e w5 ⟨rfl, h5, b5⟩)
        have H5 := Lib.hid (And.intro h5 (H.out.2.trans b5))
        clear h5 b5
        go_wp2
        go_roundw
        case rel => exact ⟨j + 1, by omega, by go_num, by show _ ∧ _; rw [HT.out]; exact H5.out⟩
        case measure => simp [intOf]; omega
    · obtain rfl : j = S.size := by omega
      have hall : S.data.toList.take S.size = S.data.toList := List.take_of_length_le (by simp)
      have HX := Lib.hid H.out
      rw [hall] at HX
      have HQ2 := Lib.hid (show Pl.quoteL S.data.toList = (34 :: S.data.toList.flatMap Pl.qB) ++ [34] from rfl)
      rw [hall] at HQ
      clear H hall
      go_wp2_with fail
      have hq0 := HB.out _ 34 _ HX.out.1 (by have := HQ.out; simp at this ⊢; omega) HX.out.2.size
      rw [h34] at hq0
      ((with_reducible refine hq0.mono ?_); rintro e w5 ⟨rfl, h5, b5⟩)
      rw [← HQ2.out] at h5
      have H5 := Lib.hid (And.intro h5 (HX.out.2.trans b5))
      clear h5 b5 hq0
      go_wp2_with fail
      ((with_reducible refine (Tryd.Builder_String_any _ _ _ _ H5.out.1 H5.out.2.size).mono ?_); rintro e w6 ⟨rfl, b6⟩)
      go_wp2
      go_ret
      exact ⟨rfl, H5.out.2.trans b6⟩
end Go.Proofs.YtpngmbdchceikaaDoor
