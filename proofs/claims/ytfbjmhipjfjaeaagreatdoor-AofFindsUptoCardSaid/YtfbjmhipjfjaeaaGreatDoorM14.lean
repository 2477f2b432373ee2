/- Decode at every text: the program's and the reference's tell what the plain reader tells. Head, ParseHead, and the first example, awake. ParseHead, and the walk of FrameDecodes. -/
import Derived.Test.YtfbjmhipjfjaeaaGreatDoorM10
import Derived.Test.YtfbjmhipjfjaeaaGreatDoorM11
import Derived.Test.YtfbjmhipjfjaeaaGreatDoorM12
import Derived.Test.YtfbjmhipjfjaeaaGreatDoorM13
import Derived.Test.YtfbjmhipjfjaeaaGreatDoorM08
import Derived.Laws.StructEq
namespace Go.Proofs.YtfbjmhipjfjaeaaGreatDoor
open Go.ChangeShapes Go.WideShapes Go.ChangeAt Go.RowKit
set_option linter.unusedVariables false

section
variable {s : ByteArray}
theorem link_size (h : 8 ≤ s.size) : unfixN (s.extract 0 8) = Pl.sizeOf s.data.toList := by
  unfold unfixN
  have e : (s.extract 0 8).size = 8 := by rw [ByteArray.size_extract]; omega
  rw [if_pos (by omega), Lib.extract_data]
  rfl
theorem link_num (h : 16 ≤ s.size) : unfixN (s.extract 8 16) = Pl.numOf s.data.toList := by
  unfold unfixN
  have e : (s.extract 8 16).size = 8 := by rw [ByteArray.size_extract]; omega
  rw [if_pos (by omega), Lib.extract_data]
  rfl
theorem beq_dec {a b : List UInt8} : (a == b) = decide (a = b) := by
  rw [Bool.eq_iff_iff]; simp
theorem link_head : ((sumS (s.extract 0 16)).toList == (s.extract 16 20).toList) = Pl.headSum s.data.toList := by
  rw [ByteArray.toList_eq, ByteArray.toList_eq, sumS_list, Lib.extract_data, Lib.extract_data, beq_dec]
  rfl
theorem link_headR (h : 20 ≤ s.size) : (((crcS (s.extract 0 16) : Nat) : Int) != ((unfixN (s.extract 16 20) : Nat) : Int)) = !Pl.headSum s.data.toList := by
  have e : (s.extract 16 20).size = 4 := by rw [ByteArray.size_extract]; omega
  have e2 : unfixN (s.extract 16 20) = Pl.num (s.extract 16 20).data.toList := by unfold unfixN; rw [if_pos (by omega)]
  have e3 : Pl.headSum s.data.toList = decide (crcS (s.extract 0 16) = Pl.num (s.extract 16 20).data.toList) := by
    have h4 : (s.extract 16 20).data.toList.length = 4 := by rw [len_toList, e]
    have := Pl.fixL_eq (x := crcS (s.extract 0 16)) (k := 4) h4 (crcS_lt _)
    rw [Bool.eq_iff_iff, decide_eq_true_iff, ← this]
    unfold Pl.headSum crcS
    rw [Lib.extract_data, Lib.extract_data, decide_eq_true_iff]
    rfl
  rw [e2, e3, Bool.eq_iff_iff, bne_iff_ne]
  simp
  omega
theorem link_body {n : Nat} (hn : Pl.sizeOf s.data.toList = n) :
    ((sumS (s.extract 8 16 ++ s.extract 20 (20 + n))).toList == (s.extract (20 + n) (20 + n + 4)).toList) = Pl.bodySum s.data.toList := by
  rw [ByteArray.toList_eq, ByteArray.toList_eq, sumS_list, toList_append, Lib.extract_data, Lib.extract_data, Lib.extract_data, beq_dec]
  unfold Pl.bodySum Pl.bodyOf
  rw [hn, show 20 + n + 4 - (20 + n) = 4 by omega, show 20 + n - 20 = n by omega]
theorem link_bodyR {n : Nat} (hn : Pl.sizeOf s.data.toList = n) (h : 25 + n ≤ s.size) :
    (((crcS (s.extract 8 16 ++ s.extract 20 (20 + n)) : Nat) : Int) != ((unfixN (s.extract (20 + n) (20 + n + 4)) : Nat) : Int)) = !Pl.bodySum s.data.toList := by
  have e : (s.extract (20 + n) (20 + n + 4)).size = 4 := by rw [ByteArray.size_extract]; omega
  have e2 : unfixN (s.extract (20 + n) (20 + n + 4)) = Pl.num (s.extract (20 + n) (20 + n + 4)).data.toList := by unfold unfixN; rw [if_pos (by omega)]
  have e3 : Pl.bodySum s.data.toList = decide (crcS (s.extract 8 16 ++ s.extract 20 (20 + n)) = Pl.num (s.extract (20 + n) (20 + n + 4)).data.toList) := by
    have h4 : (s.extract (20 + n) (20 + n + 4)).data.toList.length = 4 := by rw [len_toList, e]
    have := Pl.fixL_eq (x := crcS (s.extract 8 16 ++ s.extract 20 (20 + n))) (k := 4) h4 (crcS_lt _)
    rw [Bool.eq_iff_iff, decide_eq_true_iff, ← this]
    unfold Pl.bodySum Pl.bodyOf crcS
    rw [toList_append, Lib.extract_data, Lib.extract_data, Lib.extract_data, decide_eq_true_iff, hn, show 20 + n + 4 - (20 + n) = 4 by omega, show 20 + n - 20 = n by omega]
  rw [e2, e3, Bool.eq_iff_iff, bne_iff_ne]
  simp
  omega
theorem link_last {n : Nat} (h : 20 + n + 4 < s.size) : s.data.toList.getD (24 + n) 0 = s[20 + n + 4]'h := by
  have e : 24 + n = 20 + n + 4 := by omega
  rw [e]
  exact byteAt_eq s h
theorem link_text {n : Nat} (hn : Pl.sizeOf s.data.toList = n) : (s.extract 20 (20 + n)).data.toList = Pl.bodyOf s.data.toList := by
  unfold Pl.bodyOf
  rw [Lib.extract_data, hn, show 20 + n - 20 = n by omega]
end

theorem bne_cast {x : UInt8} : (((x.toNat : Nat) : Int) != 10) = decide (x ≠ 10) := by
  rw [Bool.eq_iff_iff, bne_iff_ne, decide_eq_true_iff]
  constructor
  · rintro h rfl; exact h rfl
  · intro h h2; exact h (UInt8.toNat_inj.1 (by have : x.toNat = 10 := by omega
                                               exact this))

theorem dec_any (s : ByteArray) (w : World) (hs : s.size ≤ maxLen) :
    Calls Tryz.prog 86 #[.string s] w fun e w' => e = .returned (gotV (Pl.dec s.data.toList)) ∧ Below w.heap.size w w' := by
  unfold Pl.dec
  rw [len_toList]
  by_cases h0 : s.size < 20
  · rw [if_pos h0]; exact dec_short s w h0
  rw [if_neg h0]
  have h20 : 20 ≤ s.size := by omega
  rcases hh : Pl.headSum s.data.toList with _ | _
  · rw [if_pos rfl]
    exact dec_head s w hs h20 (by rw [link_head, hh])
  rw [if_neg (by simp)]
  have hhx : ((sumS (s.extract 0 16)).toList == (s.extract 16 20).toList) = true := by rw [link_head, hh]
  have e1 := link_size (s := s) (by omega)
  have e2 := link_num (s := s) (by omega)
  by_cases hz : Pl.numOf s.data.toList = 0 ∨ Pl.maxG < Pl.sizeOf s.data.toList
  · rw [if_pos hz]
    refine dec_zero s w hs h20 hhx ?_
    rw [e1, e2]
    by_cases h1 : Pl.numOf s.data.toList = 0
    · exact .inl (by rw [h1]; rfl)
    · refine .inr ⟨by rw [beq_eq_false_iff_ne]; omega, decide_eq_true ?_⟩
      have : Pl.maxG < Pl.sizeOf s.data.toList := by rcases hz with hz | hz; exact absurd hz h1; exact hz
      unfold Pl.maxG at this; omega
  rw [if_neg hz]
  have hz1 : (((Pl.numOf s.data.toList : Nat) : Int) == 0) = false := by rw [beq_eq_false_iff_ne]; omega
  have hz2 : Pl.sizeOf s.data.toList ≤ 1073741824 := by unfold Pl.maxG at hz; omega
  obtain ⟨n, hn⟩ : ∃ n, Pl.sizeOf s.data.toList = n := ⟨_, rfl⟩
  obtain ⟨m, hm⟩ : ∃ m, Pl.numOf s.data.toList = m := ⟨_, rfl⟩
  rw [hn] at e1 hz2 ⊢
  rw [hm] at e2 hz1 ⊢
  by_cases h5 : s.size < 25 + n
  · rw [if_pos h5]; exact dec_cut s n m w hs h20 hhx e1 e2 hz1 hz2 h5
  rw [if_neg h5]
  have h25 : 25 + n ≤ s.size := by omega
  rcases hb : Pl.bodySum s.data.toList with _ | _
  · rw [if_pos (.inl rfl)]
    exact dec_body s n m w hs h20 hhx e1 e2 hz1 hz2 h25 (by rw [link_body hn, hb])
  have hbx : ((sumS (s.extract 8 16 ++ s.extract 20 (20 + n))).toList == (s.extract (20 + n) (20 + n + 4)).toList) = true := by rw [link_body hn, hb]
  by_cases hl : s.data.toList.getD (24 + n) 0 = 10
  · rw [if_neg (fun h => h.elim (fun h => by cases h) (fun h => h hl)), ← link_text hn]
    refine dec_good s n m w hs h20 hhx e1 e2 hz1 hz2 h25 hbx fun h => ?_
    rw [bne_cast, ← link_last h, hl]; rfl
  · rw [if_pos (.inr hl)]
    refine dec_last s n m w hs h20 hhx e1 e2 hz1 hz2 h25 hbx fun h => ?_
    rw [bne_cast, ← link_last h]
    exact decide_eq_true hl

end Go.Proofs.YtfbjmhipjfjaeaaGreatDoor

namespace Go.Proofs.YtfbjmhipjfjaeaaGreatDoor
open Go.ChangeShapes Go.WideShapes Go.ChangeAt Go.RowKit
set_option linter.unusedVariables false

theorem enc_awake (w : World) :
    Calls Tryz.prog 47 #[.agg #[.int .u64 1, .string ⟨#[97, 98]⟩]] w fun e w' => e = .returned (.tuple #[.string ⟨#[2, 0, 0, 0, 0, 0, 0, 0, 1, 0, 0, 0, 0, 0, 0, 0, 168, 110, 177, 167, 97, 98, 218, 89, 18, 211, 10]⟩, .int .i64 0]) ∧ Below w.heap.size w w' := by
  have h := enc_ok 1 ⟨#[97, 98]⟩ (by omega) (by decide) (by decide) w
  have e : str (Pl.encL 1 (⟨#[97, 98]⟩ : ByteArray).data.toList) = ⟨#[2, 0, 0, 0, 0, 0, 0, 0, 1, 0, 0, 0, 0, 0, 0, 0, 168, 110, 177, 167, 97, 98, 218, 89, 18, 211, 10]⟩ := by
    have : Pl.encL 1 [97, 98] = [2, 0, 0, 0, 0, 0, 0, 0, 1, 0, 0, 0, 0, 0, 0, 0, 168, 110, 177, 167, 97, 98, 218, 89, 18, 211, 10] := by decide +kernel
    show str (Pl.encL 1 [97, 98]) = _
    rw [this]; rfl
  rw [e] at h
  exact h
theorem dec_awake (w : World) :
    Calls Tryz.prog 86 #[.string ⟨#[2, 0, 0, 0, 0, 0, 0, 0, 1, 0, 0, 0, 0, 0, 0, 0, 168, 110, 177, 167, 97, 98, 218, 89, 18, 211, 10, 120]⟩] w fun e w' => e = .returned (.tuple #[.agg #[.int .u64 1, .string ⟨#[97, 98]⟩], .int .i64 27, .int .i64 0]) ∧ Below w.heap.size w w' := by
  have h := dec_any ⟨#[2, 0, 0, 0, 0, 0, 0, 0, 1, 0, 0, 0, 0, 0, 0, 0, 168, 110, 177, 167, 97, 98, 218, 89, 18, 211, 10, 120]⟩ w (by decide)
  have e : Pl.dec [2, 0, 0, 0, 0, 0, 0, 0, 1, 0, 0, 0, 0, 0, 0, 0, 168, 110, 177, 167, 97, 98, 218, 89, 18, 211, 10, 120] = ⟨1, [97, 98], 27, 0⟩ := by
    have e1 : Pl.encL 1 [97, 98] ++ [120] = [2, 0, 0, 0, 0, 0, 0, 0, 1, 0, 0, 0, 0, 0, 0, 0, 168, 110, 177, 167, 97, 98, 218, 89, 18, 211, 10, 120] := by decide +kernel
    have h2 := Pl.dec_back (n := 1) (b := [97, 98]) (by omega) (by omega) (by decide) [120]
    rw [e1] at h2
    exact h2
  have e3 : (⟨#[2, 0, 0, 0, 0, 0, 0, 0, 1, 0, 0, 0, 0, 0, 0, 0, 168, 110, 177, 167, 97, 98, 218, 89, 18, 211, 10, 120]⟩ : ByteArray).data.toList = [2, 0, 0, 0, 0, 0, 0, 0, 1, 0, 0, 0, 0, 0, 0, 0, 168, 110, 177, 167, 97, 98, 218, 89, 18, 211, 10, 120] := rfl
  rw [e3, e] at h
  exact h

/-- The text of a head. -/
def headS (n : Nat) : ByteArray := if n = 0 then ⟨#[]⟩ else ⟨#[67, 79, 86, 69, 78, 65, 78, 84]⟩ ++ fix8S n
theorem head_any (n : Nat) (w : World) (hn : n ≤ 18446744073709551615) :
    Calls Tryz.prog 43 #[.int .u64 n] w fun e w' => e = .returned (.string (headS n)) ∧ Below w.heap.size w w' := by
  unfold headS
  by_cases h : n = 0
  · rw [if_pos h]
    have h' : ((n : Int) == 0) = true := by rw [beq_iff_eq]; omega
    go_enter Tryz.func43, Tryz.ntmps43
    go_wp2
    go_ret
    exact ⟨rfl, Below.refl _ _⟩
  · rw [if_neg h]
    have h' : ((n : Int) == 0) = false := by rw [beq_eq_false_iff_ne]; omega
    have hc := fun W => run_string_add_sum (P := Tryz.prog) W ⟨#[67, 79, 86, 69, 78, 65, 78, 84]⟩ (fix8S n) (by rw [fix8S_size]; decide)
    go_enter Tryz.func43, Tryz.ntmps43
    go_wp2_with fail
    refine (frFix8 n hn (Below.refl _ _)).mono ?_
    rintro e w1 ⟨rfl, b1⟩
    go_wp2
    go_ret
    exact ⟨rfl, b1⟩
theorem refHead_any (n : Nat) (w : World) (hn : n ≤ 18446744073709551615) :
    Calls Tryz.prog 18 #[.int .u64 n] w fun e w' => e = .returned (.string (headS n)) ∧ Below w.heap.size w w' := by
  unfold headS
  by_cases h : n = 0
  · rw [if_pos h]
    have h' : ((n : Int) == 0) = true := by rw [beq_iff_eq]; omega
    go_enter Tryz.func18, Tryz.ntmps18
    go_wp2
    go_ret
    exact ⟨rfl, Below.refl _ _⟩
  · rw [if_neg h]
    have h' : ((n : Int) == 0) = false := by rw [beq_eq_false_iff_ne]; omega
    have hc := fun W => run_string_add_sum (P := Tryz.prog) W ⟨#[67, 79, 86, 69, 78, 65, 78, 84]⟩ (fix8S n) (by rw [fix8S_size]; decide)
    go_enter Tryz.func18, Tryz.ntmps18
    go_wp2_with fail
    refine (reFix8 n hn (Below.refl _ _)).mono ?_
    rintro e w1 ⟨rfl, b1⟩
    go_wp2
    go_ret
    exact ⟨rfl, b1⟩

end Go.Proofs.YtfbjmhipjfjaeaaGreatDoor

namespace Go.Proofs.YtfbjmhipjfjaeaaGreatDoor
open Go.ChangeShapes Go.WideShapes Go.ChangeAt Go.RowKit
set_option linter.unusedVariables false

/-- What both tell of a head. -/
def phOk (s : ByteArray) : Prop := 16 ≤ s.size ∧ ((s.extract 0 8).toList == [67, 79, 86, 69, 78, 65, 78, 84]) = true ∧ unfixN (s.extract 8 16) ≠ 0
instance (s : ByteArray) : Decidable (phOk s) := by unfold phOk; infer_instance
def phN (s : ByteArray) : Nat := if phOk s then unfixN (s.extract 8 16) else 0
def phE (s : ByteArray) : Int := if phOk s then 0 else 254


set_option maxHeartbeats 1600000 in
theorem ph_any (s : ByteArray) (w : World) (hs : s.size ≤ maxLen) :
    Calls Tryz.prog 69 #[.string s] w fun e w' => e = .returned (.tuple #[.int .u64 (phN s), .int .i64 (phE s)]) ∧ Below w.heap.size w w' := by
  by_cases h16 : 16 ≤ s.size
  · have g16 : (16 : Int) ≤ (s.size : Int) := by omega
    have g8 : (8 : Int) ≤ (s.size : Int) := by omega
    have m3 : (s.extract 8 16).size ≤ maxLen := by rw [ByteArray.size_extract]; unfold maxLen; omega
    rcases hc : ((s.extract 0 8).toList == [67, 79, 86, 69, 78, 65, 78, 84]) with _ | _
    · have hno : ¬ phOk s := fun h => by have := h.2.1; rw [hc] at this; cases this
      rw [show phN s = 0 from if_neg hno, show phE s = 254 from if_neg hno]
      unfold maxLen at hs
      go_enter Tryz.func69, Tryz.ntmps69
      go_wp2
      go_ret2
      exact ⟨rfl, Below.refl _ _⟩
    · by_cases hz : unfixN (s.extract 8 16) = 0
      · have hno : ¬ phOk s := fun h => h.2.2 hz
        rw [show phN s = 0 from if_neg hno, show phE s = 254 from if_neg hno]
        have hz' : (((unfixN (s.extract 8 16) : Nat) : Int) == 0) = true := by rw [beq_iff_eq]; omega
        clear hz hno
        unfold maxLen at hs
        go_enter Tryz.func69, Tryz.ntmps69
        go_wp2_with fail
        refine (frUnfix _ m3 (Below.refl _ _)).mono ?_
        rintro e w1 ⟨rfl, b1⟩
        go_wp2
        go_ret2
        exact ⟨rfl, b1⟩
      · have hyes : phOk s := ⟨h16, hc, hz⟩
        rw [show phN s = unfixN (s.extract 8 16) from if_pos hyes, show phE s = 0 from if_pos hyes]
        have hz' : (((unfixN (s.extract 8 16) : Nat) : Int) == 0) = false := by rw [beq_eq_false_iff_ne]; omega
        clear hz hyes
        unfold maxLen at hs
        go_enter Tryz.func69, Tryz.ntmps69
        go_wp2_with fail
        refine (frUnfix _ m3 (Below.refl _ _)).mono ?_
        rintro e w1 ⟨rfl, b1⟩
        go_wp2
        go_ret2
        exact ⟨rfl, b1⟩
  · have hno : ¬ phOk s := fun h => h16 h.1
    rw [show phN s = 0 from if_neg hno, show phE s = 254 from if_neg hno]
    go_enter Tryz.func69, Tryz.ntmps69
    go_wp2
    go_ret2
    exact ⟨rfl, Below.refl _ _⟩


end Go.Proofs.YtfbjmhipjfjaeaaGreatDoor
