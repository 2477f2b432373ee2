/- The walk of FrameOrder where bodies are of bulk at most 1048576. -/
import Derived.Test.YtehggdflhjgkeaaFrameTornW
namespace Go.Proofs.Ytehggdflhjgkeaa
open Go.ChangeShapes Go.WideShapes Go.ChangeAt Go.RowKit
set_option linter.unusedVariables false

theorem row_order {f n : Nat} {bs : List ByteArray} {E : ByteArray} (hE : str (Pl.encL n (⟨#[]⟩ : ByteArray).data.toList) = E) (hf : f ≠ 0) (hfl : f + bs.length ≤ 18446744073709551615) (hbs : bulkS bs ≤ 1048576) (h0 : bs ≠ [])
    (hn0 : n ≠ 0) (hn : n ≤ 18446744073709551615) (hne : n ≠ f + bs.length) :
    Pl.scan (rowB f bs bs.length ++ E).data.toList = ⟨rowG f bs bs.length, (rowB f bs bs.length).size, 253⟩ := by
  rw [toList_append, ← hE, str_toList]
  unfold rowB rowG
  rw [str_toList, str_size, List.take_length]
  have hb := rowG_body (f := f) hbs bs.length
  rw [List.take_length] at hb
  exact Pl.scan_order hf (by simp; omega) hb (by simpa using h0) hn0 (by omega) (by decide) (by simpa using hne)

set_option maxHeartbeats 4000000 in
theorem order_main (f : Nat) (v : Value) (bs : List ByteArray) (hf : f ≠ 0) (hfl : f + bs.length ≤ 18446744073709551615) (h0 : bs ≠ []) (hbs : bulkS bs ≤ 1048576) (n : Nat) (hn0 : n ≠ 0) (hn : n ≤ 18446744073709551615) (hne : n ≠ f + bs.length) (w : World) (hs : SRow w v bs) :
    Calls Try.prog 9 #[.int .u64 f, v, .int .u64 n] w fun e w' => e = .returned (.bool true) ∧ Below w.heap.size w w' := by
  have hrow := fun w (hs : SRow w v bs) => row_any f v bs hf hfl hbs w hs
  obtain ⟨ao, cp, rfl, hs2⟩ := hs
  have HS := Lib.hid hs2
  clear hs2
  have hlen := bulkS_length bs
  have hpos : 0 < bs.length := List.length_pos_iff.2 h0
  have hwr : IntKind.u64.wrap (bs.length : Int) = (bs.length : Int) := by unfold IntKind.wrap; simp [IntKind.signed, IntKind.bits]; omega
  have hf1 : ((f : Int) == 0) = false := by rw [beq_eq_false_iff_ne]; omega
  have hn1 : ((n : Int) == 0) = false := by rw [beq_eq_false_iff_ne]; omega
  have hb1 : ((bs.length : Int) == 0) = false := by rw [beq_eq_false_iff_ne]; omega
  have hne1 : ((n : Int) == (f : Int) + (bs.length : Int)) = false := by rw [beq_eq_false_iff_ne]; omega
  have Hrow := Lib.hid hrow
  obtain ⟨E, hE⟩ : ∃ E, str (Pl.encL n (⟨#[]⟩ : ByteArray).data.toList) = E := ⟨_, rfl⟩
  have hEs := enc_size hE
  have sc := row_order hE hf hfl hbs h0 hn0 hn hne
  have hAz := rowB_size f bs bs.length (Nat.le_refl _)
  have henc := fun W => enc_okE hE hn hn1 (by decide) W
  have Henc := Lib.hid henc
  have hgl := rowG_length f bs bs.length (Nat.le_refl _)
  have hEb : E.size = 25 := hEs
  have SC := Lib.hid sc
  have HGL := Lib.hid hgl
  have hAb : (rowB f bs bs.length).size ≤ 26214400 := by omega
  have HEb := Lib.hid hEb
  have hcat := fun W => run_string_add_sum (P := Try.prog) W (rowB f bs bs.length) E (by omega)
  clear hrow hE hEs sc hAz henc hgl hEb
  go_enter Try.func9, Try.ntmps9
  go_wp2_with fail
  refine (awake_any _).mono ?_
  rintro e w1 ⟨rfl, b1⟩
  go_wp2_with fail
  refine (Hrow.out _ (SRow.kept ⟨ao, cp, rfl, HS.out⟩ b1)).mono ?_
  rintro e w2 ⟨⟨v2, rfl, hg⟩, b2⟩
  have b12 := b1.trans (b2.mono b1.size)
  obtain ⟨ag, cg, rfl⟩ := hg.shape
  have CG := Lib.hid hg.cells
  clear hg
  generalize rowB f bs bs.length = A at *
  generalize rowG f bs bs.length = G at *
  have hG : G.length ≤ 9223372036854775807 := by rw [HGL.out]; omega
  go_wp2_with fail
  with_reducible refine (Henc.out _).mono ?_
  rintro e w3 ⟨rfl, b3⟩
  go_wp2_with fail
  refine (scan_is SC.out (by rw [ByteArray.size_append, HEb.out]; omega) _).mono ?_
  rintro e w4 ⟨⟨v4, rfl, g4⟩, b4⟩
  have G4 := Lib.hid g4
  have b34 := b3.trans (b4.mono b3.size)
  clear g4 b3 b4
  go_wp2_with fail
  refine (same_yes _ _ G hG _ G4.out (CG.out.kept b34)).mono ?_
  rintro e w5 ⟨rfl, b5⟩
  have b35 := b34.trans (b5.mono b34.size)
  have b15 := b12.trans (b35.mono b12.size)
  go_wp2
  go_ret
  exact ⟨rfl, b15⟩

set_option maxHeartbeats 1600000 in
theorem order_skip (f : Nat) (v : Value) (bs : List ByteArray) (n : Nat) (hf : f ≤ 18446744073709551615) (hn : n ≤ 18446744073709551615) (hbs : bulkS bs ≤ 1048576) (w : World) (hs : SRow w v bs)
    (h : ((f : Int) == 0) = true ∨ (((f : Int) == 0) = false ∧ ((n : Int) == 0) = true) ∨ (((f : Int) == 0) = false ∧ ((n : Int) == 0) = false ∧ ((bs.length : Int) == 0) = true) ∨
      (((f : Int) == 0) = false ∧ ((n : Int) == 0) = false ∧ ((bs.length : Int) == 0) = false ∧ 18446744073709551615 < f + bs.length) ∨ (((f : Int) == 0) = false ∧ ((n : Int) == 0) = false ∧ ((bs.length : Int) == 0) = false ∧ f + bs.length ≤ 18446744073709551615 ∧ ((n : Int) == (f : Int) + (bs.length : Int)) = true)) :
    Calls Try.prog 9 #[.int .u64 f, v, .int .u64 n] w fun e w' => e = .returned (.bool true) ∧ Below w.heap.size w w' := by
  obtain ⟨ao, cp, rfl, hs⟩ := hs
  have HS := Lib.hid hs
  clear hs
  have hlen := bulkS_length bs
  have hwr : IntKind.u64.wrap (bs.length : Int) = (bs.length : Int) := by unfold IntKind.wrap; simp [IntKind.signed, IntKind.bits]; omega
  rcases h with h | ⟨h, h1⟩ | ⟨h, h1, h2⟩ | ⟨h, h1, h2, h3⟩ | ⟨h, h1, h2, h3, h4⟩
  · go_enter Try.func9, Try.ntmps9
    go_wp2_with fail
    refine (awake_any _).mono ?_
    rintro e w1 ⟨rfl, b1⟩
    go_wp2
    go_ret
    exact ⟨rfl, b1⟩
  · go_enter Try.func9, Try.ntmps9
    go_wp2_with fail
    refine (awake_any _).mono ?_
    rintro e w1 ⟨rfl, b1⟩
    go_wp2
    go_ret
    exact ⟨rfl, b1⟩
  · go_enter Try.func9, Try.ntmps9
    go_wp2_with fail
    refine (awake_any _).mono ?_
    rintro e w1 ⟨rfl, b1⟩
    go_wp2
    go_ret
    exact ⟨rfl, b1⟩
  · have hw2 : IntKind.u64.wrap ((f : Int) + (bs.length : Int)) = ((f + bs.length - 18446744073709551616 : Nat) : Int) := by unfold IntKind.wrap; simp [IntKind.signed, IntKind.bits]; omega
    have hlt : decide (((f + bs.length - 18446744073709551616 : Nat) : Int) < (f : Int)) = true := by rw [decide_eq_true_iff]; omega
    generalize ((f + bs.length - 18446744073709551616 : Nat) : Int) = z at hw2 hlt
    go_enter Try.func9, Try.ntmps9
    go_wp2_with fail
    refine (awake_any _).mono ?_
    rintro e w1 ⟨rfl, b1⟩
    go_wp2
    go_ret
    exact ⟨rfl, b1⟩
  · go_enter Try.func9, Try.ntmps9
    go_wp2_with fail
    refine (awake_any _).mono ?_
    rintro e w1 ⟨rfl, b1⟩
    go_wp2
    go_ret
    exact ⟨rfl, b1⟩

theorem frameOrder_walk (n0 : Int) (w0 : (Lit.int .u64 n0).wf = true) (v1 : Value) (bs : List ByteArray) (hbs : bulkS bs ≤ 1048576) (n2 : Int) (w2 : (Lit.int .u64 n2).wf = true) (w : World) (hs : SRow w v1 bs) :
    Calls Try.prog 9 #[.int .u64 n0, v1, .int .u64 n2] w fun e w' => e = .returned (.bool true) ∧ Below w.heap.size w w' := by
  have hb := bounds_u64 w0
  obtain ⟨f, rfl⟩ := Int.eq_ofNat_of_zero_le hb.1
  have hb2 := bounds_u64 w2
  obtain ⟨n, rfl⟩ := Int.eq_ofNat_of_zero_le hb2.1
  have hf : f ≤ 18446744073709551615 := by omega
  have hn : n ≤ 18446744073709551615 := by omega
  by_cases h0 : f = 0
  · exact order_skip f v1 bs n hf hn hbs w hs (.inl (by rw [beq_iff_eq]; omega))
  have h0' : ((f : Int) == 0) = false := by rw [beq_eq_false_iff_ne]; omega
  by_cases h1 : n = 0
  · exact order_skip f v1 bs n hf hn hbs w hs (.inr (.inl ⟨h0', by rw [beq_iff_eq]; omega⟩))
  have h1' : ((n : Int) == 0) = false := by rw [beq_eq_false_iff_ne]; omega
  by_cases h2 : bs = []
  · exact order_skip f v1 bs n hf hn hbs w hs (.inr (.inr (.inl ⟨h0', h1', by subst h2; rfl⟩)))
  have hpos : 0 < bs.length := List.length_pos_iff.2 h2
  have h2' : ((bs.length : Int) == 0) = false := by rw [beq_eq_false_iff_ne]; omega
  by_cases h3 : 18446744073709551615 < f + bs.length
  · exact order_skip f v1 bs n hf hn hbs w hs (.inr (.inr (.inr (.inl ⟨h0', h1', h2', h3⟩))))
  by_cases h4 : n = f + bs.length
  · exact order_skip f v1 bs n hf hn hbs w hs (.inr (.inr (.inr (.inr ⟨h0', h1', h2', by omega, by rw [beq_iff_eq]; omega⟩))))
  exact order_main f v1 bs h0 (by omega) h2 hbs n h1 hn h4 w hs

end Go.Proofs.Ytehggdflhjgkeaa
