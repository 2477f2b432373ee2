/- zeros; the walk of BlobSet. -/
import Derived.Test.YtgdebcpnihibjaaDoorBlobSure
namespace Go.Proofs.YtgdebcpnihibjaaDoor
open Go.ChangeShapes Go.WideShapes Go.ChangeAt Go.RowKit
set_option linter.unusedVariables false

theorem zeros_yes (a b : ByteArray) (ha : a.size ≤ 281474976710656) (h : Pl.Zeros a.data.toList b.data.toList) (w : World) :
    Calls Tryd.prog 29 #[.string a, .string b] w fun e w' => e = .returned (.bool true) ∧ w = w' := by
  obtain ⟨h1, h2, h3⟩ := h
  rw [len_toList, len_toList] at h1
  rw [len_toList] at h2
  have hx : a.extract 0 b.size = b := by
    rw [extract_str, h2, List.drop_zero, str_of]
  have hz : ∀ i, b.size ≤ i → (hi : i < a.size) → ((a[i].toNat : Int) != 0) = false := fun i h4 h5 => by
    have := h3 i (by rw [len_toList]; exact h4) (by rw [len_toList]; exact h5)
    rw [show a.data.toList.getD i 0 = a[i] from byteAt_eq a h5] at this
    exact byte_zero this
  have HZ := Lib.hid hz
  clear h2 h3 hz
  have hd : decide (a.size < b.size) = false := decide_eq_false (by omega)
  go_enter Tryd.func29, Tryd.ntmps29
  go_wp2_with fail
  go_loop [5] (fun i => ∃ k : Nat, b.size ≤ k ∧ k ≤ a.size ∧ i = .int .i64 k) (fun i => a.size - (intOf i).toNat)
  case atStart => exact ⟨b.size, Nat.le_refl _, h1, rfl⟩
  case round =>
    obtain ⟨k, hk1, hk2, rfl⟩ := hrel
    by_cases hlt : k < a.size
    · have hne := HZ.out k hk1 hlt
      go_wp2
      go_round
      case rel => exact ⟨k + 1, by omega, by omega, by go_num⟩
      case measure => simp [intOf]; omega
    · go_wp2
      go_ret
      exact ⟨rfl, rfl⟩

theorem bit_is (s : ByteArray) (hs : s.size ≤ 140737488351232) (A : Nat) (hA : A < 8388608) (w : World) :
    Calls Tryd.prog 17 #[.string s, .int .i64 A] w fun e w' => e = .returned (.tuple #[.int .i64 (Pl.bitL s.data.toList A), .int .i64 0]) ∧ w = w' := by
  by_cases hk : A / 8 < s.size
  · exact bit_in s hs A hA hk w
  · exact bit_out s hs A hA (by omega) w
/-- What the calls of one round give. -/
def SetFacts (s : ByteArray) (A B : Nat) (v : Int) (T K : ByteArray) (o y z : Int) : Prop :=
  (∀ W, Calls Tryd.prog 19 #[.string s, .int .i64 A, .int .i64 v] W fun e w' => e = .returned (.tuple #[.string T, .int .i64 o, .int .i64 0]) ∧ Below W.heap.size W w') ∧
  (∀ W, Calls Tryd.prog 17 #[.string T, .int .i64 A] W fun e w' => e = .returned (.tuple #[.int .i64 v, .int .i64 0]) ∧ W = w') ∧
  (∀ W, Calls Tryd.prog 17 #[.string T, .int .i64 B] W fun e w' => e = .returned (.tuple #[.int .i64 y, .int .i64 0]) ∧ W = w') ∧
  (∀ W, Calls Tryd.prog 17 #[.string s, .int .i64 B] W fun e w' => e = .returned (.tuple #[.int .i64 z, .int .i64 0]) ∧ W = w') ∧
  (∀ W, Calls Tryd.prog 19 #[.string T, .int .i64 A, .int .i64 o] W fun e w' => e = .returned (.tuple #[.string K, .int .i64 v, .int .i64 0]) ∧ Below W.heap.size W w') ∧
  (∀ W, Calls Tryd.prog 29 #[.string K, .string s] W fun e w' => e = .returned (.bool true) ∧ W = w') ∧
  (B ≠ A → y = z)
theorem set_facts (s : ByteArray) (hs : s.size ≤ 140737488351232) (A B : Nat) (hA : A ≤ 65536) (hB : B ≤ 65536) (v : Int) (hv : v = 0 ∨ v = 1) : ∃ T K o y z, SetFacts s A B v T K o y z := by
  by_cases hbig : s.size ≤ 10000
  · have hTs : (str (Pl.setL s.data.toList A v)).size ≤ 140737488351232 := by rw [str_size, Pl.setL_length, len_toList]; omega
    have ho : (Pl.bitL s.data.toList A : Int) = 0 ∨ (Pl.bitL s.data.toList A : Int) = 1 := by have := Pl.bitL_lt s.data.toList A; omega
    refine ⟨str (Pl.setL s.data.toList A v), str (Pl.padL s.data.toList (A / 8 + 1)), Pl.bitL s.data.toList A, Pl.bitL (Pl.setL s.data.toList A v) B, Pl.bitL s.data.toList B, fun W => set_ok s A v hs (by omega) hv W, fun W => ?_, fun W => bit_is _ hTs B (by omega) W, fun W => bit_is s hs B (by omega) W, fun W => ?_, fun W => zeros_yes _ _ ?_ (Pl.zeros_pad _ _) W, fun h => congrArg Nat.cast (Pl.bitL_set_far _ _ _ v hv h)⟩
    · have := bit_is _ hTs A (by omega) W
      rw [show ((Pl.bitL (str (Pl.setL s.data.toList A v)).data.toList A : Nat) : Int) = v from Pl.bitL_set _ _ v hv] at this
      exact this
    · have := set_ok (str (Pl.setL s.data.toList A v)) A (Pl.bitL s.data.toList A) hTs (by omega) ho W
      rw [show Pl.setL (str (Pl.setL s.data.toList A v)).data.toList A (Pl.bitL s.data.toList A) = Pl.padL s.data.toList (A / 8 + 1) from Pl.set_back _ _ v hv, show ((Pl.bitL (str (Pl.setL s.data.toList A v)).data.toList A : Nat) : Int) = v from Pl.bitL_set _ _ v hv] at this
      exact this
    · rw [str_size, Pl.padL, Pl.row_length, len_toList]; omega
  · have hsz : max s.data.toList.length (A / 8 + 1) = s.size := by rw [len_toList]; omega
    have hTs : (str (Pl.setL s.data.toList A v)).size ≤ 140737488351232 := by rw [str_size, Pl.setL_length, hsz]; exact hs
    have ho : (Pl.bitL s.data.toList A : Int) = 0 ∨ (Pl.bitL s.data.toList A : Int) = 1 := by have := Pl.bitL_lt s.data.toList A; omega
    refine ⟨str (Pl.setL s.data.toList A v), str (Pl.padL s.data.toList (A / 8 + 1)), Pl.bitL s.data.toList A, Pl.bitL (Pl.setL s.data.toList A v) B, Pl.bitL s.data.toList B, fun W => set_ok s A v hs (by omega) hv W, fun W => ?_, fun W => bit_is _ hTs B (by omega) W, fun W => bit_is s hs B (by omega) W, fun W => ?_, fun W => zeros_yes _ _ ?_ (Pl.zeros_pad _ _) W, fun h => congrArg Nat.cast (Pl.bitL_set_far _ _ _ v hv h)⟩
    · have := bit_is _ hTs A (by omega) W
      rw [show ((Pl.bitL (str (Pl.setL s.data.toList A v)).data.toList A : Nat) : Int) = v from Pl.bitL_set _ _ v hv] at this
      exact this
    · have := set_ok (str (Pl.setL s.data.toList A v)) A (Pl.bitL s.data.toList A) hTs (by omega) ho W
      rw [show Pl.setL (str (Pl.setL s.data.toList A v)).data.toList A (Pl.bitL s.data.toList A) = Pl.padL s.data.toList (A / 8 + 1) from Pl.set_back _ _ v hv, show ((Pl.bitL (str (Pl.setL s.data.toList A v)).data.toList A : Nat) : Int) = v from Pl.bitL_set _ _ v hv] at this
      exact this
    · rw [str_size, Pl.padL, Pl.row_length, hsz]; omega
theorem clamp (a : Int) : ∃ A : Nat, max 0 (min a 65536) = (A : Int) ∧ A ≤ 65536 := ⟨(max 0 (min a 65536)).toNat, by omega, by omega⟩
set_option maxRecDepth 100000 in
set_option maxHeartbeats 1600000 in
theorem blobSet_walk (s : ByteArray) (hs : s.size ≤ 140737488351232) (a : Int) (wa : (Lit.int .i64 a).wf = true) (b : Int) (wb : (Lit.int .i64 b).wf = true) (w : World) (h : Pows w) (hv : Sents w) :
    Calls Tryd.prog 9 #[.string s, .int .i64 a, .int .i64 b] w fun e w' => e = .returned (.bool true) ∧ Below w.heap.size w w' := by
  obtain ⟨A, hA, hA2⟩ := clamp a
  obtain ⟨B, hB, hB2⟩ := clamp b
  have H := Lib.hid h
  have HV := Lib.hid hv
  have F0 := Lib.hid (set_facts s hs A B hA2 hB2 0 (.inl rfl))
  have F1 := Lib.hid (set_facts s hs A B hA2 hB2 1 (.inr rfl))
  clear h hv
  go_enter Tryd.func9, Tryd.ntmps9
  go_wp2_with fail
  clear hA hB
  go_loopw [7] (fun i wr => ∃ k : Nat, k ≤ 2 ∧ i = .int .i64 k ∧ Below w.heap.size w wr) (fun i _ => 2 - (intOf i).toNat)
  case atStart => exact ⟨0, by omega, rfl, Below.refl _ _⟩
  case round =>
    obtain ⟨k, hk, rfl, hb⟩ := hrel
    rcases (show k = 0 ∨ k = 1 ∨ k = 2 by omega) with rfl | rfl | rfl
    · obtain ⟨T, K, o, y, z, c1, c2, c3, c4, c5, c6, c7⟩ := F0.out
      have C1 := Lib.hid c1
      have C2 := Lib.hid c2
      have C3 := Lib.hid c3
      have C4 := Lib.hid c4
      have C5 := Lib.hid c5
      have C6 := Lib.hid c6
      clear c1 c2 c3 c4 c5 c6
      by_cases hBA : B = A
      · clear c7
        subst hBA
        go_wp2_with fail
        ((with_reducible refine (C1.out _).mono ?_); rintro e w1 ⟨rfl, b1⟩)
        go_wp2_with fail
        ((with_reducible refine (C2.out _).mono ?_); rintro e w2 ⟨rfl, rfl⟩)
        go_wp2_with fail
        ((with_reducible refine (C3.out _).mono ?_); rintro e w2 ⟨rfl, rfl⟩)
        go_wp2_with fail
        ((with_reducible refine (C4.out _).mono ?_); rintro e w2 ⟨rfl, rfl⟩)
        go_wp2_with fail
        ((with_reducible refine (C5.out _).mono ?_); rintro e w2 ⟨rfl, b2⟩)
        go_wp2_with fail
        ((with_reducible refine (C6.out _).mono ?_); rintro e w3 ⟨rfl, rfl⟩)
        go_wp2
        go_roundw
        case rel => exact ⟨0 + 1, by omega, by go_num, (hb.trans (b1.mono hb.size)).trans (b2.mono (hb.trans (b1.mono hb.size)).size)⟩
        case measure => simp [intOf]
      · obtain rfl := c7 hBA
        have hne : ((B : Int) != (A : Int)) = true := by rw [bne_iff_ne]; omega
        clear hBA
        go_wp2_with fail
        ((with_reducible refine (C1.out _).mono ?_); rintro e w1 ⟨rfl, b1⟩)
        go_wp2_with fail
        ((with_reducible refine (C2.out _).mono ?_); rintro e w2 ⟨rfl, rfl⟩)
        go_wp2_with fail
        ((with_reducible refine (C3.out _).mono ?_); rintro e w2 ⟨rfl, rfl⟩)
        go_wp2_with fail
        ((with_reducible refine (C4.out _).mono ?_); rintro e w2 ⟨rfl, rfl⟩)
        go_wp2_with fail
        ((with_reducible refine (C5.out _).mono ?_); rintro e w2 ⟨rfl, b2⟩)
        go_wp2_with fail
        ((with_reducible refine (C6.out _).mono ?_); rintro e w3 ⟨rfl, rfl⟩)
        go_wp2
        go_roundw
        case rel => exact ⟨0 + 1, by omega, by go_num, (hb.trans (b1.mono hb.size)).trans (b2.mono (hb.trans (b1.mono hb.size)).size)⟩
        case measure => simp [intOf]
    · obtain ⟨T, K, o, y, z, c1, c2, c3, c4, c5, c6, c7⟩ := F1.out
      have C1 := Lib.hid c1
      have C2 := Lib.hid c2
      have C3 := Lib.hid c3
      have C4 := Lib.hid c4
      have C5 := Lib.hid c5
      have C6 := Lib.hid c6
      clear c1 c2 c3 c4 c5 c6
      by_cases hBA : B = A
      · clear c7
        subst hBA
        go_wp2_with fail
        ((with_reducible refine (C1.out _).mono ?_); rintro e w1 ⟨rfl, b1⟩)
        go_wp2_with fail
        ((with_reducible refine (C2.out _).mono ?_); rintro e w2 ⟨rfl, rfl⟩)
        go_wp2_with fail
        ((with_reducible refine (C3.out _).mono ?_); rintro e w2 ⟨rfl, rfl⟩)
        go_wp2_with fail
        ((with_reducible refine (C4.out _).mono ?_); rintro e w2 ⟨rfl, rfl⟩)
        go_wp2_with fail
        ((with_reducible refine (C5.out _).mono ?_); rintro e w2 ⟨rfl, b2⟩)
        go_wp2_with fail
        ((with_reducible refine (C6.out _).mono ?_); rintro e w3 ⟨rfl, rfl⟩)
        go_wp2
        go_roundw
        case rel => exact ⟨1 + 1, by omega, by go_num, (hb.trans (b1.mono hb.size)).trans (b2.mono (hb.trans (b1.mono hb.size)).size)⟩
        case measure => simp [intOf]
      · obtain rfl := c7 hBA
        have hne : ((B : Int) != (A : Int)) = true := by rw [bne_iff_ne]; omega
        clear hBA
        go_wp2_with fail
        ((with_reducible refine (C1.out _).mono ?_); rintro e w1 ⟨rfl, b1⟩)
        go_wp2_with fail
        ((with_reducible refine (C2.out _).mono ?_); rintro e w2 ⟨rfl, rfl⟩)
        go_wp2_with fail
        ((with_reducible refine (C3.out _).mono ?_); rintro e w2 ⟨rfl, rfl⟩)
        go_wp2_with fail
        ((with_reducible refine (C4.out _).mono ?_); rintro e w2 ⟨rfl, rfl⟩)
        go_wp2_with fail
        ((with_reducible refine (C5.out _).mono ?_); rintro e w2 ⟨rfl, b2⟩)
        go_wp2_with fail
        ((with_reducible refine (C6.out _).mono ?_); rintro e w3 ⟨rfl, rfl⟩)
        go_wp2
        go_roundw
        case rel => exact ⟨1 + 1, by omega, by go_num, (hb.trans (b1.mono hb.size)).trans (b2.mono (hb.trans (b1.mono hb.size)).size)⟩
        case measure => simp [intOf]
    · go_wp2_with fail
      ((with_reducible refine (sure_any _ (H.out.kept (B := 0) hb) (HV.out.kept hb)).mono ?_); rintro e w4 ⟨rfl, b4⟩)
      go_wp2
      go_ret
      exact ⟨rfl, hb.trans (b4.mono hb.size)⟩
end Go.Proofs.YtgdebcpnihibjaaDoor
