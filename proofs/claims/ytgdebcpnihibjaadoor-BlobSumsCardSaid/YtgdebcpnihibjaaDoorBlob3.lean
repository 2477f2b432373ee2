/- The walks of the bits. -/
import Derived.Test.YtgdebcpnihibjaaDoorBlob2
namespace Go.Proofs.YtgdebcpnihibjaaDoor
open Go.ChangeShapes Go.WideShapes Go.ChangeAt Go.RowKit
set_option linter.unusedVariables false

theorem refbit_out (s : ByteArray) (hs : s.size ≤ 140737488351232) (i : Nat) (hi : i ≤ 1125899906842624) (h : s.size ≤ i / 8) (w : World) :
    Calls Tryd.prog 34 #[.string s, .int .i64 i] w fun e w' => e = .returned (.int .i64 (Pl.bitL s.data.toList i)) ∧ w = w' := by
  rw [Pl.bitL_out (by rw [len_toList]; exact h)]
  go_enter Tryd.func34, Tryd.ntmps34
  go_wp2
  go_ret
  exact ⟨rfl, rfl⟩
theorem bit_all : ∀ (r : Fin 8) (n : Fin 256), bits BinOp.and IntKind.i64 (wrap64 ((n.val : Int) / 2 ^ (7 - r.val))) 1 = ((n.val / 2 ^ (7 - r.val) % 2 : Nat) : Int) := by decide +kernel
theorem bit_val (c : UInt8) (r : Nat) (hr : r < 8) : bits BinOp.and IntKind.i64 (wrap64 ((c.toNat : Int) / 2 ^ (7 - r))) 1 = (Pl.bt c r : Int) := bit_all ⟨r, hr⟩ ⟨c.toNat, c.toNat_lt⟩
theorem bitL_at (s : ByteArray) (i : Nat) (h : i / 8 < s.size) : Pl.bitL s.data.toList i = Pl.bt s[i / 8] (i % 8) := by
  unfold Pl.bitL
  rw [show s.data.toList.getD (i / 8) 0 = byteAt s (i / 8) from rfl, byteAt_eq s h]
theorem refbit_in (s : ByteArray) (hs : s.size ≤ 140737488351232) (i : Nat) (hi : i ≤ 1125899906842624) (h : i / 8 < s.size) (w : World) :
    Calls Tryd.prog 34 #[.string s, .int .i64 i] w fun e w' => e = .returned (.int .i64 (Pl.bitL s.data.toList i)) ∧ w = w' := by
  have E : Hid (bits BinOp.and IntKind.i64 (wrap64 ((s[i / 8].toNat : Int) / 2 ^ (7 - i % 8))) 1 = (Pl.bitL s.data.toList i : Int)) := by
    show _ = _
    rw [bitL_at s i h]; exact bit_val _ _ (Nat.mod_lt _ (by omega))
  go_enter Tryd.func34, Tryd.ntmps34
  go_wp2_with fail
  go_ret
  exact ⟨congrArg (fun x => Ending.returned (.int .i64 x)) E.out, rfl⟩
theorem refbit_any (s : ByteArray) (hs : s.size ≤ 140737488351232) (i : Nat) (hi : i ≤ 1125899906842624) (w : World) :
    Calls Tryd.prog 34 #[.string s, .int .i64 i] w fun e w' => e = .returned (.int .i64 (Pl.bitL s.data.toList i)) ∧ w = w' := by
  by_cases h : i / 8 < s.size
  · exact refbit_in s hs i hi h w
  · exact refbit_out s hs i hi (by omega) w
theorem place_yes (a : Int) (h0 : 0 ≤ a) (h1 : a < 8388608) (w : World) : Calls Tryd.prog 33 #[.int .i64 a] w fun e w' => e = .returned (.bool true) ∧ w = w' := by
  have h2 : decide (0 ≤ a) = true := decide_eq_true h0
  go_enter Tryd.func33, Tryd.ntmps33
  go_wp2
  go_ret
  exact ⟨by simp, rfl⟩
theorem place_no (a : Int) (h : a < 0 ∨ 8388608 ≤ a) (w : World) : Calls Tryd.prog 33 #[.int .i64 a] w fun e w' => e = .returned (.bool false) ∧ w = w' := by
  by_cases h0 : a < 0
  · have h2 : decide (0 ≤ a) = false := decide_eq_false (by omega)
    go_enter Tryd.func33, Tryd.ntmps33
    go_wp2
    go_ret
    exact ⟨rfl, rfl⟩
  · have h2 : decide (0 ≤ a) = true := decide_eq_true (by omega)
    have h3 : decide (a < 8388608) = false := decide_eq_false (by omega)
    go_enter Tryd.func33, Tryd.ntmps33
    go_wp2
    go_ret
    exact ⟨rfl, rfl⟩
/-- What Bit gives. -/
def bitOk (a : Int) : Bool := decide (0 ≤ a ∧ a < 8388608)
def bitV (s : ByteArray) (a : Int) : Int := if bitOk a then (Pl.bitL s.data.toList a.toNat : Int) else 0
def bitE (a : Int) : Int := if bitOk a then 0 else 80
theorem bit_out (s : ByteArray) (hs : s.size ≤ 140737488351232) (i : Nat) (hi : i < 8388608) (h : s.size ≤ i / 8) (w : World) :
    Calls Tryd.prog 17 #[.string s, .int .i64 i] w fun e w' => e = .returned (.tuple #[.int .i64 (Pl.bitL s.data.toList i), .int .i64 0]) ∧ w = w' := by
  rw [Pl.bitL_out (by rw [len_toList]; exact h)]
  go_enter Tryd.func17, Tryd.ntmps17
  go_wp2_with fail
  ((with_reducible refine (place_yes _ (by omega) (by omega) _).mono ?_); rintro e w1 ⟨rfl, rfl⟩)
  go_wp2
  go_ret2
  exact ⟨rfl, rfl⟩
theorem bit_in (s : ByteArray) (hs : s.size ≤ 140737488351232) (i : Nat) (hi : i < 8388608) (h : i / 8 < s.size) (w : World) :
    Calls Tryd.prog 17 #[.string s, .int .i64 i] w fun e w' => e = .returned (.tuple #[.int .i64 (Pl.bitL s.data.toList i), .int .i64 0]) ∧ w = w' := by
  have E : Hid (bits BinOp.and IntKind.i64 (wrap64 ((s[i / 8].toNat : Int) / 2 ^ (7 - i % 8))) 1 = (Pl.bitL s.data.toList i : Int)) := by
    show _ = _
    rw [bitL_at s i h]; exact bit_val _ _ (Nat.mod_lt _ (by omega))
  go_enter Tryd.func17, Tryd.ntmps17
  go_wp2_with fail
  ((with_reducible refine (place_yes _ (by omega) (by omega) _).mono ?_); rintro e w1 ⟨rfl, rfl⟩)
  go_wp2
  go_ret2
  exact ⟨congrArg (fun x => Ending.returned (.tuple #[.int .i64 x, .int .i64 0])) E.out, rfl⟩
theorem bit_bad (s : ByteArray) (a : Int) (h : a < 0 ∨ 8388608 ≤ a) (w : World) :
    Calls Tryd.prog 17 #[.string s, .int .i64 a] w fun e w' => e = .returned (.tuple #[.int .i64 0, .int .i64 80]) ∧ w = w' := by
  go_enter Tryd.func17, Tryd.ntmps17
  go_wp2_with fail
  ((with_reducible refine (place_no _ h _).mono ?_); rintro e w1 ⟨rfl, rfl⟩)
  go_wp2
  go_ret2
  exact ⟨rfl, rfl⟩
theorem refBit_ok (s : ByteArray) (hs : s.size ≤ 140737488351232) (i : Nat) (hi : i < 8388608) (w : World) :
    Calls Tryd.prog 18 #[.string s, .int .i64 i] w fun e w' => e = .returned (.tuple #[.int .i64 (Pl.bitL s.data.toList i), .int .i64 0]) ∧ w = w' := by
  go_enter Tryd.func18, Tryd.ntmps18
  go_wp2_with fail
  ((with_reducible refine (refbit_any s hs i (by omega) _).mono ?_); rintro e w1 ⟨rfl, rfl⟩)
  go_wp2
  go_ret2
  exact ⟨rfl, rfl⟩
theorem refBit_bad (s : ByteArray) (a : Int) (h : a < 0 ∨ 8388608 ≤ a) (w : World) :
    Calls Tryd.prog 18 #[.string s, .int .i64 a] w fun e w' => e = .returned (.tuple #[.int .i64 0, .int .i64 80]) ∧ w = w' := by
  by_cases h0 : a < 0
  · go_enter Tryd.func18, Tryd.ntmps18
    go_wp2
    go_ret2
    exact ⟨rfl, rfl⟩
  · have h3 : 8388608 ≤ a := by omega
    clear h
    go_enter Tryd.func18, Tryd.ntmps18
    go_wp2
    go_ret2
    exact ⟨rfl, rfl⟩
def BitEnd (s : ByteArray) (a : Int) (w : World) (e : Ending) (w' : World) : Prop := e = .returned (.tuple #[.int .i64 (bitV s a), .int .i64 (bitE a)]) ∧ w = w'
theorem bit_any (s : ByteArray) (hs : s.size ≤ 140737488351232) (a : Int) (w : World) :
    Calls Tryd.prog 17 #[.string s, .int .i64 a] w (BitEnd s a w) ∧ Calls Tryd.prog 18 #[.string s, .int .i64 a] w (BitEnd s a w) := by
  by_cases h : 0 ≤ a ∧ a < 8388608
  · have e : bitOk a = true := decide_eq_true h
    obtain ⟨k, rfl⟩ := Int.eq_ofNat_of_zero_le h.1
    have hv : bitV s k = (Pl.bitL s.data.toList k : Int) := by unfold bitV; rw [e, if_pos rfl, Int.toNat_natCast]
    have he : bitE k = 0 := by unfold bitE; rw [e]; rfl
    unfold BitEnd
    rw [hv, he]
    refine ⟨?_, refBit_ok s hs k (by omega) w⟩
    by_cases hk : k / 8 < s.size
    · exact bit_in s hs k (by omega) hk w
    · exact bit_out s hs k (by omega) (by omega) w
  · have e : bitOk a = false := decide_eq_false h
    have h' : a < 0 ∨ 8388608 ≤ a := by omega
    have hv : bitV s a = 0 := by unfold bitV; rw [e]; rfl
    have he : bitE a = 80 := by unfold bitE; rw [e]; rfl
    unfold BitEnd
    rw [hv, he]
    exact ⟨bit_bad s a h' w, refBit_bad s a h' w⟩

/-! SetBit -/
theorem set_bad (s : ByteArray) (a v : Int) (h : a < 0 ∨ 8388608 ≤ a) (w : World) :
    Calls Tryd.prog 19 #[.string s, .int .i64 a, .int .i64 v] w fun e w' => e = .returned (.tuple #[.string (str []), .int .i64 0, .int .i64 80]) ∧ w = w' := by
  go_enter Tryd.func19, Tryd.ntmps19
  go_wp2_with fail
  ((with_reducible refine (place_no _ h _).mono ?_); rintro e w1 ⟨rfl, rfl⟩)
  go_wp2
  go_ret3
  exact ⟨rfl, rfl⟩
theorem set_not (s : ByteArray) (a v : Int) (h : 0 ≤ a) (h1 : a < 8388608) (hv0 : (v != 0) = true) (hv1 : (v != 1) = true) (w : World) :
    Calls Tryd.prog 19 #[.string s, .int .i64 a, .int .i64 v] w fun e w' => e = .returned (.tuple #[.string (str []), .int .i64 0, .int .i64 80]) ∧ w = w' := by
  go_enter Tryd.func19, Tryd.ntmps19
  go_wp2_with fail
  ((with_reducible refine (place_yes _ (by omega) (by omega) _).mono ?_); rintro e w1 ⟨rfl, rfl⟩)
  go_wp2
  go_ret3
  exact ⟨rfl, rfl⟩
theorem set0_all : ∀ (r : Fin 8) (n : Fin 256), bits BinOp.andNot IntKind.u8 (n.val : Int) (2 ^ (7 - r.val) % 256) = ((Pl.setB (UInt8.ofNat n.val) r.val 0).toNat : Int) := by decide +kernel
theorem set0_val (c : UInt8) (r : Nat) (hr : r < 8) : bits BinOp.andNot IntKind.u8 (c.toNat : Int) (2 ^ (7 - r) % 256) = ((Pl.setB c r 0).toNat : Int) := by
  have := set0_all ⟨r, hr⟩ ⟨c.toNat, c.toNat_lt⟩
  simpa using this
theorem set1_all : ∀ (r : Fin 8) (n : Fin 256), bits BinOp.or IntKind.u8 ((Pl.setB (UInt8.ofNat n.val) r.val 0).toNat : Int) (2 ^ (7 - r.val) % 256) = ((Pl.setB (UInt8.ofNat n.val) r.val 1).toNat : Int) := by decide +kernel
theorem set1_val (c : UInt8) (r : Nat) (hr : r < 8) : bits BinOp.or IntKind.u8 (bits BinOp.andNot IntKind.u8 (c.toNat : Int) (2 ^ (7 - r) % 256)) (2 ^ (7 - r) % 256) = ((Pl.setB c r 1).toNat : Int) := by
  rw [set0_val c r hr]
  have := set1_all ⟨r, hr⟩ ⟨c.toNat, c.toNat_lt⟩
  simpa using this
theorem setRow0 {w : World} {g n a : Nat} {s : ByteArray} (h : BRow w g n (byteAt s)) : BRow (w.setCell ⟨g, a / 8, none⟩ (.int .u8 (bits BinOp.andNot IntKind.u8 ((byteAt s (a / 8)).toNat : Int) (2 ^ (7 - a % 8) % 256)))) g n (Pl.setF s.data.toList a 0) := by
  rw [set0_val _ _ (Nat.mod_lt _ (by omega))]
  refine (h.set (a / 8) (Pl.setB (byteAt s (a / 8)) (a % 8) 0)).congr fun i _ => ?_
  unfold Pl.setF
  split
  · next e => rw [e]; rfl
  · rfl
theorem setRow1 {w : World} {g n a : Nat} {s : ByteArray} (h : BRow w g n (byteAt s)) : BRow ((w.setCell ⟨g, a / 8, none⟩ (.int .u8 (bits BinOp.andNot IntKind.u8 ((byteAt s (a / 8)).toNat : Int) (2 ^ (7 - a % 8) % 256)))).setCell ⟨g, a / 8, none⟩ (.int .u8 (bits BinOp.or IntKind.u8 (bits BinOp.andNot IntKind.u8 ((byteAt s (a / 8)).toNat : Int) (2 ^ (7 - a % 8) % 256)) (2 ^ (7 - a % 8) % 256)))) g n (Pl.setF s.data.toList a 1) := by
  rw [set1_val _ _ (Nat.mod_lt _ (by omega))]
  refine ((setRow0 (a := a) h).set (a / 8) (Pl.setB (byteAt s (a / 8)) (a % 8) 1)).congr fun i _ => ?_
  unfold Pl.setF
  split
  · next e => rw [e]; rfl
  · rfl
theorem set_row {s : ByteArray} {a n : Nat} {v : Int} (h : max s.size (a / 8 + 1) = n) : (List.range n).map (Pl.setF s.data.toList a v) = Pl.setL s.data.toList a v := by
  unfold Pl.setL
  rw [len_toList, h]; rfl
set_option maxRecDepth 100000 in
theorem set_ok (s : ByteArray) (a : Nat) (v : Int) (hs : s.size ≤ 140737488351232) (h1 : a < 8388608) (hv : v = 0 ∨ v = 1) (w : World) :
    Calls Tryd.prog 19 #[.string s, .int .i64 a, .int .i64 v] w fun e w' => e = .returned (.tuple #[.string (str (Pl.setL s.data.toList a v)), .int .i64 (Pl.bitL s.data.toList a), .int .i64 0]) ∧ Below w.heap.size w w' := by
  have hB := fun W => (bit_any s hs a W).1
  unfold BitEnd at hB
  rw [show bitV s a = (Pl.bitL s.data.toList a : Int) by unfold bitV; rw [show bitOk a = true from decide_eq_true (by omega), if_pos rfl, Int.toNat_natCast], show bitE a = 0 by unfold bitE; rw [show bitOk a = true from decide_eq_true (by omega), if_pos rfl]] at hB
  have HB := Lib.hid hB
  clear hB
  obtain ⟨n, hn⟩ : ∃ n, max s.size (a / 8 + 1) = n := ⟨_, rfl⟩
  have hm1 : s.size ≤ n := by omega
  have hm2 : a / 8 + 1 ≤ n := by omega
  have hm3 : n ≤ s.size ∨ n ≤ a / 8 + 1 := by omega
  have HN := Lib.hid hn
  clear hn
  rcases hv with rfl | rfl
  · go_enter Tryd.func19, Tryd.ntmps19
    go_wp2_with fail
    ((with_reducible refine (place_yes _ (by omega) (by omega) _).mono ?_); rintro e w1 ⟨rfl, rfl⟩)
    go_wp2_with fail
    ((with_reducible refine (HB.out _).mono ?_); rintro e w1 ⟨rfl, rfl⟩)
    go_wp2_with (first
      | (refine wpList_make_bytes rfl (.tmp 35) (.tmp 35) _ rfl Tryd.underlying54 _ _ _ rfl rfl n ?_ ?_ ?_; (omega); (omega); intro w1 hr1 hz1 hb1)
      | (refine wpList_copy_text rfl (.tmp 37) (.tmp 38) _ _ rfl _ Tryd.underlying54 u8size _ _ _ _ n s _ hr1 rfl rfl ?_ ?_ ?_; (omega); (omega); intro w2 hr2' hz2 hb2; have hr2 := hr2'.congr fun i _ => layO_zero s i; clear hr2'; have hc := BRow.cell hr2 (show a / 8 < n by omega); have hf := BRow.frozen hr2 (show a / 8 < n by omega); have hcv := (setRow0 (a := a) hr2).string (P := Tryd.prog) 54 5 Tryd.underlying54 Tryd.underlying5 n Tryd.underlying9; rw [set_row HN.out] at hcv))
    all_goals
      go_ret3
      exact ⟨rfl, Below.setCell (hb2 _ _ (hb1 _ _ (Below.refl _ _) (Nat.le_refl _)) (Nat.le_refl _)) (Nat.le_refl _) _⟩
  · go_enter Tryd.func19, Tryd.ntmps19
    go_wp2_with fail
    ((with_reducible refine (place_yes _ (by omega) (by omega) _).mono ?_); rintro e w1 ⟨rfl, rfl⟩)
    go_wp2_with fail
    ((with_reducible refine (HB.out _).mono ?_); rintro e w1 ⟨rfl, rfl⟩)
    go_wp2_with (first
      | (refine wpList_make_bytes rfl (.tmp 35) (.tmp 35) _ rfl Tryd.underlying54 _ _ _ rfl rfl n ?_ ?_ ?_; (omega); (omega); intro w1 hr1 hz1 hb1)
      | (refine wpList_copy_text rfl (.tmp 37) (.tmp 38) _ _ rfl _ Tryd.underlying54 u8size _ _ _ _ n s _ hr1 rfl rfl ?_ ?_ ?_; (omega); (omega); intro w2 hr2' hz2 hb2; have hr2 := hr2'.congr fun i _ => layO_zero s i; clear hr2'; have hc := BRow.cell hr2 (show a / 8 < n by omega); have hf := BRow.frozen hr2 (show a / 8 < n by omega); have hcv := (setRow1 (a := a) hr2).string (P := Tryd.prog) 54 5 Tryd.underlying54 Tryd.underlying5 n Tryd.underlying9; rw [set_row HN.out] at hcv))
    all_goals
      go_ret3
      exact ⟨rfl, Below.setCell (Below.setCell (hb2 _ _ (hb1 _ _ (Below.refl _ _) (Nat.le_refl _)) (Nat.le_refl _)) (Nat.le_refl _) _) (Nat.le_refl _) _⟩
end Go.Proofs.YtgdebcpnihibjaaDoor
