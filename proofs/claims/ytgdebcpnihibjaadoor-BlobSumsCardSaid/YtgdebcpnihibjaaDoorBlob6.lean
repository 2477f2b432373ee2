/- The walks of First. -/
import Derived.Test.YtgdebcpnihibjaaDoorBlob5
namespace Go.Proofs.YtgdebcpnihibjaaDoor
open Go.ChangeShapes Go.WideShapes Go.ChangeAt Go.RowKit
set_option linter.unusedVariables false

def firstA (s : ByteArray) (f t : Int) : Nat := (Pl.pfrom s.size f t).toNat
def firstB (s : ByteArray) (f t : Int) : Nat := (Pl.pto s.size f t).toNat
def FirstEnd (s : ByteArray) (v : Nat) (f t : Int) (w : World) (e : Ending) (w' : World) : Prop :=
  ∃ x : Int, e = .returned (.tuple #[.int .i64 x, .int .i64 0]) ∧ Pl.IsFirst s.data.toList v (8 * firstA s f t) (8 * firstB s f t) x ∧ w = w'
theorem first_nat {s : ByteArray} {f t : Int} {F T : Nat} (hF : Pl.pfrom s.size f t = (F : Int)) (hT : Pl.pto s.size f t = (T : Int)) : firstA s f t = F ∧ firstB s f t = T := by
  unfold firstA firstB
  rw [hF, hT]; exact ⟨rfl, rfl⟩
theorem xor_all : ∀ n : Fin 256, bits BinOp.xor IntKind.u8 (if IntKind.u8.signed = true then -1 else IntKind.u8.max) (n.val : Int) = ((~~~ UInt8.ofNat n.val).toNat : Int) := by decide +kernel
theorem xor_val (c : UInt8) : bits BinOp.xor IntKind.u8 (if IntKind.u8.signed = true then -1 else IntKind.u8.max) (c.toNat : Int) = ((~~~ c).toNat : Int) := by
  have := xor_all ⟨c.toNat, c.toNat_lt⟩
  simpa using this
theorem byte_zero {c : UInt8} (h : c = 0) : ((c.toNat : Int) != 0) = false := by rw [h]; rfl
theorem byte_pos {c : UInt8} (h : c ≠ 0) : ((c.toNat : Int) != 0) = true := by
  rw [bne_iff_ne]
  intro e
  exact h (UInt8.toNat_inj.1 (by simpa using e))
def NoBit (l : List UInt8) (v a b : Nat) : Prop := ∀ i, a ≤ i → i < b → Pl.bitL l i ≠ v
theorem NoBit.nil (l : List UInt8) (v a : Nat) : NoBit l v a a := fun i h1 h2 => by omega
theorem NoBit.step {l : List UInt8} {v a b : Nat} (h : NoBit l v a b) (hb : Pl.bitL l b ≠ v) : NoBit l v a (b + 1) := fun i h1 h2 => by
  by_cases e : i = b
  · rw [e]; exact hb
  · exact h i h1 (by omega)
theorem NoBit.byte {l : List UInt8} {v a k : Nat} (hv : v < 2) (h : NoBit l v a (8 * k)) (hb : Pl.asOne v (l.getD k 0) = 0) : NoBit l v a (8 * (k + 1)) := fun i h1 h2 => by
  by_cases e : i < 8 * k
  · exact h i h1 e
  · exact Pl.none_in hv hb i (by omega)
theorem NoBit.none {l : List UInt8} {v a b : Nat} (h : NoBit l v a b) : Pl.IsFirst l v a b (-1) := .inl ⟨rfl, h⟩
theorem NoBit.one {l : List UInt8} {v a b i : Nat} (h : NoBit l v a i) (h1 : a ≤ i) (h2 : i < b) (hv : Pl.bitL l i = v) : Pl.IsFirst l v a b i := .inr ⟨i, rfl, h1, h2, hv, h⟩

theorem refFirst_0 (s : ByteArray) (hn : s.size ≤ 140737488351232) (f t : Int) (f1 : -9223372036854775808 ≤ f) (f2 : f ≤ 9223372036854775807) (t1 : -9223372036854775808 ≤ t) (t2 : t ≤ 9223372036854775807) (w : World) :
    Calls Tryd.prog 22 #[.string s, .int .i64 0, .int .i64 f, .int .i64 t] w (FirstEnd s 0 f t w) := by
  have hp := refPlaces_any s.size (by omega) f t f1 f2 t1 t2 w
  obtain ⟨F, T, h1, h2, hF, hT⟩ := places_nat s.size f t
  rw [hF, hT] at hp
  unfold FirstEnd
  rw [(first_nat hF hT).1, (first_nat hF hT).2]
  clear hF hT
  have HP := Lib.hid hp
  clear hp
  go_enter Tryd.func22, Tryd.ntmps22
  go_wp2_with fail
  ((with_reducible refine HP.out.mono ?_); rintro e w2 ⟨rfl, rfl⟩)
  go_wp2_with fail
  go_loop [12] (fun i => ∃ k : Nat, 8 * F ≤ k ∧ k ≤ 8 * T ∧ i = .int .i64 k ∧ NoBit s.data.toList 0 (8 * F) k) (fun i => 8 * T - (intOf i).toNat)
  case atStart => exact ⟨8 * F, by omega, by omega, by go_num, NoBit.nil _ _ _⟩
  case round =>
    obtain ⟨k, hk1, hk2, rfl, hno⟩ := hrel
    by_cases hlt : k < 8 * T
    · by_cases hb : Pl.bitL s.data.toList k = 0
      · have hone := hno.one hk1 hlt hb
        have HO := Lib.hid hone
        have hbb := congrArg (Nat.cast (R := Int)) hb
        have hdec : ((Pl.bitL s.data.toList k : Int) == 0) = true := by rw [hbb]; rfl
        clear hone hbb
        have HB := Lib.hid hb
        clear hb
        go_wp2_with fail
        ((with_reducible refine (refbit_any s hn k (by omega) _).mono ?_); rintro e w3 ⟨rfl, rfl⟩)
        go_wp2
        go_ret2
        exact ⟨_, rfl, HO.out, rfl⟩
      · have hstep := hno.step hb
        have hdec : ((Pl.bitL s.data.toList k : Int) == 0) = false := by rw [beq_eq_false_iff_ne]; omega
        clear hb
        go_wp2_with fail
        ((with_reducible refine (refbit_any s hn k (by omega) _).mono ?_); rintro e w3 ⟨rfl, rfl⟩)
        go_wp2
        go_round
        case rel => exact ⟨k + 1, by omega, by omega, by go_num, hstep⟩
        case measure => simp [intOf]; omega
    · obtain rfl : k = 8 * T := by omega
      go_wp2
      go_ret2
      exact ⟨_, rfl, hno.none, rfl⟩
theorem first_0 (s : ByteArray) (hn : s.size ≤ 140737488351232) (f t : Int) (f1 : -9223372036854775808 ≤ f) (f2 : f ≤ 9223372036854775807) (t1 : -9223372036854775808 ≤ t) (t2 : t ≤ 9223372036854775807) (w : World) :
    Calls Tryd.prog 21 #[.string s, .int .i64 0, .int .i64 f, .int .i64 t] w (FirstEnd s 0 f t w) := by
  have hp := places_any s.size (by omega) f t f1 f2 t1 t2 w
  obtain ⟨F, T, h1, h2, hF, hT⟩ := places_nat s.size f t
  rw [hF, hT] at hp
  unfold FirstEnd
  rw [(first_nat hF hT).1, (first_nat hF hT).2]
  clear hF hT
  have HP := Lib.hid hp
  clear hp
  go_enter Tryd.func21, Tryd.ntmps21
  go_wp2_with fail
  ((with_reducible refine HP.out.mono ?_); rintro e w2 ⟨rfl, rfl⟩)
  go_wp2_with fail
  go_loop [12, 13] (fun i c => ∃ k : Nat, F ≤ k ∧ k ≤ T ∧ i = .int .i64 k ∧ NoBit s.data.toList 0 (8 * F) (8 * k)) (fun i _ => T - (intOf i).toNat)
  case atStart => exact ⟨F, by omega, by omega, by go_num, NoBit.nil _ _ _⟩
  case round =>
    obtain ⟨k, hk1, hk2, rfl, hno⟩ := hrel
    by_cases hlt : k < T
    · have hks : k < s.size := by omega
      by_cases hb : Pl.asOne 0 (s.data.toList.getD k 0) = 0
      · have hg : s.data.toList.getD k 0 = s[k] := byteAt_eq s hks
        have hstep := hno.byte (by omega) hb
        rw [hg] at hb
        have hx := xor_val s[k]
        have hb' : ~~~ s[k] = 0 := hb
        obtain ⟨c, hc⟩ : ∃ c, ~~~ s[k] = c := ⟨_, rfl⟩
        rw [hc] at hb' hx
        have hne := byte_zero hb'
        clear hb hg hb' hc
        go_wp2
        go_round
        case rel => exact ⟨k + 1, by omega, by omega, by go_num, hstep⟩
        case measure => simp [intOf]; omega
      · have hg : s.data.toList.getD k 0 = s[k] := byteAt_eq s hks
        have hone := Lib.hid (Pl.first_in (by omega) hk1 hlt hno hb)
        rw [hg] at hb hone
        have hx := xor_val s[k]
        have hb' : ~~~ s[k] ≠ 0 := hb
        obtain ⟨c, hc⟩ : ∃ c, ~~~ s[k] = c := ⟨_, rfl⟩
        rw [show Pl.asOne 0 s[k] = ~~~ s[k] from rfl, hc] at hone
        rw [hc] at hb' hx
        have hne := byte_pos hb'
        have hl := (Pl.lz_ok c hb').1
        clear hb hg hb' hc
        go_wp2_with fail
        ((with_reducible refine (lz1 c _).mono ?_); rintro e w3 ⟨rfl, rfl⟩)
        go_wp2
        go_ret2
        exact ⟨_, rfl, hone.out, rfl⟩
    · obtain rfl : k = T := by omega
      go_wp2
      go_ret2
      exact ⟨_, rfl, hno.none, rfl⟩

theorem refFirst_1 (s : ByteArray) (hn : s.size ≤ 140737488351232) (f t : Int) (f1 : -9223372036854775808 ≤ f) (f2 : f ≤ 9223372036854775807) (t1 : -9223372036854775808 ≤ t) (t2 : t ≤ 9223372036854775807) (w : World) :
    Calls Tryd.prog 22 #[.string s, .int .i64 1, .int .i64 f, .int .i64 t] w (FirstEnd s 1 f t w) := by
  have hp := refPlaces_any s.size (by omega) f t f1 f2 t1 t2 w
  obtain ⟨F, T, h1, h2, hF, hT⟩ := places_nat s.size f t
  rw [hF, hT] at hp
  unfold FirstEnd
  rw [(first_nat hF hT).1, (first_nat hF hT).2]
  clear hF hT
  have HP := Lib.hid hp
  clear hp
  go_enter Tryd.func22, Tryd.ntmps22
  go_wp2_with fail
  ((with_reducible refine HP.out.mono ?_); rintro e w2 ⟨rfl, rfl⟩)
  go_wp2_with fail
  go_loop [12] (fun i => ∃ k : Nat, 8 * F ≤ k ∧ k ≤ 8 * T ∧ i = .int .i64 k ∧ NoBit s.data.toList 1 (8 * F) k) (fun i => 8 * T - (intOf i).toNat)
  case atStart => exact ⟨8 * F, by omega, by omega, by go_num, NoBit.nil _ _ _⟩
  case round =>
    obtain ⟨k, hk1, hk2, rfl, hno⟩ := hrel
    by_cases hlt : k < 8 * T
    · by_cases hb : Pl.bitL s.data.toList k = 1
      · have hone := hno.one hk1 hlt hb
        have HO := Lib.hid hone
        have hbb := congrArg (Nat.cast (R := Int)) hb
        have hdec : ((Pl.bitL s.data.toList k : Int) == 1) = true := by rw [hbb]; rfl
        clear hone hbb
        have HB := Lib.hid hb
        clear hb
        go_wp2_with fail
        ((with_reducible refine (refbit_any s hn k (by omega) _).mono ?_); rintro e w3 ⟨rfl, rfl⟩)
        go_wp2
        go_ret2
        exact ⟨_, rfl, HO.out, rfl⟩
      · have hstep := hno.step hb
        have hdec : ((Pl.bitL s.data.toList k : Int) == 1) = false := by rw [beq_eq_false_iff_ne]; omega
        clear hb
        go_wp2_with fail
        ((with_reducible refine (refbit_any s hn k (by omega) _).mono ?_); rintro e w3 ⟨rfl, rfl⟩)
        go_wp2
        go_round
        case rel => exact ⟨k + 1, by omega, by omega, by go_num, hstep⟩
        case measure => simp [intOf]; omega
    · obtain rfl : k = 8 * T := by omega
      go_wp2
      go_ret2
      exact ⟨_, rfl, hno.none, rfl⟩
theorem first_1 (s : ByteArray) (hn : s.size ≤ 140737488351232) (f t : Int) (f1 : -9223372036854775808 ≤ f) (f2 : f ≤ 9223372036854775807) (t1 : -9223372036854775808 ≤ t) (t2 : t ≤ 9223372036854775807) (w : World) :
    Calls Tryd.prog 21 #[.string s, .int .i64 1, .int .i64 f, .int .i64 t] w (FirstEnd s 1 f t w) := by
  have hp := places_any s.size (by omega) f t f1 f2 t1 t2 w
  obtain ⟨F, T, h1, h2, hF, hT⟩ := places_nat s.size f t
  rw [hF, hT] at hp
  unfold FirstEnd
  rw [(first_nat hF hT).1, (first_nat hF hT).2]
  clear hF hT
  have HP := Lib.hid hp
  clear hp
  go_enter Tryd.func21, Tryd.ntmps21
  go_wp2_with fail
  ((with_reducible refine HP.out.mono ?_); rintro e w2 ⟨rfl, rfl⟩)
  go_wp2_with fail
  go_loop [12, 13] (fun i c => ∃ k : Nat, F ≤ k ∧ k ≤ T ∧ i = .int .i64 k ∧ NoBit s.data.toList 1 (8 * F) (8 * k)) (fun i _ => T - (intOf i).toNat)
  case atStart => exact ⟨F, by omega, by omega, by go_num, NoBit.nil _ _ _⟩
  case round =>
    obtain ⟨k, hk1, hk2, rfl, hno⟩ := hrel
    by_cases hlt : k < T
    · have hks : k < s.size := by omega
      by_cases hb : Pl.asOne 1 (s.data.toList.getD k 0) = 0
      · have hg : s.data.toList.getD k 0 = s[k] := byteAt_eq s hks
        have hstep := hno.byte (by omega) hb
        rw [hg] at hb
        have hne := byte_zero (c := s[k]) (by simpa [Pl.asOne] using hb)
        clear hb hg
        go_wp2
        go_round
        case rel => exact ⟨k + 1, by omega, by omega, by go_num, hstep⟩
        case measure => simp [intOf]; omega
      · have hg : s.data.toList.getD k 0 = s[k] := byteAt_eq s hks
        have hone := Lib.hid (Pl.first_in (by omega) hk1 hlt hno hb)
        rw [hg] at hb hone
        have hne := byte_pos (c := s[k]) (by simpa [Pl.asOne] using hb)
        have hl := (Pl.lz_ok (s[k]) (by simpa [Pl.asOne] using hb)).1
        clear hb hg
        go_wp2_with fail
        ((with_reducible refine (lz1 (s[k]) _).mono ?_); rintro e w3 ⟨rfl, rfl⟩)
        go_wp2
        go_ret2
        exact ⟨_, rfl, hone.out, rfl⟩
    · obtain rfl : k = T := by omega
      go_wp2
      go_ret2
      exact ⟨_, rfl, hno.none, rfl⟩
theorem first_bad (s : ByteArray) (v f t : Int) (h0 : (v != 0) = true) (h1 : (v != 1) = true) (w : World) :
    Calls Tryd.prog 21 #[.string s, .int .i64 v, .int .i64 f, .int .i64 t] w fun e w' => e = .returned (.tuple #[.int .i64 0, .int .i64 80]) ∧ w = w' := by
  go_enter Tryd.func21, Tryd.ntmps21
  go_wp2
  go_ret2
  exact ⟨rfl, rfl⟩
theorem refFirst_bad (s : ByteArray) (v f t : Int) (h0 : (v != 0) = true) (h1 : (v != 1) = true) (w : World) :
    Calls Tryd.prog 22 #[.string s, .int .i64 v, .int .i64 f, .int .i64 t] w fun e w' => e = .returned (.tuple #[.int .i64 0, .int .i64 80]) ∧ w = w' := by
  go_enter Tryd.func22, Tryd.ntmps22
  go_wp2
  go_ret2
  exact ⟨rfl, rfl⟩
end Go.Proofs.YtgdebcpnihibjaaDoor
