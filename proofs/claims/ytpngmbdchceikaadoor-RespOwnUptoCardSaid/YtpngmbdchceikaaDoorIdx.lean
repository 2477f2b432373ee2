/- strings.IndexAny and ContainsAny at any text, for the two bytes of a line's end. -/
import Derived.Test.YtpngmbdchceikaaDoorShelf
import Derived.Test.YtpngmbdchceikaaDoorBase
import Derived.Laws.RangeAny
import Derived.Lib.OthersKept
import Derived.Lib.IndexAny
import Derived.Lib.RuneBytes
import Derived.Deep.LoopGhost
import Derived.Deep.QuietTactic
import Derived.BigQuiet
namespace Go.Proofs.YtpngmbdchceikaaDoor
open Go.ChangeShapes Go.WideShapes Go.ChangeAt Go.RowKit
set_option linter.unusedVariables false

set_option maxRecDepth 100000 in
set_option maxHeartbeats 1600000 in
theorem idxRune_err (w : World) : Calls Tryd.prog 64 #[.string ⟨#[13, 10]⟩, .int .i32 65533] w fun e w' => e = .returned (.int .i64 (-1)) ∧ Below w.heap.size w w' := by
  go_enter Tryd.func64, Tryd.ntmps64
  go_wp2_with fail
  have hn0 : ∀ ty, (Instr.next (.pointer (some ⟨w.heap.size, 0, none⟩)) true ty).run Tryd.prog (w.iter ⟨#[13, 10]⟩ 0) = .ok (.tuple #[.bool true, .int .i64 0, .int .i32 13]) (w.iter ⟨#[13, 10]⟩ 1) := fun ty => run_next_ascii (P := Tryd.prog) w ⟨#[13, 10]⟩ 0 ty (by decide) (by decide)
  have hn1 : ∀ ty, (Instr.next (.pointer (some ⟨w.heap.size, 0, none⟩)) true ty).run Tryd.prog (w.iter ⟨#[13, 10]⟩ 1) = .ok (.tuple #[.bool true, .int .i64 1, .int .i32 10]) (w.iter ⟨#[13, 10]⟩ 2) := fun ty => run_next_ascii (P := Tryd.prog) w ⟨#[13, 10]⟩ 1 ty (by decide) (by decide)
  have hn2 : ∀ ty, (Instr.next (.pointer (some ⟨w.heap.size, 0, none⟩)) true ty).run Tryd.prog (w.iter ⟨#[13, 10]⟩ 2) = .ok (.tuple #[.bool false]) (w.iter ⟨#[13, 10]⟩ 2) := fun ty => run_next_end (P := Tryd.prog) w ⟨#[13, 10]⟩ 2 ty (by decide)
  have hbel : ∀ p, Below w.heap.size w (w.iter ⟨#[13, 10]⟩ p) := fun p => (Below.refl _ _).alloc (Nat.le_refl _) _
  have HN := Lib.hid (And.intro hn0 (And.intro hn1 hn2))
  clear hn0 hn1 hn2
  go_loopg [5, 6] 2 (fun g _ _ wx => ∃ i : Nat, i + g = 2 ∧ wx = w.iter ⟨#[13, 10]⟩ i)
  case atStart => exact ⟨0, by omega, rfl⟩
  case round =>
    obtain ⟨i, hig, rfl⟩ := hrel
    rcases gk with _ | _ | _ | g
    · obtain rfl : i = 2 := by omega
      have hn2 := HN.out.2.2
      go_wp2
      go_ret
      exact ⟨rfl, hbel _⟩
    · obtain rfl : i = 1 := by omega
      have hn1 := HN.out.2.1
      go_wp2
      go_roundg 0
      case measure => omega
      case rel => exact ⟨2, by omega, rfl⟩
    · obtain rfl : i = 0 := by omega
      have hn0 := HN.out.1
      go_wp2
      go_roundg 1
      case measure => omega
      case rel => exact ⟨1, by omega, rfl⟩
    · omega
theorem idxByte_none (T : ByteArray) (c : Int) (w : World) (h : T.size = 0) : Calls Tryd.prog 72 #[.string T, .int .u8 c] w fun e w' => e = .returned (.int .i64 (-1)) ∧ w' = w :=
  (Tryd.strings_IndexByte T c w).mono fun e w' ⟨h1, h2⟩ => ⟨by
    have : T.data.toList = [] := List.eq_nil_of_length_eq_zero (by rw [len_toList]; exact h)
    rw [h1, this]; rfl, h2⟩
theorem encode_hi {r : Int} (h1 : 128 ≤ r) (h2 : r ≤ 1114111) (h3 : ¬ (55296 ≤ r ∧ r ≤ 57343)) : ((Utf8.encode r).size = 2 ∧ ∀ h : 1 < (Utf8.encode r).size, 128 ≤ ((Utf8.encode r)[1]'h).toNat) ∨ (3 ≤ (Utf8.encode r).size ∧ (Utf8.encode r).size ≤ 4) := by
  have hv : Utf8.valid r = true := by unfold Utf8.valid; simp; omega
  have e : ∀ x : ByteArray, Utf8.encode r = x → ((x.size = 2 ∧ ∀ h : 1 < x.size, 128 ≤ (x[1]'h).toNat) ∨ (3 ≤ x.size ∧ x.size ≤ 4)) → ((Utf8.encode r).size = 2 ∧ ∀ h : 1 < (Utf8.encode r).size, 128 ≤ ((Utf8.encode r)[1]'h).toNat) ∨ (3 ≤ (Utf8.encode r).size ∧ (Utf8.encode r).size ≤ 4) := fun x hx h => by subst hx; exact h
  by_cases ha : r < 2048
  · refine e ⟨#[UInt8.ofNat (0xC0 + r.toNat / 64), UInt8.ofNat (0x80 + r.toNat % 64)]⟩ ?_ (.inl ⟨rfl, fun h => ?_⟩)
    · unfold Utf8.encode
      simp only [hv, if_true]
      rw [if_neg (by omega), if_pos (by omega)]
    · show 128 ≤ (UInt8.ofNat (0x80 + r.toNat % 64)).toNat
      simp; omega
  · by_cases hb : r < 65536
    · refine e ⟨#[UInt8.ofNat (0xE0 + r.toNat / 4096), UInt8.ofNat (0x80 + r.toNat / 64 % 64), UInt8.ofNat (0x80 + r.toNat % 64)]⟩ ?_ (.inr ⟨Nat.le_refl 3, show 3 ≤ 4 by decide⟩)
      unfold Utf8.encode
      simp only [hv, if_true]
      rw [if_neg (by omega), if_neg (by omega), if_pos (by omega)]
    · refine e ⟨#[UInt8.ofNat (0xF0 + r.toNat / 262144), UInt8.ofNat (0x80 + r.toNat / 4096 % 64), UInt8.ofNat (0x80 + r.toNat / 64 % 64), UInt8.ofNat (0x80 + r.toNat % 64)]⟩ ?_ (.inr ⟨show 3 ≤ 4 by decide, Nat.le_refl 4⟩)
      unfold Utf8.encode
      simp only [hv, if_true]
      rw [if_neg (by omega), if_neg (by omega), if_neg (by omega)]
set_option maxRecDepth 100000 in
set_option maxHeartbeats 1600000 in
theorem idxRune_ok (r : Int) (h1 : 128 ≤ r) (h2 : r ≤ 1114111) (h3 : ¬ (55296 ≤ r ∧ r ≤ 57343)) (h4 : r ≠ 65533) (w : World) : Calls Tryd.prog 64 #[.string ⟨#[13, 10]⟩, .int .i32 r] w fun e w' => e = .returned (.int .i64 (-1)) ∧ Below w.heap.size w w' := by
  have g1 : decide (r < 128) = false := decide_eq_false (by omega)
  have g2 : (r == 65533) = false := by rw [beq_eq_false_iff_ne]; exact h4
  clear h4
  go_enter Tryd.func64, Tryd.ntmps64
  have hv : Lib.validRune r = true := by unfold Lib.validRune; simp; omega
  have henc := encode_hi h1 h2 h3
  obtain ⟨E, hE⟩ : ∃ E, Utf8.encode r = E := ⟨_, rfl⟩
  rw [hE] at henc
  have HE := Lib.hid hE
  clear hE
  have HV := Lib.hid hv
  clear hv
  go_wp2_with fail
  ((with_reducible refine (Tryd.utf8_ValidRune r _).mono ?_); rintro e w1 ⟨rfl, rfl⟩)
  rw [HV.out]
  go_wp2_with fail
  go_step3
  have hE := HE.out
  rcases henc with ⟨hsz, hby⟩ | ⟨hs1, hs2⟩
  · have hb := hby (by omega)
    have hne : ((((⟨#[13, 10]⟩ : ByteArray)[1]'(by decide)).toNat : Int) != ((E[1]'(by omega)).toNat : Int)) = true := by
      rw [bne_iff_ne, show ((⟨#[13, 10]⟩ : ByteArray)[1]'(by decide)).toNat = 10 from rfl]; omega
    clear hby
    go_wp2_with fail
    go_loop [9] (fun i => i = .int .i64 1) (fun _ => 0)
    case atStart => rfl
    case round =>
      obtain rfl := hrel
      go_wp2_with fail
      go_step3
      have i1 : (0 : Int) ≤ 1 := by omega
      have i2 : (1 : Int) < (E.size : Int) := by omega
      go_wp2_with fail
      go_quiet (fail)
      have bq := below_drewN (Below.refl w1.heap.size w1) nq
      generalize w1.drewN nq = wq at *
      go_wp2_with fail
      go_quiet ((refine Calls.quiet_of_same (idxByte_none _ _ _ (by decide))))
      go_wp2
      rw [Exit.noGoto_ret]
      go_wp2
      try rw [Exit.noGoto_ret]
      try go_wp2
      go_ret
      exact ⟨rfl, below_drewN bq _⟩
  · go_wp2_with fail
    go_loop [9] (fun i => i = .int .i64 ((E.size : Int) - 1)) (fun _ => 0)
    case atStart => rfl
    case round =>
      obtain rfl := hrel
      go_wp2
      go_ret
      exact ⟨rfl, Below.refl _ _⟩
theorem getb_in {s : ByteArray} {i : Nat} (h : i < s.size) : s.get! i = s[i] := get_at s i h
/-- What is decoded at a byte above 127: a rune above 127; every byte of it above 127. -/
theorem decode_props (s : ByteArray) (pos : Nat) (h : pos < s.size) (ha : 128 ≤ (s[pos]'h).toNat) :
    128 ≤ (Utf8.decode s pos).1 ∧ (Utf8.decode s pos).1 ≤ 1114111 ∧ ¬ (55296 ≤ (Utf8.decode s pos).1 ∧ (Utf8.decode s pos).1 ≤ 57343) ∧ 1 ≤ (Utf8.decode s pos).2 ∧
      ∀ j, pos ≤ j → j < pos + (Utf8.decode s pos).2 → ∃ hj : j < s.size, 128 ≤ (s[j]'hj).toNat := by
  have hone : ∀ r : Nat, 128 ≤ r → r ≤ 1114111 → ¬ (55296 ≤ r ∧ r ≤ 57343) → ∀ x : Nat × Nat, x = (r, 1) → 128 ≤ x.1 ∧ x.1 ≤ 1114111 ∧ ¬ (55296 ≤ x.1 ∧ x.1 ≤ 57343) ∧ 1 ≤ x.2 ∧ ∀ j, pos ≤ j → j < pos + x.2 → ∃ hj : j < s.size, 128 ≤ (s[j]'hj).toNat := by
    rintro r h1 h2 h3 x rfl
    refine ⟨h1, h2, h3, Nat.le_refl _, fun j hj1 hj2 => ?_⟩
    simp only at hj2
    obtain rfl : j = pos := by omega
    exact ⟨h, ha⟩
  have hn : ¬ (s[pos]'h).toNat < 128 := by omega
  have hb : ∀ k, (s.get! (pos + k)).toNat < 256 := fun k => (s.get! (pos + k)).toNat_lt
  have hcont : ∀ k, (decide (pos + k < s.size) && (s.get! (pos + k)).toNat / 64 == 2) = true → ∃ hj : pos + k < s.size, 128 ≤ (s[pos + k]'hj).toNat := fun k hk => by
    simp only [Bool.and_eq_true, decide_eq_true_eq, beq_iff_eq] at hk
    refine ⟨hk.1, ?_⟩
    have := hk.2
    rw [getb_in hk.1] at this
    omega
  have hmany : ∀ (r k : Nat), 128 ≤ r → r ≤ 1114111 → ¬ (55296 ≤ r ∧ r ≤ 57343) → 1 ≤ k → (∀ i, 1 ≤ i → i < k → (decide (pos + i < s.size) && (s.get! (pos + i)).toNat / 64 == 2) = true) → ∀ x : Nat × Nat, x = (r, k) → 128 ≤ x.1 ∧ x.1 ≤ 1114111 ∧ ¬ (55296 ≤ x.1 ∧ x.1 ≤ 57343) ∧ 1 ≤ x.2 ∧ ∀ j, pos ≤ j → j < pos + x.2 → ∃ hj : j < s.size, 128 ≤ (s[j]'hj).toNat := by
    rintro r k h1 h2 h3 h4 hc x rfl
    refine ⟨h1, h2, h3, h4, fun j hj1 hj2 => ?_⟩
    simp only at hj2
    by_cases e : j = pos
    · subst e; exact ⟨h, ha⟩
    · obtain ⟨i, rfl⟩ := Nat.exists_eq_add_of_le hj1
      exact hcont i (hc i (by omega) (by omega))
  have h1 := hb 1
  have h2 := hb 2
  have h3 := hb 3
  have h0 : (s[pos]'h).toNat < 256 := (s[pos]'h).toNat_lt
  generalize hd : Utf8.decode s pos = x
  simp only [Utf8.decode, get_at s pos h, hn, if_false] at hd
  split at hd
  · rename_i hc
    simp only [Bool.and_eq_true, beq_iff_eq, decide_eq_true_eq] at hc
    split at hd
    · rename_i hge
      refine hmany _ 2 hge (by omega) (by omega) (by omega) (fun i hi1 hi2 => ?_) x hd.symm
      obtain rfl : i = 1 := by omega
      simp only [Bool.and_eq_true, decide_eq_true_eq, beq_iff_eq]; exact hc.2
    · exact hone _ (by decide) (by decide) (by decide) x hd.symm
  · split at hd
    · rename_i hc
      simp only [Bool.and_eq_true, beq_iff_eq, decide_eq_true_eq] at hc
      split at hd
      · rename_i hge
        simp only [Bool.and_eq_true, decide_eq_true_eq, Utf8.valid, Bool.or_eq_true] at hge
        refine hmany _ 3 (by omega) (by omega) (by omega) (by omega) (fun i hi1 hi2 => ?_) x hd.symm
        simp only [Bool.and_eq_true, decide_eq_true_eq, beq_iff_eq]
        rcases (show i = 1 ∨ i = 2 by omega) with rfl | rfl
        · exact hc.1.2
        · exact hc.2
      · exact hone _ (by decide) (by decide) (by decide) x hd.symm
    · split at hd
      · rename_i hc
        simp only [Bool.and_eq_true, beq_iff_eq, decide_eq_true_eq] at hc
        split at hd
        · rename_i hge
          simp only [Bool.and_eq_true, decide_eq_true_eq, Utf8.valid, Bool.or_eq_true] at hge
          refine hmany _ 4 (by omega) (by omega) (by omega) (by omega) (fun i hi1 hi2 => ?_) x hd.symm
          simp only [Bool.and_eq_true, decide_eq_true_eq, beq_iff_eq]
          rcases (show i = 1 ∨ i = 2 ∨ i = 3 by omega) with rfl | rfl | rfl
          · exact hc.1.1.2
          · exact hc.1.2
          · exact hc.2
        · exact hone _ (by decide) (by decide) (by decide) x hd.symm
      · exact hone _ (by decide) (by decide) (by decide) x hd.symm
theorem idxRune_high (r : Int) (h1 : 128 ≤ r) (h2 : r ≤ 1114111) (h3 : ¬ (55296 ≤ r ∧ r ≤ 57343)) (w : World) : Calls Tryd.prog 64 #[.string ⟨#[13, 10]⟩, .int .i32 r] w fun e w' => e = .returned (.int .i64 (-1)) ∧ Below w.heap.size w w' := by
  by_cases h4 : r = 65533
  · subst h4; exact idxRune_err w
  · exact idxRune_ok r h1 h2 h3 h4 w
theorem idxRune_low (r : Int) (h0 : 0 ≤ r) (h1 : r < 128) (w : World) : Calls Tryd.prog 64 #[.string ⟨#[13, 10]⟩, .int .i32 r] w fun e w' => e = .returned (.int .i64 (Lib.indexByte [13, 10] r.toNat.toUInt8)) ∧ Below w.heap.size w w' :=
  (Tryd.strings_IndexRune_ascii ⟨#[13, 10]⟩ r w h0 h1).mono fun e w' ⟨h1, h2⟩ => ⟨h1, h2 ▸ Below.refl _ _⟩
theorem idxByte_crlf (x : UInt8) : (x = 13 ∧ Lib.indexByte [13, 10] x = 0) ∨ (x = 10 ∧ Lib.indexByte [13, 10] x = 1) ∨ (x ≠ 13 ∧ x ≠ 10 ∧ Lib.indexByte [13, 10] x = -1) := by
  by_cases h1 : x = 13
  · subst h1; exact .inl ⟨rfl, rfl⟩
  · by_cases h2 : x = 10
    · subst h2; exact .inr (.inl ⟨rfl, rfl⟩)
    · refine .inr (.inr ⟨h1, h2, ?_⟩)
      have e1 : ((13 : UInt8) == x) = false := by rw [beq_eq_false_iff_ne]; exact fun e => h1 e.symm
      have e2 : ((10 : UInt8) == x) = false := by rw [beq_eq_false_iff_ne]; exact fun e => h2 e.symm
      simp [Lib.indexByte, e1, e2]
def AnyEnd (s : ByteArray) (w : World) (e : Ending) (w' : World) : Prop := e = .returned (.int .i64 (Lib.indexAny s.data.toList [13, 10])) ∧ Below w.heap.size w w'
theorem noAny_high {s : ByteArray} {i k : Nat} (h : Lib.NoAny s.data.toList [13, 10] i) (hk : ∀ j, i ≤ j → j < i + k → ∃ hj : j < s.size, 128 ≤ (s[j]'hj).toNat) : Lib.NoAny s.data.toList [13, 10] (i + k) := fun j b hj hb => by
  by_cases e : j < i
  · exact h j b e hb
  · obtain ⟨hjs, h128⟩ := hk j (by omega) hj
    have hbe : s[j] = b := by
      have := Lib.data_getElem? s j hjs
      rw [this] at hb
      exact Option.some.inj hb
    rw [hbe] at h128
    have e1 : b ≠ 13 := fun e => by rw [e] at h128; revert h128; decide
    have e2 : b ≠ 10 := fun e => by rw [e] at h128; revert h128; decide
    simp [e1, e2]
set_option maxRecDepth 100000 in
set_option maxHeartbeats 1600000 in
theorem idxAny_short (s : ByteArray) (h8 : s.size ≤ 8) (w : World) : Calls Tryd.prog 56 #[.string s, .string ⟨#[13, 10]⟩] w (AnyEnd s w) := by
  have h8z : decide ((8 : Int) < (s.size : Int)) = false := decide_eq_false (by omega)
  have hs := Tryd.strings_shouldUseASCIISet (s.size : Int) w
  rw [h8z] at hs
  have HS := Lib.hid hs
  clear hs h8z
  go_enter Tryd.func56, Tryd.ntmps56
  go_wp2_with fail
  ((with_reducible refine HS.out.mono ?_); rintro e w1 ⟨rfl, hw1⟩)
  subst hw1
  go_wp2_with fail
  have hst : (w1.iter s 0).heap[w1.heap.size]? = some (.stringIter s 0) := World.iter_heap w1 s 0
  have hbs : Below w1.heap.size w1 (w1.iter s 0) := (Below.refl _ _).alloc (Nat.le_refl _) _
  generalize w1.iter s 0 = w2 at *
  go_loopg [9, 10] s.size (fun g _ _ wx => ∃ i : Nat, i + g = s.size ∧ wx.heap[w1.heap.size]? = some (.stringIter s i) ∧ Below w1.heap.size w1 wx ∧ Lib.NoAny s.data.toList [13, 10] i)
  case atStart => exact ⟨0, by omega, hst, hbs, Lib.NoAny.zero _ _⟩
  case round =>
    obtain ⟨i, hig, hit, hbx, hno⟩ := hrel
    have HNO := Lib.hid hno
    have HIT := Lib.hid hit
    have hlt := (Array.getElem?_eq_some_iff.1 hit).1
    clear hno hst hbs
    by_cases hi : i < s.size
    · by_cases hlow : (s[i]'hi).toNat < 128
      · have hnx := fun ty => Lib.run_next_ascii_at (P := Tryd.prog) wr w1.heap.size s i ty hit hi hlow
        have hit2 := Lib.hid (Lib.iterAt_heap wr w1.heap.size s i (i + 1) hit)
        have hb2 := Lib.below_iterAt hbx (k := w1.heap.size) (Nat.le_refl _) s (i + 1)
        have hlt2 : w1.heap.size < (wr.iterAt w1.heap.size s (i + 1)).heap.size := by rw [Lib.iterAt_size]; exact hlt
        clear hit
        obtain ⟨x, hx⟩ : ∃ x : UInt8, s[i]'hi = x := ⟨_, rfl⟩
        have hxl : s.data.toList[i]? = some x := by rw [← hx]; exact Lib.data_getElem? s i hi
        rw [hx] at hnx hlow
        have HX := Lib.hid hxl
        clear hxl hx
        generalize wr.iterAt w1.heap.size s (i + 1) = w3 at *
        have hr := fun W => idxRune_low (x.toNat : Int) (by omega) (by omega) W
        rw [show ((x.toNat : Int)).toNat.toUInt8 = x by simp] at hr
        have HR := Lib.hid hr
        clear hr
        rcases idxByte_crlf x with ⟨hx, e⟩ | ⟨hx, e⟩ | ⟨hx, hx', e⟩
        · rw [e] at HR
          have hres := Lib.hid (Lib.indexAny_hit HNO.out HX.out (by rw [hx]; rfl))
          clear hx e
          go_wp2_with fail
          ((with_reducible refine (HR.out _).mono ?_); rintro e w4 ⟨rfl, b4⟩)
          go_wp2
          go_ret
          exact ⟨by rw [hres.out]; rfl, hb2.trans (b4.mono hb2.size)⟩
        · rw [e] at HR
          have hres := Lib.hid (Lib.indexAny_hit HNO.out HX.out (by rw [hx]; rfl))
          clear hx e
          go_wp2_with fail
          ((with_reducible refine (HR.out _).mono ?_); rintro e w4 ⟨rfl, b4⟩)
          go_wp2
          go_ret
          exact ⟨by rw [hres.out]; rfl, hb2.trans (b4.mono hb2.size)⟩
        · rw [e] at HR
          have hnew := Lib.hid (HNO.out.succ HX.out (by simp [hx, hx']))
          clear hx hx' e
          go_wp2_with fail
          ((with_reducible refine (HR.out _).mono ?_); rintro e w4 ⟨rfl, b4⟩)
          go_wp2
          go_roundg (s.size - (i + 1))
          case measure => omega
          case rel => exact ⟨i + 1, by omega, (b4.block _ hlt2).trans hit2.out, hb2.trans (b4.mono hb2.size), hnew.out⟩
      · obtain ⟨d1, d2, d3, d4, d5⟩ := decode_props s i hi (by omega)
        have hnx := fun ty => Lib.run_next_any_at (P := Tryd.prog) wr w1.heap.size s i ty hit hi
        have hnew := Lib.hid (noAny_high HNO.out d5)
        have hend : i + (Utf8.decode s i).2 ≤ s.size := by
          obtain ⟨hj, _⟩ := d5 (i + (Utf8.decode s i).2 - 1) (by omega) (by omega)
          omega
        clear d5
        obtain ⟨k, hk⟩ : ∃ k, (Utf8.decode s i).2 = k := ⟨_, rfl⟩
        obtain ⟨r, hr⟩ : ∃ r, (Utf8.decode s i).1 = r := ⟨_, rfl⟩
        rw [hk] at hnx hnew hend d4
        rw [hr] at hnx d1 d2 d3
        clear hk hr
        have hit2 := Lib.hid (Lib.iterAt_heap wr w1.heap.size s i (i + k) hit)
        have hb2 := Lib.below_iterAt hbx (k := w1.heap.size) (Nat.le_refl _) s (i + k)
        have hlt2 : w1.heap.size < (wr.iterAt w1.heap.size s (i + k)).heap.size := by rw [Lib.iterAt_size]; exact hlt
        clear hit
        generalize wr.iterAt w1.heap.size s (i + k) = w3 at *
        go_wp2_with fail
        ((with_reducible refine (idxRune_high (r : Int) (by omega) (by omega) (by omega) _).mono ?_); rintro e w4 ⟨rfl, b4⟩)
        go_wp2
        go_roundg (s.size - (i + k))
        case measure => omega
        case rel => exact ⟨i + k, by omega, (b4.block _ hlt2).trans hit2.out, hb2.trans (b4.mono hb2.size), hnew.out⟩
    · have hie : i = s.size := by omega
      have hnx := fun ty => Lib.run_next_end_at (P := Tryd.prog) wr w1.heap.size s i ty hit hi
      have hres := Lib.hid (Lib.indexAny_none (s := s.data.toList) (chars := [13, 10]) (by rw [len_toList, ← hie]; exact HNO.out))
      clear hie hit
      go_wp2
      go_ret
      exact ⟨by rw [hres.out]; rfl, hbx⟩
theorem idxAny_any (s : ByteArray) (hs : s.size ≤ 1073741824) (w : World) : Calls Tryd.prog 56 #[.string s, .string ⟨#[13, 10]⟩] w (AnyEnd s w) := by
  by_cases h8 : s.size ≤ 8
  · exact idxAny_short s h8 w
  · refine (Tryd.strings_IndexAny_long (fun w => by kernel_rfl) s ⟨#[13, 10]⟩ w (by decide) (by omega) (by omega) (by decide) (fun j b hb => ?_)).mono fun e w' ⟨h1, h2⟩ => ⟨h1, h2 ▸ ((Below.refl _ _).alloc (Nat.le_refl _) _).alloc (by simp) _⟩
    rcases j with _ | _ | j
    · simp at hb; subst hb; decide
    · simp at hb; subst hb; decide
    · simp at hb
theorem containsAny_any (s : ByteArray) (hs : s.size ≤ 1073741824) (w : World) : Calls Tryd.prog 55 #[.string s, .string ⟨#[13, 10]⟩] w fun e w' => e = .returned (.bool (decide (0 ≤ Lib.indexAny s.data.toList [13, 10]))) ∧ Below w.heap.size w w' := by
  have hc := fun W => idxAny_any s hs W
  unfold AnyEnd at hc
  generalize Lib.indexAny s.data.toList [13, 10] = x at *
  have HC := Lib.hid hc
  clear hc
  go_enter Tryd.func55, Tryd.ntmps55
  go_wp2_with fail
  ((with_reducible refine (HC.out _).mono ?_); rintro e w4 ⟨rfl, b4⟩)
  go_wp2
  go_ret
  exact ⟨rfl, b4⟩
end Go.Proofs.YtpngmbdchceikaaDoor
