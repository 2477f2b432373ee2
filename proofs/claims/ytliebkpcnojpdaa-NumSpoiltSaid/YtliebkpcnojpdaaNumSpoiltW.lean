/- The walk of NumSpoilt. -/
import Derived.Test.YtliebkpcnojpdaaNumCrc
import Derived.Test.YtliebkpcnojpdaaBRow
import Derived.Deep.RegionWith
namespace Go.Proofs.Ytliebkpcnojpdaa
open Go.ChangeShapes Go.WideShapes Go.ChangeAt Go.RowKit
set_option linter.unusedVariables false

theorem crc_empty (w : World) :
    Calls Try.prog 14 #[.string ⟨#[]⟩] w fun e w' => e = .returned (.int .u32 0) ∧ Below w.heap.size w w' := by
  have h := crc_any ⟨#[]⟩ w (by decide)
  have e : Pl.crc (⟨#[]⟩ : ByteArray).data.toList = 0 := by decide +kernel
  rw [e] at h
  exact h
theorem crc_a (w : World) :
    Calls Try.prog 14 #[.string ⟨#[97]⟩] w fun e w' => e = .returned (.int .u32 3904355907) ∧ Below w.heap.size w w' := by
  have h := crc_any ⟨#[97]⟩ w (by decide)
  have e : Pl.crc (⟨#[97]⟩ : ByteArray).data.toList = 3904355907 := by decide +kernel
  rw [e] at h
  exact h
theorem refCrc_a (w : World) :
    Calls Try.prog 15 #[.string ⟨#[97]⟩] w fun e w' => e = .returned (.int .u32 3904355907) ∧ w = w' := by
  have h := refCrc_any ⟨#[97]⟩ w (by decide)
  have e : Pl.crc (⟨#[97]⟩ : ByteArray).data.toList = 3904355907 := by decide +kernel
  rw [e] at h
  exact h

theorem spoilt_none (a0 : ByteArray) (w0 : a0.size ≤ maxLen) (a1 : Int) (a2 : Int) (w : World)
    (h : (((a0.size : Int) == 0) = true) ∨ (((a0.size : Int) == 0) = false ∧ (a2 == 0) = true) ∨ (((a0.size : Int) == 0) = false ∧ (a2 == 0) = false ∧ decide (a1 < 0) = true)) :
    Calls Try.prog 7 #[.string a0, .int .i64 a1, .int .u8 a2] w fun e w' => e = .returned (.bool true) ∧ Below w.heap.size w w' := by
  unfold maxLen at w0
  rcases h with h | ⟨h, h2⟩ | ⟨h, h2, h3⟩
  all_goals
    go_enter Try.func7, Try.ntmps7
    go_wp2_with fail
    refine (crc_empty _).mono ?_
    rintro e w1 ⟨rfl, b1⟩
    go_wp2_with fail
    refine (crc_a _).mono ?_
    rintro e w2 ⟨rfl, b2⟩
    go_wp2_with fail
    refine (refCrc_a _).mono ?_
    rintro e w3 ⟨rfl, rfl⟩
    go_wp2
    go_ret
    exact ⟨rfl, b1.trans (b2.mono b1.size)⟩

/-- The sum again, told from an elder world. -/
theorem crc_on (s : ByteArray) {w0 wc : World} (hs : s.size ≤ maxLen) (hb : Below w0.heap.size w0 wc) :
    Calls Try.prog 14 #[.string s] wc fun e w' => e = .returned (.int .u32 (Pl.crc s.data.toList)) ∧ Below w0.heap.size w0 w' :=
  (crc_any s wc hs).mono fun e w' ⟨h1, h2⟩ => ⟨h1, hb.trans (h2.mono hb.size)⟩

theorem xor_u8 (x c : UInt8) : bits .xor .u8 (x.toNat : Int) (c.toNat : Int) = ((x ^^^ c).toNat : Int) := by
  have h := u8_xor_nat x.toNat c.toNat x.toNat_lt c.toNat_lt
  rw [h, UInt8.toNat_xor]
theorem xor_ne (x c : UInt8) (hc : c ≠ 0) : x ≠ x ^^^ c := by
  intro h
  apply hc
  have : x ^^^ x = x ^^^ (x ^^^ c) := congrArg (x ^^^ ·) h
  rw [← UInt8.xor_assoc, UInt8.xor_self, UInt8.zero_xor] at this
  exact this.symm
/-- The bytes with another one at one place. -/
def turned (s : ByteArray) (k : Nat) (y : UInt8) (j : Nat) : UInt8 := if j = k then y else byteAt s j
theorem turned_list (s : ByteArray) (k : Nat) (y : UInt8) (hk : k < s.size) :
    (List.range s.size).map (turned s k y) = s.data.toList.take k ++ y :: s.data.toList.drop (k + 1) := by
  apply List.ext_getElem
  · simp; omega
  intro i h1 h2
  have hi : i < s.size := by simpa using h1
  have hlen : (s.data.toList.take k).length = k := by rw [List.length_take, len_toList]; omega
  simp only [List.getElem_map, List.getElem_range]
  unfold turned
  by_cases e : i = k
  · subst e
    rw [if_pos rfl, List.getElem_append_right (by omega)]
    simp only [hlen, Nat.sub_self]
    rfl
  · rw [if_neg e, byteAt_eq s hi]
    by_cases hl : i < k
    · rw [List.getElem_append_left (by omega), List.getElem_take]; rfl
    · rw [List.getElem_append_right (by omega)]
      obtain ⟨m, hm⟩ : ∃ m, i - (s.data.toList.take k).length = m + 1 := ⟨i - k - 1, by omega⟩
      simp only [hm, List.getElem_cons_succ, List.getElem_drop]
      have : k + 1 + m = i := by omega
      simp only [this]; rfl
theorem crc_turned (s : ByteArray) (k : Nat) (y : UInt8) (hk : k < s.size) (hy : byteAt s k ≠ y) :
    Pl.crc s.data.toList ≠ Pl.crc ((List.range s.size).map (turned s k y)) := by
  rw [turned_list s k y hk]
  have e : s.data.toList = s.data.toList.take k ++ s[k] :: s.data.toList.drop (k + 1) := by
    rw [← drop_cons s k hk, List.take_append_drop]
  conv => lhs; rw [e]
  exact Pl.crc_spoilt _ _ _ _ (by rwa [← byteAt_eq s hk])

theorem spoilt_some (a0 : ByteArray) (w0 : a0.size ≤ maxLen) (hpos : 0 < a0.size) (at' : Nat) (hat : (at' : Int) ≤ 9223372036854775807) (c : UInt8) (hc : c ≠ 0) (w : World) :
    Calls Try.prog 7 #[.string a0, .int .i64 at', .int .u8 c.toNat] w fun e w' => e = .returned (.bool true) ∧ Below w.heap.size w w' := by
  have h1 : ((a0.size : Int) == 0) = false := by rw [beq_eq_false_iff_ne]; omega
  have h2 : ((c.toNat : Int) == 0) = false := by
    rw [beq_eq_false_iff_ne]
    intro h
    exact hc (UInt8.toNat_inj.1 (by simpa using h))
  obtain ⟨cap, w1, hcv, hr, hb1, hsz, hcap⟩ := bytes_of_text (P := Try.prog) w 9 38 5 a0 Try.underlying9 Try.underlying38 Try.underlying5
  have hk : at' % a0.size < a0.size := Nat.mod_lt _ hpos
  have hcell := hr.cell hk
  have hfroz := hr.frozen hk
  have hx := xor_u8 (byteAt a0 (at' % a0.size)) c
  have hyn := xor_ne (byteAt a0 (at' % a0.size)) c hc
  generalize byteAt a0 (at' % a0.size) ^^^ c = y at hx hyn
  have hne := crc_turned a0 (at' % a0.size) y hk hyn
  have hsl : ((List.range a0.size).map (turned a0 (at' % a0.size) y)).length = a0.size := by simp
  have Hr2 := Lib.hid (hr.set (at' % a0.size) y)
  have Hb2 := Lib.hid (hb1.setCell (p := ⟨w.heap.size, at' % a0.size, none⟩) (Nat.le_refl _) (.int .u8 (y.toNat : Int)))
  have Hlt2 : Hid (w.heap.size < (w1.setCell ⟨w.heap.size, at' % a0.size, none⟩ (.int .u8 (y.toNat : Int))).heap.size) := by show _ < _; simpa [World.setCell] using hsz
  have Hne := Lib.hid hne
  have w0' := w0
  unfold maxLen at w0'
  clear hr hb1 hsz hne hyn
  go_enter Try.func7, Try.ntmps7
  go_wp2_with fail
  generalize (w1.setCell ⟨w.heap.size, at' % a0.size, none⟩ (.int .u8 (y.toNat : Int))) = w2 at Hr2 Hb2 Hlt2 ⊢
  have hr2 : BRow w2 w.heap.size a0.size (turned a0 (at' % a0.size) y) := Hr2.out
  have cv0 := hr2.drew.string (P := Try.prog) 38 5 Try.underlying38 Try.underlying5 cap Try.underlying9
  have cv1 : ∀ wx, Below w2.heap.size w2 wx → (convert 38 9 (.slice (some ⟨w.heap.size, 0, none⟩) a0.size cap)).run Try.prog wx = .ok (.string (str ((List.range a0.size).map (turned a0 (at' % a0.size) y)))) wx :=
    fun wx hb => (hr2.below hb Hlt2.out).string (P := Try.prog) 38 5 Try.underlying38 Try.underlying5 cap Try.underlying9
  have hm : (str ((List.range a0.size).map (turned a0 (at' % a0.size) y))).size ≤ maxLen := by rw [str_size, hsl]; exact w0
  have hne2 : (((Pl.crc a0.data.toList : Nat) : Int) != ((Pl.crc (str ((List.range a0.size).map (turned a0 (at' % a0.size) y))).data.toList : Nat) : Int)) = true := by
    rw [bne_iff_ne, str_toList]; have := Hne.out; omega
  clear Hr2 hr2 hcv hcell hfroz hx Hne hsl
  generalize str ((List.range a0.size).map (turned a0 (at' % a0.size) y)) = s2 at cv0 cv1 hm hne2
  clear w1
  go_region_with (first
    | (go_at_call 14; refine (crc_on _ (w0 := w2) (by first | exact w0 | exact hm) (by first | assumption | exact (Below.refl _ _).drew)).mono ?_; rintro e wx ⟨rfl, bx⟩))
  all_goals
    go_wp2
    go_ret
    exact ⟨rfl, Hb2.out.trans (bx.mono Hb2.out.size)⟩

theorem numSpoilt_walk (a0 : ByteArray) (w0 : a0.size ≤ maxLen) (a1 : Int) (w1 : (Lit.int .i64 a1).wf = true) (a2 : Int) (w2 : (Lit.int .u8 a2).wf = true) (w : World) :
    Calls Try.prog 7 #[.string a0, .int .i64 a1, .int .u8 a2] w fun e w' => e = .returned (.bool true) ∧ Below w.heap.size w w' := by
  have b1 := bounds_i64 w1
  have b2 := bounds_u8 w2
  by_cases h0 : a0.size = 0
  · exact spoilt_none a0 w0 a1 a2 w (.inl (by rw [beq_iff_eq]; omega))
  have h0' : ((a0.size : Int) == 0) = false := by rw [beq_eq_false_iff_ne]; omega
  by_cases h2 : a2 = 0
  · exact spoilt_none a0 w0 a1 a2 w (.inr (.inl ⟨h0', by rw [beq_iff_eq]; exact h2⟩))
  have h2' : (a2 == 0) = false := by rw [beq_eq_false_iff_ne]; exact h2
  by_cases h1 : a1 < 0
  · exact spoilt_none a0 w0 a1 a2 w (.inr (.inr ⟨h0', h2', by simpa using h1⟩))
  obtain ⟨n, rfl⟩ := Int.eq_ofNat_of_zero_le (show 0 ≤ a1 by omega)
  obtain ⟨m, rfl⟩ := Int.eq_ofNat_of_zero_le b2.1
  obtain ⟨c, hc⟩ : ∃ c : UInt8, c.toNat = m := ⟨UInt8.ofNat m, by rw [UInt8.toNat_ofNat']; omega⟩
  subst hc
  exact spoilt_some a0 w0 (by omega) n (by omega) c (fun h => h2 (by rw [h]; rfl)) w

end Go.Proofs.Ytliebkpcnojpdaa
