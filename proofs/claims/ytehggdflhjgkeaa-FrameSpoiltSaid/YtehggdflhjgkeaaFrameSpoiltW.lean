/- The walk of FrameSpoilt. -/
import Derived.Test.YtehggdflhjgkeaaFrameScan2
import Derived.Test.YtehggdflhjgkeaaFrameBackW
namespace Go.Proofs.Ytehggdflhjgkeaa
open Go.ChangeShapes Go.WideShapes Go.ChangeAt Go.RowKit
set_option linter.unusedVariables false

theorem xor_u8 (x c : UInt8) : bits .xor .u8 (x.toNat : Int) (c.toNat : Int) = ((x ^^^ c).toNat : Int) := by
  have h := u8_xor_nat x.toNat c.toNat x.toNat_lt c.toNat_lt
  rw [h, UInt8.toNat_xor]
theorem xor_ne (x c : UInt8) (hc : c ≠ 0) : x ≠ x ^^^ c := by
  intro h
  apply hc
  have : x ^^^ x = x ^^^ (x ^^^ c) := congrArg (x ^^^ ·) h
  rw [← UInt8.xor_assoc, UInt8.xor_self, UInt8.zero_xor] at this
  exact this.symm
/-- The bytes with another one at one place. -/
def turned (s : ByteArray) (k : Nat) (y : UInt8) (j : Nat) : UInt8 := if j = k then y else byteAt s j
theorem turned_set (s : ByteArray) (k : Nat) (y : UInt8) : (List.range s.size).map (turned s k y) = s.data.toList.set k y := by
  apply List.ext_getElem
  · simp
  intro i h1 h2
  have hi : i < s.size := by simpa using h1
  simp only [List.getElem_map, List.getElem_range, List.getElem_set]
  unfold turned
  by_cases e : i = k
  · rw [if_pos e, if_pos e.symm]
  · rw [if_neg e, if_neg (fun h => e h.symm), byteAt_eq s hi]; rfl

/-- A group's bytes with another one at one place: not read. -/
theorem spoilt_plain {n : Nat} {b E : ByteArray} (hE : str (Pl.encL n b.data.toList) = E) (hn : n ≤ 18446744073709551615) (hn0 : n ≠ 0) (hb : b.size ≤ 1073741824) (k : Nat) (hk : k < E.size) (y : UInt8) (hy : byteAt E k ≠ y) :
    Pl.dec (str ((List.range E.size).map (turned E k y))).data.toList = .bad 252 ∧ Pl.scan (str ((List.range E.size).map (turned E k y))).data.toList = ⟨[], 0, 252⟩ := by
  have h : Pl.dec (str ((List.range E.size).map (turned E k y))).data.toList = .bad 252 := by
    rw [str_toList, turned_set]
    have hs := enc_size hE
    subst hE
    rw [str_toList]
    rw [str_size] at hk
    refine Pl.dec_spoilt hn0 (by omega) (by rw [len_toList]; exact hb) hk fun h => hy ?_
    unfold byteAt
    rw [str_toList, List.getD_eq_getElem?_getD, h]
    rfl
  refine ⟨h, ?_⟩
  have hl : 0 < (str ((List.range E.size).map (turned E k y))).data.toList.length := by rw [str_toList]; simp; omega
  generalize (str ((List.range E.size).map (turned E k y))).data.toList = l at h hl
  have := (Pl.Scanning.start l).bad hl (by rw [List.drop_zero, h]; decide)
  rw [List.drop_zero, h] at this
  exact this

theorem dec_sum (s : ByteArray) (hs : s.size ≤ maxLen) (h : Pl.dec s.data.toList = .bad 252) (w : World) :
    Calls Try.prog 15 #[.string s] w fun e w' => e = .returned (.tuple #[.agg #[.int .u64 0, .string ⟨#[]⟩], .int .i64 0, .int .i64 252]) ∧ Below w.heap.size w w' := by
  have := dec_any s w hs
  rw [h] at this
  exact this
theorem scan_sum (s : ByteArray) (hs : s.size ≤ 140737488351232) (h : Pl.scan s.data.toList = ⟨[], 0, 252⟩) (w : World) :
    Calls Try.prog 19 #[.string s] w fun e w' => (∃ ao cp, e = .returned (.tuple #[.slice ao 0 cp, .int .i64 0, .int .i64 252])) ∧ Below w.heap.size w w' := by
  refine (scan_any s hs w).mono fun e w' h2 => ?_
  obtain ⟨v, he, hr, hb⟩ := h2
  rw [h] at he hr
  obtain ⟨ao, cp, rfl⟩ := hr.shape
  exact ⟨⟨ao, cp, he⟩, hb⟩

set_option maxHeartbeats 1600000 in
theorem spoilt_skip (n : Nat) (b : ByteArray) (hn : n ≤ 18446744073709551615) (hb : b.size ≤ maxLen) (a c : Int) (w : World) (h : ((n : Int) == 0) = true ∨ (((n : Int) == 0) = false ∧ 1073741824 < b.size)) :
    Calls Try.prog 7 #[.agg #[.int .u64 n, .string b], .int .i64 a, .int .u8 c] w fun e w' => e = .returned (.bool true) ∧ Below w.heap.size w w' := by
  have hc : ∀ W, Calls Try.prog 10 #[.agg #[.int .u64 n, .string b]] W fun e w' => e = .returned (.tuple #[.string ⟨#[]⟩, .int .i64 250]) ∧ Below W.heap.size W w' := fun W => enc_bad n b hb W h
  have Hc := Lib.hid hc
  clear hc h
  unfold maxLen at hb
  go_enter Try.func7, Try.ntmps7
  go_wp2_with fail
  obtain ⟨wb, hwb, hw, hlt, k0, k1, _, _⟩ := box2 w (.int .u64 n) (.string b) 24
  rw [hwb]
  have Hwb := Lib.hid hwb
  clear hwb
  refine (Hc.out _).mono ?_
  rintro e w1 ⟨rfl, b1⟩
  go_wp2_with fail
  refine (awake_any _).mono ?_
  rintro e w5 ⟨rfl, b5⟩
  go_wp2
  go_ret
  have c1 := hw.trans (b1.mono hw.size)
  exact ⟨rfl, c1.trans (b5.mono c1.size)⟩

set_option maxHeartbeats 1600000 in
theorem spoilt_same (n : Nat) (b : ByteArray) (hn : n ≤ 18446744073709551615) (hn0 : n ≠ 0) (hb : b.size ≤ 1073741824) (a : Int) (w : World) :
    Calls Try.prog 7 #[.agg #[.int .u64 n, .string b], .int .i64 a, .int .u8 0] w fun e w' => e = .returned (.bool true) ∧ Below w.heap.size w w' := by
  have hn1 : ((n : Int) == 0) = false := by rw [beq_eq_false_iff_ne]; omega
  obtain ⟨E, hE⟩ : ∃ E, str (Pl.encL n b.data.toList) = E := ⟨_, rfl⟩
  have HE := Lib.hid hE
  clear hE
  go_enter Try.func7, Try.ntmps7
  go_wp2_with fail
  obtain ⟨wb, hwb, hw, hlt, k0, k1, _, _⟩ := box2 w (.int .u64 n) (.string b) 24
  rw [hwb]
  have Hwb := Lib.hid hwb
  clear hwb
  refine (enc_okE HE.out hn hn1 hb _).mono ?_
  rintro e w1 ⟨rfl, b1⟩
  go_wp2_with fail
  refine (awake_any _).mono ?_
  rintro e w5 ⟨rfl, b5⟩
  go_wp2
  go_ret
  have c1 := hw.trans (b1.mono hw.size)
  exact ⟨rfl, c1.trans (b5.mono c1.size)⟩

set_option maxHeartbeats 4000000 in
theorem spoilt_under (n : Nat) (b : ByteArray) (hn : n ≤ 18446744073709551615) (hn0 : n ≠ 0) (hb : b.size ≤ 1073741824) (a : Int) (ha : a < 0) (c : UInt8) (hc : c ≠ 0) (w : World) :
    Calls Try.prog 7 #[.agg #[.int .u64 n, .string b], .int .i64 a, .int .u8 c.toNat] w fun e w' => e = .returned (.bool true) ∧ Below w.heap.size w w' := by
  have hn1 : ((n : Int) == 0) = false := by rw [beq_eq_false_iff_ne]; omega
  have hc0 : ((c.toNat : Int) == 0) = false := by
    rw [beq_eq_false_iff_ne]
    intro h
    exact hc (UInt8.toNat_inj.1 (by simpa using h))
  obtain ⟨E, hE⟩ : ∃ E, str (Pl.encL n b.data.toList) = E := ⟨_, rfl⟩
  have HE := Lib.hid hE
  have hsz := enc_size hE
  clear hE
  have hpos : 0 < E.size := by omega
  have hmod : 0 < E.size := hpos
  have e2 : (E.toList == []) = false := by
    rw [ByteArray.toList_eq]
    rcases hl : E.data.toList with _ | ⟨y, l⟩
    · have := len_toList E; rw [hl] at this; simp at this; omega
    · rfl
  have hx := xor_u8 (byteAt E 0) c
  have hyn := xor_ne (byteAt E 0) c hc
  generalize byteAt E 0 ^^^ c = y at hx hyn
  obtain ⟨d1, d2⟩ := spoilt_plain HE.out hn hn0 hb 0 hmod y hyn
  have hT : (str ((List.range E.size).map (turned E 0 y))).size = E.size := by rw [str_size]; simp
  have hmax : E.size ≤ 140737488351232 := by omega
  have D1 := Lib.hid d1
  have D2 := Lib.hid d2
  have Hsz := Lib.hid hsz
  have HT := Lib.hid hT
  clear hyn d1 d2 hsz hT
  go_enter Try.func7, Try.ntmps7
  go_wp2_with fail
  obtain ⟨wb, hwb, hw, hlt, k0, k1, _, _⟩ := box2 w (.int .u64 n) (.string b) 24
  rw [hwb]
  have Hwb := Lib.hid hwb
  clear hwb
  refine (enc_okE HE.out hn hn1 hb _).mono ?_
  rintro e w1 ⟨rfl, b1⟩
  obtain ⟨cap, w2, hcv, hr, hb1, hsz2, hcap⟩ := bytes_of_text (P := Try.prog) w1 9 49 5 E Try.underlying9 Try.underlying49 Try.underlying5
  have hcell := hr.cell hmod
  have hfroz := hr.frozen hmod
  have hr2 : BRow (w2.setCell ⟨w1.heap.size, 0, none⟩ (.int .u8 (y.toNat : Int))) w1.heap.size E.size (turned E 0 y) := hr.set 0 y
  have hb2 := hb1.setCell (p := ⟨w1.heap.size, 0, none⟩) (Nat.le_refl _) (.int .u8 (y.toNat : Int))
  have hlt2 : w1.heap.size < (w2.setCell ⟨w1.heap.size, 0, none⟩ (.int .u8 (y.toNat : Int))).heap.size := by simpa [World.setCell] using hsz2
  have cv0 := hr2.string (P := Try.prog) 49 5 Try.underlying49 Try.underlying5 cap Try.underlying9
  have hbel1 := hw.trans (b1.mono hw.size)
  have HBEL : Hid (Below w.heap.size w (w2.setCell ⟨w1.heap.size, 0, none⟩ (.int .u8 (y.toNat : Int)))) := hbel1.trans (hb2.mono hbel1.size)
  obtain ⟨w3, hw3⟩ : ∃ w3, w2.setCell ⟨w1.heap.size, 0, none⟩ (.int .u8 (y.toNat : Int)) = w3 := ⟨_, rfl⟩
  rw [hw3] at hr2 hlt2 cv0 HBEL
  have Hr2 := Lib.hid hr2
  have Hlt2 := Lib.hid hlt2
  clear hr hr2 hlt2 hb1 hsz2 hbel1 k0 k1 hw b1 hlt hb2
  obtain ⟨s2, hs2⟩ : ∃ s2, str ((List.range E.size).map (turned E 0 y)) = s2 := ⟨_, rfl⟩
  rw [hs2] at D1 D2 HT cv0
  have HS2 := Lib.hid hs2
  clear hs2
  go_wp2_with fail
  with_reducible refine (dec_sum s2 (by rw [HT.out]; unfold maxLen; omega) D1.out _).mono ?_
  rintro e w4 ⟨rfl, b4⟩
  obtain ⟨wc, hwc, hc4, hlt4, i0, i1, _, _⟩ := box2 w4 (.int .u64 0) (.string ⟨#[]⟩) 24
  have cv1 := ((Hr2.out.below b4 Hlt2.out).below hc4 (Nat.lt_of_lt_of_le Hlt2.out b4.size)).string (P := Try.prog) 49 5 Try.underlying49 Try.underlying5 cap Try.underlying9
  rw [HS2.out, ← hwc] at cv1
  have Hwc := Lib.hid hwc
  clear hwc
  have b5 := HBEL.out.trans ((b4.trans (hc4.mono b4.size)).mono HBEL.out.size)
  have B5 := Lib.hid b5
  clear b5 hc4 b4 hcell hfroz
  go_wp2_with fail
  rw [Hwc.out]
  with_reducible refine (scan_sum s2 (by rw [HT.out]; exact hmax) D2.out _).mono ?_
  rintro e w6 ⟨⟨ao, cp, rfl⟩, b6⟩
  have p0 := i0 _ b6
  have p1 := i1 _ b6
  clear cv0 cv1 hcv
  go_wp2
  go_ret
  exact ⟨rfl, B5.out.trans (b6.mono B5.out.size)⟩

set_option maxHeartbeats 4000000 in
theorem spoilt_at (n : Nat) (b : ByteArray) (hn : n ≤ 18446744073709551615) (hn0 : n ≠ 0) (hb : b.size ≤ 1073741824) (k : Nat) (hk : k ≤ 9223372036854775807) (c : UInt8) (hc : c ≠ 0) (w : World) :
    Calls Try.prog 7 #[.agg #[.int .u64 n, .string b], .int .i64 k, .int .u8 c.toNat] w fun e w' => e = .returned (.bool true) ∧ Below w.heap.size w w' := by
  have hn1 : ((n : Int) == 0) = false := by rw [beq_eq_false_iff_ne]; omega
  have hc0 : ((c.toNat : Int) == 0) = false := by
    rw [beq_eq_false_iff_ne]
    intro h
    exact hc (UInt8.toNat_inj.1 (by simpa using h))
  obtain ⟨E, hE⟩ : ∃ E, str (Pl.encL n b.data.toList) = E := ⟨_, rfl⟩
  have HE := Lib.hid hE
  have hsz := enc_size hE
  clear hE
  have hpos : 0 < E.size := by omega
  have hmod : k % E.size < E.size := Nat.mod_lt _ hpos
  have e2 : (E.toList == []) = false := by
    rw [ByteArray.toList_eq]
    rcases hl : E.data.toList with _ | ⟨y, l⟩
    · have := len_toList E; rw [hl] at this; simp at this; omega
    · rfl
  have hx := xor_u8 (byteAt E (k % E.size)) c
  have hyn := xor_ne (byteAt E (k % E.size)) c hc
  generalize byteAt E (k % E.size) ^^^ c = y at hx hyn
  obtain ⟨d1, d2⟩ := spoilt_plain HE.out hn hn0 hb (k % E.size) hmod y hyn
  have hT : (str ((List.range E.size).map (turned E (k % E.size) y))).size = E.size := by rw [str_size]; simp
  have hmax : E.size ≤ 140737488351232 := by omega
  have D1 := Lib.hid d1
  have D2 := Lib.hid d2
  have Hsz := Lib.hid hsz
  have HT := Lib.hid hT
  clear hyn d1 d2 hsz hT
  go_enter Try.func7, Try.ntmps7
  go_wp2_with fail
  obtain ⟨wb, hwb, hw, hlt, k0, k1, _, _⟩ := box2 w (.int .u64 n) (.string b) 24
  rw [hwb]
  have Hwb := Lib.hid hwb
  clear hwb
  refine (enc_okE HE.out hn hn1 hb _).mono ?_
  rintro e w1 ⟨rfl, b1⟩
  obtain ⟨cap, w2, hcv, hr, hb1, hsz2, hcap⟩ := bytes_of_text (P := Try.prog) w1 9 49 5 E Try.underlying9 Try.underlying49 Try.underlying5
  have hcell := hr.cell hmod
  have hfroz := hr.frozen hmod
  have hr2 : BRow (w2.setCell ⟨w1.heap.size, k % E.size, none⟩ (.int .u8 (y.toNat : Int))) w1.heap.size E.size (turned E (k % E.size) y) := hr.set (k % E.size) y
  have hb2 := hb1.setCell (p := ⟨w1.heap.size, k % E.size, none⟩) (Nat.le_refl _) (.int .u8 (y.toNat : Int))
  have hlt2 : w1.heap.size < (w2.setCell ⟨w1.heap.size, k % E.size, none⟩ (.int .u8 (y.toNat : Int))).heap.size := by simpa [World.setCell] using hsz2
  have cv0 := hr2.string (P := Try.prog) 49 5 Try.underlying49 Try.underlying5 cap Try.underlying9
  have hbel1 := hw.trans (b1.mono hw.size)
  have HBEL : Hid (Below w.heap.size w (w2.setCell ⟨w1.heap.size, k % E.size, none⟩ (.int .u8 (y.toNat : Int)))) := hbel1.trans (hb2.mono hbel1.size)
  obtain ⟨w3, hw3⟩ : ∃ w3, w2.setCell ⟨w1.heap.size, k % E.size, none⟩ (.int .u8 (y.toNat : Int)) = w3 := ⟨_, rfl⟩
  rw [hw3] at hr2 hlt2 cv0 HBEL
  have Hr2 := Lib.hid hr2
  have Hlt2 := Lib.hid hlt2
  clear hr hr2 hlt2 hb1 hsz2 hbel1 k0 k1 hw b1 hlt hb2
  obtain ⟨s2, hs2⟩ : ∃ s2, str ((List.range E.size).map (turned E (k % E.size) y)) = s2 := ⟨_, rfl⟩
  rw [hs2] at D1 D2 HT cv0
  have HS2 := Lib.hid hs2
  clear hs2
  go_wp2_with fail
  with_reducible refine (dec_sum s2 (by rw [HT.out]; unfold maxLen; omega) D1.out _).mono ?_
  rintro e w4 ⟨rfl, b4⟩
  obtain ⟨wc, hwc, hc4, hlt4, i0, i1, _, _⟩ := box2 w4 (.int .u64 0) (.string ⟨#[]⟩) 24
  have cv1 := ((Hr2.out.below b4 Hlt2.out).below hc4 (Nat.lt_of_lt_of_le Hlt2.out b4.size)).string (P := Try.prog) 49 5 Try.underlying49 Try.underlying5 cap Try.underlying9
  rw [HS2.out, ← hwc] at cv1
  have Hwc := Lib.hid hwc
  clear hwc
  have b5 := HBEL.out.trans ((b4.trans (hc4.mono b4.size)).mono HBEL.out.size)
  have B5 := Lib.hid b5
  clear b5 hc4 b4 hcell hfroz
  go_wp2_with fail
  rw [Hwc.out]
  with_reducible refine (scan_sum s2 (by rw [HT.out]; exact hmax) D2.out _).mono ?_
  rintro e w6 ⟨⟨ao, cp, rfl⟩, b6⟩
  have p0 := i0 _ b6
  have p1 := i1 _ b6
  clear cv0 cv1 hcv
  go_wp2
  go_ret
  exact ⟨rfl, B5.out.trans (b6.mono B5.out.size)⟩

theorem frameSpoilt_walk (n0 : Int) (w0 : (Lit.int .u64 n0).wf = true) (s0 : ByteArray) (u0 : s0.size ≤ maxLen) (a1 : Int) (w1 : (Lit.int .i64 a1).wf = true) (a2 : Int) (w2 : (Lit.int .u8 a2).wf = true) (w : World) :
    Calls Try.prog 7 #[.agg #[.int .u64 n0, .string s0], .int .i64 a1, .int .u8 a2] w fun e w' => e = .returned (.bool true) ∧ Below w.heap.size w w' := by
  have hb := bounds_u64 w0
  obtain ⟨n, rfl⟩ := Int.eq_ofNat_of_zero_le hb.1
  have hn : n ≤ 18446744073709551615 := by omega
  have hb1 := bounds_i64 w1
  have hb2 := bounds_u8 w2
  by_cases h0 : n = 0
  · exact spoilt_skip n s0 hn u0 a1 a2 w (.inl (by rw [beq_iff_eq]; omega))
  have h0' : ((n : Int) == 0) = false := by rw [beq_eq_false_iff_ne]; omega
  by_cases h1 : 1073741824 < s0.size
  · exact spoilt_skip n s0 hn u0 a1 a2 w (.inr ⟨h0', h1⟩)
  by_cases h2 : a2 = 0
  · subst h2; exact spoilt_same n s0 hn h0 (by omega) a1 w
  obtain ⟨m, rfl⟩ := Int.eq_ofNat_of_zero_le hb2.1
  obtain ⟨c, hc⟩ : ∃ c : UInt8, c.toNat = m := ⟨UInt8.ofNat m, by rw [UInt8.toNat_ofNat']; omega⟩
  subst hc
  have hc0 : c ≠ 0 := fun h => h2 (by rw [h]; rfl)
  by_cases h3 : a1 < 0
  · exact spoilt_under n s0 hn h0 (by omega) a1 h3 c hc0 w
  obtain ⟨k, rfl⟩ := Int.eq_ofNat_of_zero_le (show 0 ≤ a1 by omega)
  exact spoilt_at n s0 hn h0 (by omega) k (by omega) c hc0 w

end Go.Proofs.Ytehggdflhjgkeaa
