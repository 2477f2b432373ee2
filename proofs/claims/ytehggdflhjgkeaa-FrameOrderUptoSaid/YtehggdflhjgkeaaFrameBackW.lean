/- The walk of FrameBack. -/
import Derived.Test.YtehggdflhjgkeaaFrame10
import Derived.Test.YtehggdflhjgkeaaFrameEncodesW
namespace Go.Proofs.Ytehggdflhjgkeaa
open Go.ChangeShapes Go.WideShapes Go.ChangeAt Go.RowKit
set_option linter.unusedVariables false

/-- A box of two cells written anew. -/
theorem reset2 {W : World} {g : Nat} {a0 b0 : Value} (a b : Value) (h0 : W.cell? ⟨g, 0, none⟩ = some a0) (h1 : W.cell? ⟨g, 1, none⟩ = some b0) :
    ∃ wb, (W.setCell ⟨g, 0, none⟩ a).setCell ⟨g, 1, none⟩ b = wb ∧ wb.heap.size = W.heap.size ∧
    (∀ V, Below wb.heap.size wb V → V.cell? ⟨g, 0, none⟩ = some a) ∧ (∀ V, Below wb.heap.size wb V → V.cell? ⟨g, 1, none⟩ = some b) ∧
    (∀ p : Addr, p.block ≠ g → wb.cell? p = W.cell? p) ∧ (∀ (B : Nat) (X : World), B ≤ g → Below B X W → Below B X wb) := by
  have hg : g < W.heap.size := World.block_lt_of_cell? W _ h0
  have hsz : ((W.setCell ⟨g, 0, none⟩ a).setCell ⟨g, 1, none⟩ b).heap.size = W.heap.size := by simp [World.setCell]
  have c0 : ((W.setCell ⟨g, 0, none⟩ a).setCell ⟨g, 1, none⟩ b).cell? ⟨g, 0, none⟩ = some a := by simp [go_sem, h0]
  have c1 : ((W.setCell ⟨g, 0, none⟩ a).setCell ⟨g, 1, none⟩ b).cell? ⟨g, 1, none⟩ = some b := by simp [go_sem, h1]
  refine ⟨_, rfl, hsz, fun V h => (h.cell (by rw [hsz]; exact hg)).trans c0, fun V h => (h.cell (by rw [hsz]; exact hg)).trans c1, fun p hp => ?_, fun B X hB h => (h.setCell (by exact hB) _).setCell (by exact hB) _⟩
  rw [World.cell?_setCell_other _ _ _ _ (fun e => hp (by rw [← e])), World.cell?_setCell_other _ _ _ _ (fun e => hp (by rw [← e]))]

theorem enc_okE {n : Nat} {b E : ByteArray} (hE : str (Pl.encL n b.data.toList) = E) (hn : n ≤ 18446744073709551615) (hn0 : ((n : Int) == 0) = false) (hb : b.size ≤ 1073741824) (w : World) :
    Calls Try.prog 10 #[.agg #[.int .u64 n, .string b]] w fun e w' => e = .returned (.tuple #[.string E, .int .i64 0]) ∧ Below w.heap.size w w' := by
  rw [← hE]; exact enc_ok n b hn hn0 hb w
theorem enc_size {n : Nat} {b E : ByteArray} (hE : str (Pl.encL n b.data.toList) = E) : E.size = 25 + b.size := by
  rw [← hE, str_size, Pl.encL_length, len_toList]
theorem dec_backC {n : Nat} {b E : ByteArray} (hE : str (Pl.encL n b.data.toList) = E) (hn : n ≤ 18446744073709551615) (hn0 : n ≠ 0) (hb : b.size ≤ 1073741824) (x : ByteArray) (hx : (E ++ x).size ≤ maxLen) (w : World) :
    Calls Try.prog 15 #[.string (E ++ x)] w fun e w' => e = .returned (.tuple #[.agg #[.int .u64 n, .string b], .int .i64 E.size, .int .i64 0]) ∧ Below w.heap.size w w' := by
  have h := dec_any (E ++ x) w hx
  have e1 : (E ++ x).data.toList = Pl.encL n b.data.toList ++ x.data.toList := by rw [toList_append, ← hE, str_toList]
  rw [e1, Pl.dec_back hn0 (by omega) (by rw [len_toList]; exact hb)] at h
  have e2 : gotV ⟨n, b.data.toList, 25 + b.data.toList.length, 0⟩ = .tuple #[.agg #[.int .u64 n, .string b], .int .i64 E.size, .int .i64 0] := by
    unfold gotV; rw [str_of, enc_size hE, len_toList]; rfl
  rw [e2] at h
  exact h
theorem dec_tornC {n : Nat} {b E : ByteArray} (hE : str (Pl.encL n b.data.toList) = E) (hn : n ≤ 18446744073709551615) (hn0 : n ≠ 0) (hb : b.size ≤ 1073741824) (k : Nat) (hk : k < E.size) (w : World) :
    Calls Try.prog 15 #[.string (E.extract 0 k)] w fun e w' => e = .returned (.tuple #[.agg #[.int .u64 0, .string ⟨#[]⟩], .int .i64 0, .int .i64 251]) ∧ Below w.heap.size w w' := by
  have hs := enc_size hE
  have h := dec_any (E.extract 0 k) w (by rw [ByteArray.size_extract]; unfold maxLen; omega)
  have e1 : (E.extract 0 k).data.toList = (Pl.encL n b.data.toList).take k := by rw [Lib.extract_data, ← hE, str_toList]; rfl
  rw [e1, Pl.dec_torn hn0 (by omega) (by rw [len_toList]; exact hb) (by rw [Pl.encL_length, len_toList]; omega)] at h
  exact h
theorem dec_emptyC (w : World) :
    Calls Try.prog 15 #[.string ByteArray.empty] w fun e w' => e = .returned (.tuple #[.agg #[.int .u64 0, .string ⟨#[]⟩], .int .i64 0, .int .i64 251]) ∧ Below w.heap.size w w' := by
  exact dec_any ByteArray.empty w (by unfold maxLen; decide)
theorem headS_size {n : Nat} (h : n ≠ 0) : (headS n).size = 16 := by
  unfold headS; rw [if_neg h, ByteArray.size_append, fix8S_size]; rfl
theorem phC {n : Nat} (hn : n ≤ 18446744073709551615) (hn0 : n ≠ 0) (x : ByteArray) (hx : (headS n ++ x).size ≤ maxLen) (w : World) :
    Calls Try.prog 17 #[.string (headS n ++ x)] w fun e w' => e = .returned (.tuple #[.int .u64 n, .int .i64 0]) ∧ Below w.heap.size w w' := by
  have h := ph_any (headS n ++ x) w hx
  have hl : (headS n ++ x).data.toList = [67, 79, 86, 69, 78, 65, 78, 84] ++ (Pl.fixL n 8 ++ x.data.toList) := by
    unfold headS; rw [if_neg hn0, toList_append, toList_append, fix8S_list, List.append_assoc]
  have hs : 16 ≤ (headS n ++ x).size := by rw [ByteArray.size_append, headS_size hn0]; omega
  have h8 : unfixN ((headS n ++ x).extract 8 16) = n := by
    rw [link_num hs, hl]
    unfold Pl.numOf
    rw [Pl.drop_front (by rfl), Pl.take_front (Pl.fixL_length _ _), Pl.num_fixL, Nat.mod_eq_of_lt]
    omega
  have hok : phOk (headS n ++ x) := by
    refine ⟨hs, ?_, by rw [h8]; exact hn0⟩
    rw [ByteArray.toList_eq, Lib.extract_data, hl]
    rfl
  rw [show phN (headS n ++ x) = n from (if_pos hok).trans h8, show phE (headS n ++ x) = 0 from if_pos hok] at h
  exact h

set_option maxHeartbeats 1600000 in
theorem back_bad (n : Nat) (b : ByteArray) (hb : b.size ≤ maxLen) (x : ByteArray) (k : Int) (w : World) (h : ((n : Int) == 0) = true ∨ (((n : Int) == 0) = false ∧ 1073741824 < b.size)) :
    Calls Try.prog 5 #[.agg #[.int .u64 n, .string b], .string x, .int .i64 k] w fun e w' => e = .returned (.bool true) ∧ Below w.heap.size w w' := by
  have hc : ∀ W, Calls Try.prog 10 #[.agg #[.int .u64 n, .string b]] W fun e w' => e = .returned (.tuple #[.string ⟨#[]⟩, .int .i64 250]) ∧ Below W.heap.size W w' := fun W => enc_bad n b hb W h
  have Hc := Lib.hid hc
  clear hc
  unfold maxLen at hb
  rcases h with h | ⟨h, h2⟩
  all_goals
    go_enter Try.func5, Try.ntmps5
    go_wp2_with fail
    obtain ⟨wb, hwb, hw, hlt, k0, k1, _, _⟩ := box2 w (.int .u64 n) (.string b) 24
    rw [hwb]
    have Hwb := Lib.hid hwb
    clear hwb
    refine (Hc.out _).mono ?_
    rintro e w1 ⟨rfl, b1⟩
    go_wp2_with fail
    refine (awake_any _).mono ?_
    rintro e w5 ⟨rfl, b5⟩
    go_wp2
    go_ret
    have c1 := hw.trans (b1.mono hw.size)
    exact ⟨rfl, c1.trans (b5.mono c1.size)⟩

set_option maxHeartbeats 4000000 in
theorem back_good (n : Nat) (b : ByteArray) (hn : n ≤ 18446744073709551615) (hn0 : n ≠ 0) (hb : b.size ≤ 1073741824) (x : ByteArray) (hx : x.size ≤ 140737488351232) (a : Int) (k : Nat) (ha : (a < 0 ∧ k = 0) ∨ a = k) (hk : k ≤ 9223372036854775807) (w : World) :
    Calls Try.prog 5 #[.agg #[.int .u64 n, .string b], .string x, .int .i64 a] w fun e w' => e = .returned (.bool true) ∧ Below w.heap.size w w' := by
  have hn1 : ((n : Int) == 0) = false := by rw [beq_eq_false_iff_ne]; omega
  obtain ⟨E, hE⟩ : ∃ E, str (Pl.encL n b.data.toList) = E := ⟨_, rfl⟩
  have HE := Lib.hid hE
  have hsz := enc_size hE
  clear hE
  have m1 : (E ++ x).size ≤ maxLen := by rw [ByteArray.size_append]; unfold maxLen; omega
  have m2 : (headS n ++ x).size ≤ maxLen := by rw [ByteArray.size_append, headS_size hn0]; unfold maxLen; omega
  have c1 := fun W => run_string_add_sum (P := Try.prog) W E x (by omega)
  have c2 := fun W => run_string_add_sum (P := Try.prog) W (headS n) x (by rw [headS_size hn0]; omega)
  have hkm : k % E.size < E.size := Nat.mod_lt _ (by omega)
  have e1 : E.toList.isEmpty = false := by
    rw [ByteArray.toList_eq]
    rcases hl : E.data.toList with _ | ⟨y, l⟩
    · have := len_toList E; rw [hl] at this; simp at this; omega
    · rfl
  have hpos : (0 : Int) < (E.size : Int) := by omega
  have Hsz := Lib.hid hsz
  clear hsz
  go_enter Try.func5, Try.ntmps5
  go_wp2_with fail
  obtain ⟨wb, hwb, hw, hlt, k0, k1, _, _⟩ := box2 w (.int .u64 n) (.string b) 24
  rw [hwb]
  have Hwb := Lib.hid hwb
  clear hwb
  refine (enc_okE HE.out hn hn1 hb _).mono ?_
  rintro e w1 ⟨rfl, b1⟩
  go_wp2_with fail
  refine (dec_backC HE.out hn hn0 hb x m1 _).mono ?_
  rintro e w2 ⟨rfl, b2⟩
  have b12 := b1.trans (b2.mono b1.size)
  clear b1 b2
  have hl2 : w.heap.size < w2.heap.size := Nat.lt_of_lt_of_le hlt b12.size
  have q0 := fun o => (World.cell?_alloc_lt w2 o ⟨w.heap.size, 0, none⟩ hl2).trans (k0 w2 b12)
  have q1 := fun o => (World.cell?_alloc_lt w2 o ⟨w.heap.size, 1, none⟩ hl2).trans (k1 w2 b12)
  have e2 : (E.toList == []) = false := by
    rcases hl : E.toList with _ | ⟨y, l⟩
    · rw [hl] at e1; cases e1
    · rfl
  have hkm2 : (k : Int) % (E.size : Int) < (E.size : Int) := by omega
  rcases ha with ⟨ha, rfl⟩ | rfl
  · go_wp2_with fail
    obtain ⟨wc, hwc, hc, hltc, i0, i1, if0, if1⟩ := box2 w2 (.int .u64 n) (.string b) 24
    rw [hwc]
    have Hwc := Lib.hid hwc
    clear hwc q0 q1
    have hbc : Below wb.heap.size wb wc := b12.trans (hc.mono b12.size)
    have p0 : ∀ V, Below wc.heap.size wc V → V.cell? ⟨w.heap.size, 0, none⟩ = some (.int .u64 n) := fun V h => (h.cell (Nat.lt_of_lt_of_le hlt hbc.size)).trans (k0 wc hbc)
    have hne : ¬ w.heap.size = w2.heap.size := by omega
    clear k0 k1
    with_reducible refine (dec_emptyC _).mono ?_
    rintro e w3 ⟨rfl, b3⟩
    go_wp2_with fail
    obtain ⟨wd, hwd, hszd, d0, d1, dd, dB⟩ := reset2 (.int .u64 0) (.string ⟨#[]⟩) (i0 w3 b3) (i1 w3 b3)
    rw [hwd]
    have Hwd := Lib.hid hwd
    clear hwd
    have p1 : ∀ V, Below wd.heap.size wd V → V.cell? ⟨w.heap.size, 0, none⟩ = some (.int .u64 n) := fun V h => (h.cell (by rw [hszd]; exact Nat.lt_of_lt_of_le (Nat.lt_of_lt_of_le hlt hbc.size) b3.size)).trans ((dd _ hne).trans (p0 w3 b3))
    have hend : Below w.heap.size w wd := dB _ _ (by omega) ((hw.trans (hbc.mono hw.size)).trans (b3.mono (Nat.le_trans hw.size hbc.size)))
    clear i0 i1 if0 if1 p0 dd dB hszd
    refine (head_any n _ hn).mono ?_
    rintro e w4 ⟨rfl, b4⟩
    go_wp2_with fail
    refine (phC hn hn0 x m2 _).mono ?_
    rintro e w5 ⟨rfl, b5⟩
    have b5 := b4.trans (b5.mono b4.size)
    go_wp2
    go_ret
    exact ⟨rfl, hend.trans (b5.mono hend.size)⟩
  · go_wp2_with fail
    obtain ⟨wc, hwc, hc, hltc, i0, i1, if0, if1⟩ := box2 w2 (.int .u64 n) (.string b) 24
    rw [hwc]
    have Hwc := Lib.hid hwc
    clear hwc q0 q1
    have hbc : Below wb.heap.size wb wc := b12.trans (hc.mono b12.size)
    have p0 : ∀ V, Below wc.heap.size wc V → V.cell? ⟨w.heap.size, 0, none⟩ = some (.int .u64 n) := fun V h => (h.cell (Nat.lt_of_lt_of_le hlt hbc.size)).trans (k0 wc hbc)
    have hne : ¬ w.heap.size = w2.heap.size := by omega
    clear k0 k1
    with_reducible refine (dec_tornC HE.out hn hn0 hb (k % E.size) hkm _).mono ?_
    rintro e w3 ⟨rfl, b3⟩
    go_wp2_with fail
    obtain ⟨wd, hwd, hszd, d0, d1, dd, dB⟩ := reset2 (.int .u64 0) (.string ⟨#[]⟩) (i0 w3 b3) (i1 w3 b3)
    rw [hwd]
    have Hwd := Lib.hid hwd
    clear hwd
    have p1 : ∀ V, Below wd.heap.size wd V → V.cell? ⟨w.heap.size, 0, none⟩ = some (.int .u64 n) := fun V h => (h.cell (by rw [hszd]; exact Nat.lt_of_lt_of_le (Nat.lt_of_lt_of_le hlt hbc.size) b3.size)).trans ((dd _ hne).trans (p0 w3 b3))
    have hend : Below w.heap.size w wd := dB _ _ (by omega) ((hw.trans (hbc.mono hw.size)).trans (b3.mono (Nat.le_trans hw.size hbc.size)))
    clear i0 i1 if0 if1 p0 dd dB hszd
    refine (head_any n _ hn).mono ?_
    rintro e w4 ⟨rfl, b4⟩
    go_wp2_with fail
    refine (phC hn hn0 x m2 _).mono ?_
    rintro e w5 ⟨rfl, b5⟩
    have b5 := b4.trans (b5.mono b4.size)
    go_wp2
    go_ret
    exact ⟨rfl, hend.trans (b5.mono hend.size)⟩

theorem frameBack_walk (n0 : Int) (w0 : (Lit.int .u64 n0).wf = true) (s0 : ByteArray) (u0 : s0.size ≤ maxLen) (a1 : ByteArray) (s1 : a1.size ≤ 140737488351232) (a2 : Int) (w2 : (Lit.int .i64 a2).wf = true) (w : World) :
    Calls Try.prog 5 #[.agg #[.int .u64 n0, .string s0], .string a1, .int .i64 a2] w fun e w' => e = .returned (.bool true) ∧ Below w.heap.size w w' := by
  have hb := bounds_u64 w0
  obtain ⟨n, rfl⟩ := Int.eq_ofNat_of_zero_le hb.1
  have hn : n ≤ 18446744073709551615 := by omega
  have hb2 := bounds_i64 w2
  by_cases h0 : n = 0
  · exact back_bad n s0 u0 a1 a2 w (.inl (by rw [beq_iff_eq]; omega))
  have h0' : ((n : Int) == 0) = false := by rw [beq_eq_false_iff_ne]; omega
  by_cases h1 : 1073741824 < s0.size
  · exact back_bad n s0 u0 a1 a2 w (.inr ⟨h0', h1⟩)
  by_cases h2 : a2 < 0
  · exact back_good n s0 hn h0 (by omega) a1 s1 a2 0 (.inl ⟨h2, rfl⟩) (by omega) w
  · exact back_good n s0 hn h0 (by omega) a1 s1 a2 a2.toNat (.inr (by omega)) (by omega) w

end Go.Proofs.Ytehggdflhjgkeaa
