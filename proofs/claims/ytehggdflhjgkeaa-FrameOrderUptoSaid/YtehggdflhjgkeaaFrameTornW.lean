/- The walk of FrameTorn where bodies are of bulk at most 1048576. -/
import Derived.Test.YtehggdflhjgkeaaFrameRow
namespace Go.Proofs.Ytehggdflhjgkeaa
open Go.ChangeShapes Go.WideShapes Go.ChangeAt Go.RowKit
set_option linter.unusedVariables false

theorem scan_is {s : ByteArray} {gs : List Pl.Grp} {k why : Nat} (h : Pl.scan s.data.toList = ⟨gs, k, why⟩) (hs : s.size ≤ 140737488351232) (w : World) :
    Calls Try.prog 19 #[.string s] w fun e w' => (∃ v, e = .returned (.tuple #[v, .int .i64 k, .int .i64 why]) ∧ GCells w' v gs) ∧ Below w.heap.size w w' := by
  refine (scan_any s hs w).mono fun e w' h2 => ?_
  obtain ⟨v, he, hr, hb⟩ := h2
  rw [h] at he hr
  exact ⟨⟨v, he, hr.cells⟩, hb⟩
theorem GRow.full {w : World} {base : Nat} {v : Value} {gs : List Pl.Grp} (h : GRow w base v gs) (h0 : gs ≠ []) :
    ∃ g cp, v = .slice (some ⟨g, 0, none⟩) gs.length cp ∧ gs.length ≤ cp ∧ g < w.heap.size ∧ ∀ j x, gs[j]? = some x → w.cell? ⟨g, j * 2, none⟩ = some (.int .u64 x.1) ∧ w.cell? ⟨g, j * 2 + 1, none⟩ = some (.string (str x.2)) := by
  have hc := h.cells
  rcases h.2 with ⟨h1, h2⟩ | ⟨g, cap, cur, h1, _, h4, h5, _⟩
  · exact absurd (List.length_eq_zero_iff.1 h2) h0
  · subst h1
    refine ⟨g, cap, rfl, h5, (Array.getElem?_eq_some_iff.1 h4).1, fun j x hx => ?_⟩
    obtain ⟨ao, cp, e, hr⟩ := hc
    rcases hr with hr | ⟨g2, e2, _, hr⟩
    · exact absurd hr h0
    · simp only [Value.slice.injEq] at e
      rw [e2] at e
      simp only [Option.some.injEq, Addr.mk.injEq, and_true] at e
      rw [e.1]; exact hr j x hx
theorem row_last {f : Nat} {bs : List ByteArray} {b : ByteArray} (hb : bs[bs.length - 1]? = some b) : (rowG f bs bs.length)[bs.length - 1]? = some (f + (bs.length - 1), b.data.toList) ∧ rowG f bs bs.length = rowG f bs (bs.length - 1) ++ [(f + (bs.length - 1), b.data.toList)] ∧
    rowB f bs bs.length = rowB f bs (bs.length - 1) ++ str (Pl.encL (f + (bs.length - 1)) b.data.toList) := by
  have hlt := (List.getElem?_eq_some_iff.1 hb).1
  have hbe : bs[bs.length - 1] = b := (List.getElem?_eq_some_iff.1 hb).2
  have e : bs.length - 1 + 1 = bs.length := by omega
  have h1 := rowG_succ f bs (bs.length - 1) hlt
  have h2 := rowB_succ f bs (bs.length - 1) hlt
  rw [hbe, e] at h1 h2
  refine ⟨?_, h1, h2⟩
  rw [h1, List.getElem?_append_right (by rw [rowG_length f bs _ (by omega)]; exact Nat.le_refl _), rowG_length f bs _ (by omega)]
  simp
theorem rowG_body {f : Nat} {bs : List ByteArray} (hbs : bulkS bs ≤ 1048576) (k : Nat) : ∀ b ∈ lists (bs.take k), b.length ≤ Pl.maxG := by
  intro b hb
  obtain ⟨x, hx, rfl⟩ := List.mem_map.1 hb
  have := bulkS_mem (List.mem_of_mem_take hx)
  rw [len_toList]; unfold Pl.maxG; omega
theorem row_scan {f : Nat} {bs : List ByteArray} (hf : f ≠ 0) (hfl : f + bs.length ≤ 18446744073709551615) (hbs : bulkS bs ≤ 1048576) (k : Nat) (hk : k ≤ bs.length) :
    Pl.scan (rowB f bs k).data.toList = ⟨rowG f bs k, (rowB f bs k).size, 0⟩ := by
  unfold rowB
  rw [str_toList, str_size]
  exact Pl.scan_row hf (by simp; omega) (rowG_body (f := f) hbs k)
theorem row_torn {f n : Nat} {bs : List ByteArray} {b E : ByteArray} (hE : str (Pl.encL n b.data.toList) = E) (hf : f ≠ 0) (hfl : f + bs.length ≤ 18446744073709551615) (hbs : bulkS bs ≤ 1048576) (k : Nat) (hk : k ≤ bs.length)
    (hn0 : n ≠ 0) (hn : n ≤ 18446744073709551615) (hb : b.size ≤ 1073741824) {m : Nat} (h0 : 0 < m) (hm : m < E.size) :
    Pl.scan ((rowB f bs k ++ E).extract 0 ((rowB f bs k).size + m)).data.toList = ⟨rowG f bs k, (rowB f bs k).size, 251⟩ := by
  have e : ((rowB f bs k ++ E).extract 0 ((rowB f bs k).size + m)).data.toList = (rowB f bs k).data.toList ++ (Pl.encL n b.data.toList).take m := by
    have hl := len_toList (rowB f bs k)
    rw [Lib.extract_data, toList_append, Nat.sub_zero, List.drop_zero, ← hl, List.take_length_add_append, ← hE, str_toList]
  rw [e]
  have hm2 : m < (Pl.encL n b.data.toList).length := by rw [← hE, str_size] at hm; exact hm
  unfold rowB
  rw [str_toList, str_size]
  exact Pl.scan_torn hf (by simp; omega) (rowG_body (f := f) hbs k) hn0 (by omega) (by rw [len_toList]; exact hb) h0 hm2
theorem row_whole (A E : ByteArray) : (A ++ E).extract 0 A.size = A := by
  apply ba_ext
  rw [Lib.extract_data, toList_append, Nat.sub_zero, List.drop_zero, ← len_toList A, List.take_left]

set_option maxHeartbeats 1600000 in
theorem torn_skip (f : Nat) (v : Value) (bs : List ByteArray) (hf : f ≤ 18446744073709551615) (hbs : bulkS bs ≤ 1048576) (a : Int) (w : World) (hs : SRow w v bs)
    (h : ((f : Int) == 0) = true ∨ (((f : Int) == 0) = false ∧ ((bs.length : Int) == 0) = true) ∨ (((f : Int) == 0) = false ∧ ((bs.length : Int) == 0) = false ∧ 18446744073709551615 < f + bs.length)) :
    Calls Try.prog 8 #[.int .u64 f, v, .int .i64 a] w fun e w' => e = .returned (.bool true) ∧ Below w.heap.size w w' := by
  obtain ⟨ao, cp, rfl, hs⟩ := hs
  have HS := Lib.hid hs
  clear hs
  have hlen := bulkS_length bs
  have hwr : IntKind.u64.wrap (bs.length : Int) = (bs.length : Int) := by unfold IntKind.wrap; simp [IntKind.signed, IntKind.bits]; omega
  rcases h with h | ⟨h, h2⟩ | ⟨h, h2, h3⟩
  · go_enter Try.func8, Try.ntmps8
    go_wp2_with fail
    refine (awake_any _).mono ?_
    rintro e w1 ⟨rfl, b1⟩
    go_wp2
    go_ret
    exact ⟨rfl, b1⟩
  · go_enter Try.func8, Try.ntmps8
    go_wp2_with fail
    refine (awake_any _).mono ?_
    rintro e w1 ⟨rfl, b1⟩
    go_wp2
    go_ret
    exact ⟨rfl, b1⟩
  · have hw2 : IntKind.u64.wrap ((f : Int) + (bs.length : Int)) = ((f + bs.length - 18446744073709551616 : Nat) : Int) := by unfold IntKind.wrap; simp [IntKind.signed, IntKind.bits]; omega
    have hlt : decide (((f + bs.length - 18446744073709551616 : Nat) : Int) < (f : Int)) = true := by rw [decide_eq_true_iff]; omega
    generalize ((f + bs.length - 18446744073709551616 : Nat) : Int) = z at hw2 hlt
    go_enter Try.func8, Try.ntmps8
    go_wp2_with fail
    refine (awake_any _).mono ?_
    rintro e w1 ⟨rfl, b1⟩
    go_wp2
    go_ret
    exact ⟨rfl, b1⟩

set_option maxHeartbeats 4000000 in
theorem torn_under (f : Nat) (v : Value) (bs : List ByteArray) (hf : f ≠ 0) (hfl : f + bs.length ≤ 18446744073709551615) (h0 : bs ≠ []) (hbs : bulkS bs ≤ 1048576) (a : Int) (ha : a < 0) (w : World) (hs : SRow w v bs) :
    Calls Try.prog 8 #[.int .u64 f, v, .int .i64 a] w fun e w' => e = .returned (.bool true) ∧ Below w.heap.size w w' := by
  have hrow := fun w (hs : SRow w v bs) => row_any f v bs hf hfl hbs w hs
  obtain ⟨ao, cp, rfl, hs2⟩ := hs
  have HS := Lib.hid hs2
  clear hs2
  have hlen := bulkS_length bs
  have hpos : 0 < bs.length := List.length_pos_iff.2 h0
  have hwr : IntKind.u64.wrap (bs.length : Int) = (bs.length : Int) := by unfold IntKind.wrap; simp [IntKind.signed, IntKind.bits]; omega
  have hf1 : ((f : Int) == 0) = false := by rw [beq_eq_false_iff_ne]; omega
  have hb1 : ((bs.length : Int) == 0) = false := by rw [beq_eq_false_iff_ne]; omega
  have Hrow := Lib.hid hrow
  clear hrow
  go_enter Try.func8, Try.ntmps8
  go_wp2_with fail
  refine (awake_any _).mono ?_
  rintro e w1 ⟨rfl, b1⟩
  go_wp2_with fail
  refine (Hrow.out _ (SRow.kept ⟨ao, cp, rfl, HS.out⟩ b1)).mono ?_
  rintro e w2 ⟨⟨v2, rfl, hg⟩, b2⟩
  have b12 := b1.trans (b2.mono b1.size)
  obtain ⟨b, hb⟩ : ∃ b, bs[bs.length - 1]? = some b := ⟨bs[bs.length - 1], List.getElem?_eq_getElem (by omega)⟩
  obtain ⟨r1, r2, r3⟩ := row_last (f := f) hb
  have hgl := rowG_length f bs bs.length (Nat.le_refl _)
  have hgl1 := rowG_length f bs (bs.length - 1) (by omega)
  obtain ⟨g, cg, e, hcap, hlg, hcell⟩ := hg.full (by rw [r2]; simp)
  rw [hgl] at e hcap
  subst e
  have c0 := (hcell _ _ r1).1
  have c1 := (hcell _ _ r1).2
  simp only at c0 c1
  rw [str_of] at c1
  have hbm := bulkS_mem (bs := bs) (b := b) (List.mem_of_getElem? hb)
  obtain ⟨n, hn⟩ : ∃ n, f + (bs.length - 1) = n := ⟨_, rfl⟩
  rw [hn] at r2 r3 c0
  have hn0 : ((n : Int) == 0) = false := by rw [beq_eq_false_iff_ne]; omega
  obtain ⟨E, hE⟩ : ∃ E, str (Pl.encL n b.data.toList) = E := ⟨_, rfl⟩
  have hEs := enc_size hE
  have HE := Lib.hid hE
  rw [hE] at r3
  have sc0 := row_scan hf hfl hbs (bs.length - 1) (by omega)
  have sc1 := fun {m : Nat} (h0 : 0 < m) (hm : m < E.size) => row_torn hE hf hfl hbs (bs.length - 1) (by omega) (by omega) (by omega) (by omega) h0 hm
  have scE := row_scan hf hfl hbs bs.length (Nat.le_refl _)
  have hAz := rowB_size f bs (bs.length - 1) (by omega)
  rw [r3] at scE ⊢
  have cells1 : GCells w2 (.slice (some ⟨g, 0, none⟩) bs.length cg) (rowG f bs bs.length) := by
    have := hg.cells
    first | exact this | rwa [hgl] at this
  have cells0 : GCells w2 (.slice (some ⟨g, 0, none⟩) (bs.length - 1) cg) (rowG f bs (bs.length - 1)) := by
    refine ⟨_, cg, by rw [hgl1], .inr ⟨g, rfl, hlg, fun j x hx => hcell j x ?_⟩⟩
    rw [r2, List.getElem?_append_left (List.getElem?_eq_some_iff.1 hx).1, hx]
  generalize rowB f bs (bs.length - 1) = A at *
  obtain ⟨S, hS⟩ : ∃ S, A ++ E = S := ⟨_, rfl⟩
  have hw := row_whole A E
  rw [hS] at scE sc1 hw ⊢
  have hSs : S.size = A.size + E.size := by rw [← hS, ByteArray.size_append]
  generalize rowG f bs (bs.length - 1) = G0 at *
  generalize rowG f bs bs.length = G1 at *
  have hG0 : G0.length ≤ 9223372036854775807 := by omega
  have hG1 : G1.length ≤ 9223372036854775807 := by omega
  have hSmax : S.size ≤ 140737488351232 := by omega
  have e2 : (E.toList == []) = false := by
    rw [ByteArray.toList_eq]
    rcases hl : E.data.toList with _ | ⟨y, l⟩
    · have := len_toList E; rw [hl] at this; simp at this; omega
    · rfl
  have henc := fun W => enc_okE hE (by omega) hn0 (by omega) W
  have Henc := Lib.hid henc
  have hEpos : 0 < E.size := by omega
  have SC := Lib.hid (show Pl.scan (S.extract 0 A.size).data.toList = ⟨G0, A.size, 0⟩ by rw [hw]; exact sc0)
  have SCE := Lib.hid scE
  have C0 := Lib.hid cells0
  have C1 := Lib.hid cells1
  have hEb : E.size ≤ 1048600 := by omega
  have hAb : A.size ≤ 26214400 := by omega
  clear hE hEs sc0 sc1 scE hAz hg hcell hlg r1 r2 r3 hgl hgl1 hb hbm hn henc hn0 cells0 cells1 hS hw hwr
  go_wp2_with fail
  with_reducible refine (Henc.out _).mono ?_
  rintro e w3 ⟨rfl, b3⟩
  go_wp2_with fail
  with_reducible refine (scan_is SC.out (by rw [ByteArray.size_extract]; omega) _).mono ?_
  rintro e w4 ⟨⟨v4, rfl, g4⟩, b4⟩
  obtain ⟨ao4, cp4, rfl, hh4⟩ := g4
  have g4 : GCells w4 (.slice ao4 G0.length cp4) G0 := ⟨ao4, cp4, rfl, hh4⟩
  have G4 := Lib.hid g4
  have b34 := b3.trans (b4.mono b3.size)
  clear hh4 g4 b3 b4 c0 c1
  go_wp2_with fail
  refine (same_yes _ _ G0 hG0 _ G4.out (C0.out.kept b34)).mono ?_
  rintro e w5 ⟨rfl, b5⟩
  have b35 := b34.trans (b5.mono b34.size)
  clear b34 b5
  go_wp2_with fail
  with_reducible refine (scan_is SCE.out hSmax _).mono ?_
  rintro e w6 ⟨⟨v6, rfl, g6⟩, b6⟩
  obtain ⟨ao6, cp6, rfl, hh6⟩ := g6
  have g6 : GCells w6 (.slice ao6 G1.length cp6) G1 := ⟨ao6, cp6, rfl, hh6⟩
  have G6 := Lib.hid g6
  have b36 := b35.trans (b6.mono b35.size)
  clear hh6 g6 b6 b35
  go_wp2_with fail
  refine (same_yes _ _ G1 hG1 _ G6.out (C1.out.kept b36)).mono ?_
  rintro e w7 ⟨rfl, b7⟩
  have b37 := b36.trans (b7.mono b36.size)
  have b17 := b12.trans (b37.mono b12.size)
  go_wp2
  go_ret
  exact ⟨rfl, b17⟩

set_option maxHeartbeats 4000000 in
theorem torn_at (f : Nat) (v : Value) (bs : List ByteArray) (hf : f ≠ 0) (hfl : f + bs.length ≤ 18446744073709551615) (h0 : bs ≠ []) (hbs : bulkS bs ≤ 1048576) (k : Nat) (hk : k ≤ 9223372036854775807) (w : World) (hs : SRow w v bs) :
    Calls Try.prog 8 #[.int .u64 f, v, .int .i64 k] w fun e w' => e = .returned (.bool true) ∧ Below w.heap.size w w' := by
  have hrow := fun w (hs : SRow w v bs) => row_any f v bs hf hfl hbs w hs
  obtain ⟨ao, cp, rfl, hs2⟩ := hs
  have HS := Lib.hid hs2
  clear hs2
  have hlen := bulkS_length bs
  have hpos : 0 < bs.length := List.length_pos_iff.2 h0
  have hwr : IntKind.u64.wrap (bs.length : Int) = (bs.length : Int) := by unfold IntKind.wrap; simp [IntKind.signed, IntKind.bits]; omega
  have hf1 : ((f : Int) == 0) = false := by rw [beq_eq_false_iff_ne]; omega
  have hb1 : ((bs.length : Int) == 0) = false := by rw [beq_eq_false_iff_ne]; omega
  have Hrow := Lib.hid hrow
  clear hrow
  go_enter Try.func8, Try.ntmps8
  go_wp2_with fail
  refine (awake_any _).mono ?_
  rintro e w1 ⟨rfl, b1⟩
  go_wp2_with fail
  refine (Hrow.out _ (SRow.kept ⟨ao, cp, rfl, HS.out⟩ b1)).mono ?_
  rintro e w2 ⟨⟨v2, rfl, hg⟩, b2⟩
  have b12 := b1.trans (b2.mono b1.size)
  obtain ⟨b, hb⟩ : ∃ b, bs[bs.length - 1]? = some b := ⟨bs[bs.length - 1], List.getElem?_eq_getElem (by omega)⟩
  obtain ⟨r1, r2, r3⟩ := row_last (f := f) hb
  have hgl := rowG_length f bs bs.length (Nat.le_refl _)
  have hgl1 := rowG_length f bs (bs.length - 1) (by omega)
  obtain ⟨g, cg, e, hcap, hlg, hcell⟩ := hg.full (by rw [r2]; simp)
  rw [hgl] at e hcap
  subst e
  have c0 := (hcell _ _ r1).1
  have c1 := (hcell _ _ r1).2
  simp only at c0 c1
  rw [str_of] at c1
  have hbm := bulkS_mem (bs := bs) (b := b) (List.mem_of_getElem? hb)
  obtain ⟨n, hn⟩ : ∃ n, f + (bs.length - 1) = n := ⟨_, rfl⟩
  rw [hn] at r2 r3 c0
  have hn0 : ((n : Int) == 0) = false := by rw [beq_eq_false_iff_ne]; omega
  obtain ⟨E, hE⟩ : ∃ E, str (Pl.encL n b.data.toList) = E := ⟨_, rfl⟩
  have hEs := enc_size hE
  have HE := Lib.hid hE
  rw [hE] at r3
  have sc0 := row_scan hf hfl hbs (bs.length - 1) (by omega)
  have sc1 := fun {m : Nat} (h0 : 0 < m) (hm : m < E.size) => row_torn hE hf hfl hbs (bs.length - 1) (by omega) (by omega) (by omega) (by omega) h0 hm
  have scE := row_scan hf hfl hbs bs.length (Nat.le_refl _)
  have hAz := rowB_size f bs (bs.length - 1) (by omega)
  rw [r3] at scE ⊢
  have cells1 : GCells w2 (.slice (some ⟨g, 0, none⟩) bs.length cg) (rowG f bs bs.length) := by
    have := hg.cells
    first | exact this | rwa [hgl] at this
  have cells0 : GCells w2 (.slice (some ⟨g, 0, none⟩) (bs.length - 1) cg) (rowG f bs (bs.length - 1)) := by
    refine ⟨_, cg, by rw [hgl1], .inr ⟨g, rfl, hlg, fun j x hx => hcell j x ?_⟩⟩
    rw [r2, List.getElem?_append_left (List.getElem?_eq_some_iff.1 hx).1, hx]
  generalize rowB f bs (bs.length - 1) = A at *
  obtain ⟨S, hS⟩ : ∃ S, A ++ E = S := ⟨_, rfl⟩
  have hw := row_whole A E
  rw [hS] at scE sc1 hw ⊢
  have hSs : S.size = A.size + E.size := by rw [← hS, ByteArray.size_append]
  generalize rowG f bs (bs.length - 1) = G0 at *
  generalize rowG f bs bs.length = G1 at *
  have hG0 : G0.length ≤ 9223372036854775807 := by omega
  have hG1 : G1.length ≤ 9223372036854775807 := by omega
  have hSmax : S.size ≤ 140737488351232 := by omega
  have e2 : (E.toList == []) = false := by
    rw [ByteArray.toList_eq]
    rcases hl : E.data.toList with _ | ⟨y, l⟩
    · have := len_toList E; rw [hl] at this; simp at this; omega
    · rfl
  have henc := fun W => enc_okE hE (by omega) hn0 (by omega) W
  have Henc := Lib.hid henc
  have hEpos : 0 < E.size := by omega
  have SCE := Lib.hid scE
  have C0 := Lib.hid cells0
  have C1 := Lib.hid cells1
  have hEb : E.size ≤ 1048600 := by omega
  have hAb : A.size ≤ 26214400 := by omega
  have hmod : k % E.size < E.size := Nat.mod_lt _ hEpos
  have hmodI : (k : Int) % (E.size : Int) < (E.size : Int) := by omega
  rcases Nat.eq_zero_or_pos (k % E.size) with hm | hm
  · have hmI : (k : Int) % (E.size : Int) = 0 := by omega
    have SC := Lib.hid (show Pl.scan (S.extract 0 A.size).data.toList = ⟨G0, A.size, 0⟩ by rw [hw]; exact sc0)
    clear hmod hmodI hm
    clear hE hEs sc0 sc1 scE hAz hg hcell hlg r1 r2 r3 hgl hgl1 hb hbm hn henc hn0 cells0 cells1 hS hw hwr
    go_wp2_with fail
    with_reducible refine (Henc.out _).mono ?_
    rintro e w3 ⟨rfl, b3⟩
    go_wp2_with fail
    with_reducible refine (scan_is SC.out (by rw [ByteArray.size_extract]; omega) _).mono ?_
    rintro e w4 ⟨⟨v4, rfl, g4⟩, b4⟩
    obtain ⟨ao4, cp4, rfl, hh4⟩ := g4
    have g4 : GCells w4 (.slice ao4 G0.length cp4) G0 := ⟨ao4, cp4, rfl, hh4⟩
    have G4 := Lib.hid g4
    have b34 := b3.trans (b4.mono b3.size)
    clear hh4 g4 b3 b4 c0 c1
    go_wp2_with fail
    refine (same_yes _ _ G0 hG0 _ G4.out (C0.out.kept b34)).mono ?_
    rintro e w5 ⟨rfl, b5⟩
    have b35 := b34.trans (b5.mono b34.size)
    clear b34 b5
    go_wp2_with fail
    with_reducible refine (scan_is SCE.out hSmax _).mono ?_
    rintro e w6 ⟨⟨v6, rfl, g6⟩, b6⟩
    obtain ⟨ao6, cp6, rfl, hh6⟩ := g6
    have g6 : GCells w6 (.slice ao6 G1.length cp6) G1 := ⟨ao6, cp6, rfl, hh6⟩
    have G6 := Lib.hid g6
    have b36 := b35.trans (b6.mono b35.size)
    clear hh6 g6 b6 b35
    go_wp2_with fail
    refine (same_yes _ _ G1 hG1 _ G6.out (C1.out.kept b36)).mono ?_
    rintro e w7 ⟨rfl, b7⟩
    have b37 := b36.trans (b7.mono b36.size)
    have b17 := b12.trans (b37.mono b12.size)
    go_wp2
    go_ret
    exact ⟨rfl, b17⟩
  · have hmI : ((k : Int) % (E.size : Int) == 0) = false := by rw [beq_eq_false_iff_ne]; omega
    have SC := Lib.hid (sc1 hm hmod)
    clear hE hEs sc0 sc1 scE hAz hg hcell hlg r1 r2 r3 hgl hgl1 hb hbm hn henc hn0 cells0 cells1 hS hw hwr
    go_wp2_with fail
    with_reducible refine (Henc.out _).mono ?_
    rintro e w3 ⟨rfl, b3⟩
    go_wp2_with fail
    with_reducible refine (scan_is SC.out (by rw [ByteArray.size_extract]; omega) _).mono ?_
    rintro e w4 ⟨⟨v4, rfl, g4⟩, b4⟩
    obtain ⟨ao4, cp4, rfl, hh4⟩ := g4
    have g4 : GCells w4 (.slice ao4 G0.length cp4) G0 := ⟨ao4, cp4, rfl, hh4⟩
    have G4 := Lib.hid g4
    have b34 := b3.trans (b4.mono b3.size)
    clear hh4 g4 b3 b4 c0 c1
    go_wp2_with fail
    refine (same_yes _ _ G0 hG0 _ G4.out (C0.out.kept b34)).mono ?_
    rintro e w5 ⟨rfl, b5⟩
    have b35 := b34.trans (b5.mono b34.size)
    clear b34 b5
    go_wp2_with fail
    with_reducible refine (scan_is SCE.out hSmax _).mono ?_
    rintro e w6 ⟨⟨v6, rfl, g6⟩, b6⟩
    obtain ⟨ao6, cp6, rfl, hh6⟩ := g6
    have g6 : GCells w6 (.slice ao6 G1.length cp6) G1 := ⟨ao6, cp6, rfl, hh6⟩
    have G6 := Lib.hid g6
    have b36 := b35.trans (b6.mono b35.size)
    clear hh6 g6 b6 b35
    go_wp2_with fail
    refine (same_yes _ _ G1 hG1 _ G6.out (C1.out.kept b36)).mono ?_
    rintro e w7 ⟨rfl, b7⟩
    have b37 := b36.trans (b7.mono b36.size)
    have b17 := b12.trans (b37.mono b12.size)
    go_wp2
    go_ret
    exact ⟨rfl, b17⟩

theorem frameTorn_walk (n0 : Int) (w0 : (Lit.int .u64 n0).wf = true) (v1 : Value) (bs : List ByteArray) (hbs : bulkS bs ≤ 1048576) (a2 : Int) (w2 : (Lit.int .i64 a2).wf = true) (w : World) (hs : SRow w v1 bs) :
    Calls Try.prog 8 #[.int .u64 n0, v1, .int .i64 a2] w fun e w' => e = .returned (.bool true) ∧ Below w.heap.size w w' := by
  have hb := bounds_u64 w0
  obtain ⟨f, rfl⟩ := Int.eq_ofNat_of_zero_le hb.1
  have hn : f ≤ 18446744073709551615 := by omega
  have hb2 := bounds_i64 w2
  by_cases h0 : f = 0
  · exact torn_skip f v1 bs hn hbs a2 w hs (.inl (by rw [beq_iff_eq]; omega))
  have h0' : ((f : Int) == 0) = false := by rw [beq_eq_false_iff_ne]; omega
  by_cases h1 : bs = []
  · exact torn_skip f v1 bs hn hbs a2 w hs (.inr (.inl ⟨h0', by subst h1; rfl⟩))
  have hpos : 0 < bs.length := List.length_pos_iff.2 h1
  have h1' : ((bs.length : Int) == 0) = false := by rw [beq_eq_false_iff_ne]; omega
  by_cases h2 : 18446744073709551615 < f + bs.length
  · exact torn_skip f v1 bs hn hbs a2 w hs (.inr (.inr ⟨h0', h1', h2⟩))
  by_cases h3 : a2 < 0
  · exact torn_under f v1 bs h0 (by omega) h1 hbs a2 h3 w hs
  obtain ⟨k, rfl⟩ := Int.eq_ofNat_of_zero_le (show 0 ≤ a2 by omega)
  exact torn_at f v1 bs h0 (by omega) h1 hbs k (by omega) w hs

end Go.Proofs.Ytehggdflhjgkeaa
