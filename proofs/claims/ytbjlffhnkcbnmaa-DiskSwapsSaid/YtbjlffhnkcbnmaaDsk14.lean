/- awake, swaps. -/
import Derived.Test.YtbjlffhnkcbnmaaDsk13
namespace Go.Proofs.Ytbjlffhnkcbnmaa
open Go.ChangeShapes Go.WideShapes Go.ChangeAt Go.RowKit Go.Maps Pl
set_option linter.unusedVariables false

theorem irow_none (w : World) (G : Nat → Prop) : IRow w G (.slice none 0 0) [] := ⟨none, 0, rfl, .inl rfl⟩
theorem irow_mono {w : World} {F G : Nat → Prop} {v : Value} {zs : List Int} (h : IRow w F v zs) (hFG : ∀ k, F k → G k) : IRow w G v zs := by
  obtain ⟨ao, cp, rfl, h⟩ := h
  exact ⟨ao, cp, rfl, h.imp id fun ⟨g, off, e, hg, r⟩ => ⟨g, off, e, hFG g hg, r⟩⟩
namespace Live
variable {w0 w : World} {b : Nat}
theorem sw_c1 (o f : Tx) (h : Live w0 w b 0 Dk.new) : Calls Try.prog 26 #[.pointer (some ⟨b, 0, none⟩), .string ⟨#[97]⟩] w (LEnd w0 b 1 sw1 (.int .i64 0)) := by
  have h2 := h.create (by omega) nA (by decide)
  rw [sw_1.1, sw_1.2] at h2
  exact h2
theorem sw_c2 (o f : Tx) (ho : o.length ≤ 140737488355328) (h : Live w0 w b 1 sw1) : Calls Try.prog 16 #[.pointer (some ⟨b, 0, none⟩), .string ⟨#[97]⟩, .string (str o)] w (LEnd w0 b 2 (sw2 o) (.tuple #[.int .i64 o.length, .int .i64 0])) := by
  have h2 := h.append (by omega) nA o (by decide) ho
  rw [(sw_2 o).1, (sw_2 o).2.1, (sw_2 o).2.2] at h2
  exact h2
theorem sw_c3 (o f : Tx) (h : Live w0 w b 2 (sw2 o)) : Calls Try.prog 17 #[.pointer (some ⟨b, 0, none⟩), .string ⟨#[97]⟩] w (LEnd w0 b 3 (sw3 o) (.int .i64 0)) := by
  have h2 := h.sync (by omega) nA (by decide)
  rw [(sw_3 o).1, (sw_3 o).2] at h2
  exact h2
theorem sw_c4 (o f : Tx) (h : Live w0 w b 3 (sw3 o)) : Calls Try.prog 27 #[.pointer (some ⟨b, 0, none⟩)] w (LEnd w0 b 4 (sw4 o) (.int .i64 0)) := by
  have h2 := h.syncNames (by omega)
  rw [(sw_4 o).1, (sw_4 o).2] at h2
  exact h2
theorem sw_c5 (o f : Tx) (h : Live w0 w b 4 (sw4 o)) : Calls Try.prog 26 #[.pointer (some ⟨b, 0, none⟩), .string ⟨#[98]⟩] w (LEnd w0 b 5 (sw5 o) (.int .i64 0)) := by
  have h2 := h.create (by omega) nB (by decide)
  rw [(sw_5 o).1, (sw_5 o).2] at h2
  exact h2
theorem sw_c6 (o f : Tx) (hf : f.length ≤ 140737488355328) (h : Live w0 w b 5 (sw5 o)) : Calls Try.prog 16 #[.pointer (some ⟨b, 0, none⟩), .string ⟨#[98]⟩, .string (str f)] w (LEnd w0 b 6 (sw6 o f) (.tuple #[.int .i64 f.length, .int .i64 0])) := by
  have h2 := h.append (by omega) nB f (by decide) hf
  rw [(sw_6 o f).1, (sw_6 o f).2.1, (sw_6 o f).2.2] at h2
  exact h2
theorem sw_c7 (o f : Tx) (h : Live w0 w b 6 (sw6 o f)) : Calls Try.prog 17 #[.pointer (some ⟨b, 0, none⟩), .string ⟨#[98]⟩] w (LEnd w0 b 7 (sw7 o f) (.int .i64 0)) := by
  have h2 := h.sync (by omega) nB (by decide)
  rw [(sw_7 o f).1, (sw_7 o f).2] at h2
  exact h2
theorem sw_c8 (o f : Tx) (h : Live w0 w b 7 (sw7 o f)) : Calls Try.prog 30 #[.pointer (some ⟨b, 0, none⟩), .string ⟨#[98]⟩, .string ⟨#[97]⟩] w (LEnd w0 b 8 (sw8 o f) (.int .i64 0)) := by
  have h2 := h.rename (by omega) nB nA (by decide) (by decide)
  rw [(sw_8 o f).1, (sw_8 o f).2] at h2
  exact h2
theorem sw_c9 (o f : Tx) (h : Live w0 w b 8 (sw8 o f)) : Calls Try.prog 27 #[.pointer (some ⟨b, 0, none⟩)] w (LEnd w0 b 9 (sw9 o f) (.int .i64 0)) := by
  have h2 := h.syncNames (by omega)
  rw [(sw_9 o f).1, (sw_9 o f).2] at h2
  exact h2
theorem sw_rd (o f t : Tx) (j : Nat) (S : Dk) (h : Live w0 w b j S) (h1 : S.readT nA = t) (h2 : S.askE nA = 0) : Calls Try.prog 14 #[.pointer (some ⟨b, 0, none⟩), .string ⟨#[97]⟩] w fun e w' => e = .returned (.tuple #[.string (str t), .int .i64 0]) ∧ w = w' := by
  have h3 := h.read nA (by decide)
  unfold ReadEnd at h3
  rw [h1, h2] at h3
  exact h3
theorem sw_rdB (o f t : Tx) (j : Nat) (S : Dk) (h : Live w0 w b j S) (h1 : S.readT nB = t) (h2 : S.askE nB = 0) : Calls Try.prog 14 #[.pointer (some ⟨b, 0, none⟩), .string ⟨#[98]⟩] w fun e w' => e = .returned (.tuple #[.string (str t), .int .i64 0]) ∧ w = w' := by
  have h3 := h.read nB (by decide)
  unfold ReadEnd at h3
  rw [h1, h2] at h3
  exact h3
end Live
set_option maxRecDepth 100000 in
set_option maxHeartbeats 6400000 in
theorem awake_any (w : World) : Calls Try.prog 10 #[] w fun e w' => e = .returned (.bool true) ∧ Below w.heap.size w w' := by
  obtain ⟨o, ho⟩ : ∃ o : Tx, o = [111, 108, 100] := ⟨_, rfl⟩
  obtain ⟨f, hf⟩ : ∃ f : Tx, f = [110, 101, 119] := ⟨_, rfl⟩
  have hol : o.length = 3 := by rw [ho]; rfl
  have hfl : f.length = 3 := by rw [hf]; rfl
  have hos : (⟨#[111, 108, 100]⟩ : ByteArray) = str o := by rw [ho]; rfl
  have hfs : (⟨#[110, 101, 119]⟩ : ByteArray) = str f := by rw [hf]; rfl
  clear ho hf
  have HOF := Lib.hid (And.intro hos hfs)
  have HN := Lib.hid (new_live (Below.refl w.heap.size w))
  clear hos hfs
  go_enter Try.func10, Try.ntmps10
  go_wp2_with fail
  ((with_reducible refine HN.out.mono ?_); rintro e w0 ⟨b, rfl, l0, -⟩)
  have L0 := Lib.hid l0
  clear l0
  go_wp2_with fail
  ((with_reducible refine (L0.out.sw_c1 o f).mono ?_); rintro e w1 ⟨rfl, l1⟩)
  have L1 := Lib.hid l1
  clear l1
  go_wp2_with fail
  rw [HOF.out.1]
  ((with_reducible refine (L1.out.sw_c2 o f (by omega)).mono ?_); rintro e w2 ⟨rfl, l2⟩)
  have L2 := Lib.hid l2
  clear l2
  go_wp2_with fail
  ((with_reducible refine (L2.out.sw_c3 o f).mono ?_); rintro e w3 ⟨rfl, l3⟩)
  have L3 := Lib.hid l3
  clear l3
  go_wp2_with fail
  ((with_reducible refine (L3.out.sw_c4 o f).mono ?_); rintro e w4 ⟨rfl, l4⟩)
  have L4 := Lib.hid l4
  clear l4
  go_wp2_with fail
  ((with_reducible refine (L4.out.sw_c5 o f).mono ?_); rintro e w5 ⟨rfl, l5⟩)
  have L5 := Lib.hid l5
  clear l5
  go_wp2_with fail
  rw [HOF.out.2]
  ((with_reducible refine (L5.out.sw_c6 o f (by omega)).mono ?_); rintro e w6 ⟨rfl, l6⟩)
  have L6 := Lib.hid l6
  clear l6
  go_wp2_with fail
  ((with_reducible refine (L6.out.sw_c7 o f).mono ?_); rintro e w7 ⟨rfl, l7⟩)
  have L7 := Lib.hid l7
  clear l7
  go_wp2_with fail
  ((with_reducible refine (L7.out.sw_c8 o f).mono ?_); rintro e w8 ⟨rfl, l8⟩)
  have L8 := Lib.hid l8
  clear l8
  have HC := Lib.hid (L8.out.crash (by omega) 1 (.slice none 0 0) [] (irow_none _ _) (by simp))
  go_wp2_with fail
  (refine HC.out.mono ?_; rintro e w9 ⟨rfl, l9⟩)
  have L9 := Lib.hid l9
  clear l9
  have H1 := Lib.hid (L9.out.sw_rd o f o 8 _ (sw_one o f).1 (sw_one o f).2.1)
  have H2 := Lib.hid (L9.out.sw_rdB o f f 8 _ (sw_one o f).2.2.1 (sw_one o f).2.2.2.1)
  have H3 := Lib.hid (L9.out.names (by omega))
  have hn2 := (sw_one o f).2.2.2.2
  go_wp2_with fail
  ((with_reducible refine H1.out.mono ?_); rintro e w10 ⟨rfl, rfl⟩)
  go_wp2_with fail
  ((with_reducible refine H2.out.mono ?_); rintro e w10 ⟨rfl, rfl⟩)
  have e1 : ((str o).toList == [111, 108, 100]) = true := by rw [← HOF.out.1, ByteArray.toList_eq]; rfl
  have e2 : ((str f).toList == [110, 101, 119]) = true := by rw [← HOF.out.2, ByteArray.toList_eq]; rfl
  go_wp2_with fail
  ((with_reducible refine H3.out.mono ?_); rintro e w11 ⟨v11, rfl, z11, b11⟩)
  obtain ⟨a11, c11, rfl⟩ : ∃ a c, v11 = .slice a 2 c := by obtain ⟨a, c, e⟩ := z11.shape; exact ⟨a, c, by rw [e, textsB_length, Pl.keys, List.length_map, hn2]⟩
  have B11 := Lib.hid b11
  clear b11 z11
  go_wp2
  go_ret
  exact ⟨rfl, (L9.out.below B11.out).bel⟩
set_option maxRecDepth 100000 in
set_option maxHeartbeats 6400000 in
theorem swaps_any (o f : Tx) (ho : o.length ≤ 140737488355328) (hf : f.length ≤ 140737488355328) (k : Int) (v : Value) (bs : List Int) (hbl : bs.length ≤ 17592186044416) (syn : Bool) (w : World) (hv : IRow w (fun g => g < w.heap.size) v bs) :
    Calls Try.prog 8 #[.string (str o), .string (str f), .agg #[.int .i64 k, v], .bool syn] w fun e w' => e = .returned (.bool true) ∧ Below w.heap.size w w' := by
  obtain ⟨va, vc, rfl⟩ := hv.shape
  have hof := str_size o
  have hff := str_size f
  obtain ⟨W0, hW0⟩ : ∃ W0, W0 = w.alloc (.cells #[.int .i64 k, .slice va bs.length vc] 24) := ⟨_, rfl⟩
  have HN := Lib.hid (new_live (Below.refl W0.heap.size W0))
  have HV := Lib.hid (show IRow W0 (fun g => g < W0.heap.size) (.slice va bs.length vc) bs from by rw [hW0]; exact irow_mono (IRow.kept hv ((Wr.refl (fun _ => False) w).alloc _) (fun _ _ h => h)) (fun g hg => by simp; omega))
  have HW := Lib.hid (show W0.heap[w.heap.size]? = some (.cells #[.int .i64 k, .slice va bs.length vc] 24 (0, 0)) from by rw [hW0]; exact heap_alloc_new w _)
  have HB := Lib.hid (show Below w.heap.size w W0 ∧ W0.heap.size = w.heap.size + 1 from by rw [hW0]; exact ⟨(Below.refl _ _).alloc (Nat.le_refl _) _, by simp⟩)
  clear hv
  go_enter Try.func8, Try.ntmps8
  go_wp2_with fail
  rw [← hW0]
  clear hW0
  ((with_reducible refine HN.out.mono ?_); rintro e w0 ⟨b, rfl, l0, -⟩)
  have L0 := Lib.hid l0
  clear l0
  go_wp2_with fail
  ((with_reducible refine (L0.out.sw_c1 o f).mono ?_); rintro e w1 ⟨rfl, l1⟩)
  have L1 := Lib.hid l1
  clear l1
  go_wp2_with fail
  ((with_reducible refine (L1.out.sw_c2 o f (by omega)).mono ?_); rintro e w2 ⟨rfl, l2⟩)
  have L2 := Lib.hid l2
  clear l2
  go_wp2_with fail
  ((with_reducible refine (L2.out.sw_c3 o f).mono ?_); rintro e w3 ⟨rfl, l3⟩)
  have L3 := Lib.hid l3
  clear l3
  go_wp2_with fail
  ((with_reducible refine (L3.out.sw_c4 o f).mono ?_); rintro e w4 ⟨rfl, l4⟩)
  have L4 := Lib.hid l4
  clear l4
  go_wp2_with fail
  ((with_reducible refine (L4.out.sw_c5 o f).mono ?_); rintro e w5 ⟨rfl, l5⟩)
  have L5 := Lib.hid l5
  clear l5
  go_wp2_with fail
  ((with_reducible refine (L5.out.sw_c6 o f (by omega)).mono ?_); rintro e w6 ⟨rfl, l6⟩)
  have L6 := Lib.hid l6
  clear l6
  go_wp2_with fail
  ((with_reducible refine (L6.out.sw_c7 o f).mono ?_); rintro e w7 ⟨rfl, l7⟩)
  have L7 := Lib.hid l7
  clear l7
  go_wp2_with fail
  ((with_reducible refine (L7.out.sw_c8 o f).mono ?_); rintro e w8 ⟨rfl, l8⟩)
  have L8 := Lib.hid l8
  clear l8
  clear L0 L1 L2 L3 L4 L5 L6 L7
  have eF : ((str f).toList == (str f).toList) = true := by rw [eq_str]; simp
  have eO : ((str o).toList == (str o).toList) = true := by rw [eq_str]; simp
  cases syn with
  | false =>
    obtain ⟨wX, hwX⟩ : ∃ wX, wX = w8 := ⟨_, rfl⟩
    subst hwX
    have LX := Lib.hid L8.out
    have HX := Lib.hid (And.intro (sw_r8 o f).1 (And.intro (sw_r8 o f).2 (sw_back o f k bs)))
    have e1 := HX.out.1
    have hsz := (LX.out.bel).size
    have hvx := HV.out.kept (Wr.of_below (F := fun _ => False) LX.out.bel) (fun _ _ h => h)
    have HC := Lib.hid (LX.out.crash (by omega) k (.slice va bs.length vc) bs hvx hbl)
    have hbx : wX.heap[w.heap.size]? = some (.cells #[.int .i64 k, .slice va bs.length vc] 24 (0, 0)) := (LX.out.bel.block _ (by rw [HB.out.2]; omega)).trans HW.out
    have q0 : wX.cell? ⟨w.heap.size, 0, none⟩ = some (.int .i64 k) := by simp [World.cell?, hbx]
    have q1 : wX.cell? ⟨w.heap.size, 1, none⟩ = some (.slice va bs.length vc) := by simp [World.cell?, hbx]
    clear hbx hvx
    have H1 := Lib.hid (LX.out.sw_rd o f f _ _ HX.out.1 HX.out.2.1)
    go_wp2_with fail
    ((with_reducible refine H1.out.mono ?_); rintro e w10 ⟨rfl, rfl⟩)
    go_wp2_with fail
    (refine HC.out.mono ?_; rintro e wY ⟨rfl, lY⟩)
    have LY := Lib.hid lY
    clear lY
    have hby : wY.heap[w.heap.size]? = some (.cells #[.int .i64 k, .slice va bs.length vc] 24 (0, 0)) := (LY.out.bel.block _ (by rw [HB.out.2]; omega)).trans HW.out
    have p0 : wY.cell? ⟨w.heap.size, 0, none⟩ = some (.int .i64 k) := by simp [World.cell?, hby]
    have H2 := Lib.hid (LY.out.sw_rd o f _ _ _ HX.out.2.2.2 HX.out.2.2.1)
    clear hby
    go_wp2_with fail
    ((with_reducible refine H2.out.mono ?_); rintro e w10 ⟨rfl, rfl⟩)
    by_cases hk : 2 ≤ k
    · skip
      go_wp2
      go_ret
      exact ⟨rfl, HB.out.1.trans (LY.out.bel.mono HB.out.1.size)⟩
    · skip
      go_wp2
      go_ret
      exact ⟨rfl, HB.out.1.trans (LY.out.bel.mono HB.out.1.size)⟩
  | true =>
    go_wp2_with fail
    ((with_reducible refine (L8.out.sw_c9 o f).mono ?_); rintro e wX ⟨rfl, lX⟩)
    have LX := Lib.hid lX
    clear lX L8
    have HX := Lib.hid (And.intro (sw_r9 o f).1 (And.intro (sw_r9 o f).2 (sw_back9 o f k bs)))
    have e1 := HX.out.1
    have hsz := (LX.out.bel).size
    have hvx := HV.out.kept (Wr.of_below (F := fun _ => False) LX.out.bel) (fun _ _ h => h)
    have HC := Lib.hid (LX.out.crash (by omega) k (.slice va bs.length vc) bs hvx hbl)
    have hbx : wX.heap[w.heap.size]? = some (.cells #[.int .i64 k, .slice va bs.length vc] 24 (0, 0)) := (LX.out.bel.block _ (by rw [HB.out.2]; omega)).trans HW.out
    have q0 : wX.cell? ⟨w.heap.size, 0, none⟩ = some (.int .i64 k) := by simp [World.cell?, hbx]
    have q1 : wX.cell? ⟨w.heap.size, 1, none⟩ = some (.slice va bs.length vc) := by simp [World.cell?, hbx]
    clear hbx hvx
    have H1 := Lib.hid (LX.out.sw_rd o f f _ _ HX.out.1 HX.out.2.1)
    go_wp2_with fail
    ((with_reducible refine H1.out.mono ?_); rintro e w10 ⟨rfl, rfl⟩)
    go_wp2_with fail
    (refine HC.out.mono ?_; rintro e wY ⟨rfl, lY⟩)
    have LY := Lib.hid lY
    clear lY
    have hby : wY.heap[w.heap.size]? = some (.cells #[.int .i64 k, .slice va bs.length vc] 24 (0, 0)) := (LY.out.bel.block _ (by rw [HB.out.2]; omega)).trans HW.out
    have p0 : wY.cell? ⟨w.heap.size, 0, none⟩ = some (.int .i64 k) := by simp [World.cell?, hby]
    have H2 := Lib.hid (LY.out.sw_rd o f _ _ _ HX.out.2.2.2 HX.out.2.2.1)
    clear hby
    go_wp2_with fail
    ((with_reducible refine H2.out.mono ?_); rintro e w10 ⟨rfl, rfl⟩)
    go_wp2
    go_ret
    exact ⟨rfl, HB.out.1.trans (LY.out.bel.mono HB.out.1.size)⟩
end Go.Proofs.Ytbjlffhnkcbnmaa
