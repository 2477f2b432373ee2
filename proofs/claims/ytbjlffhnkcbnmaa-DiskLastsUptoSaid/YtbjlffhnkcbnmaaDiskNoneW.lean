/- The walk of DiskNone. -/
import Derived.Test.YtbjlffhnkcbnmaaDTexts
import Derived.Test.YtbjlffhnkcbnmaaOpenC
namespace Go.Proofs.Ytbjlffhnkcbnmaa
open Go.ChangeShapes Go.WideShapes Go.ChangeAt Go.RowKit Go.Maps Pl
set_option linter.unusedVariables false

theorem Zat.wr {B : Nat} {F : Nat → Prop} {w w' : World} {v : Value} {n : Nat} (h : Zat B w v n) (hw : Wr F w w') (hf : ∀ g, v.ownBlock = some g → ¬ F g) : Zat B w' v n := by
  refine h.imp id ?_
  rintro ⟨g, cap, cur, rfl, h1, h2, r⟩
  exact ⟨g, cap, cur, rfl, h1, (hw.block g (Array.getElem?_eq_some_iff.1 h2).1 (hf g rfl)).trans h2, r⟩
theorem ZRow.wr {B : Nat} {F : Nat → Prop} {w w' : World} {v : Value} {bs : List ByteArray} (h : ZRow B w v bs) (hw : Wr F w w') (hf : ∀ g, v.ownBlock = some g → ¬ F g) : ZRow B w' v bs := by
  refine h.imp id ?_
  rintro ⟨g, cap, cur, rfl, h1, h2, r⟩
  exact ⟨g, cap, cur, rfl, h1, (hw.block g (Array.getElem?_eq_some_iff.1 h2).1 (hf g rfl)).trans h2, r⟩
theorem ZRow.some_ {B : Nat} {w : World} {v : Value} {bs : List ByteArray} (h : ZRow B w v bs) (n : Nat) (hn : bs.length = n) (hb : 0 < n) : ∃ g c, v = .slice (some ⟨g, 0, none⟩) n c ∧ B ≤ g ∧ g < w.heap.size := by
  subst hn
  rcases h with ⟨_, e⟩ | ⟨g, cap, cur, rfl, h1, h2, h3, h4, h5, h6⟩
  · rw [e] at hb; simp at hb
  · exact ⟨g, cap, rfl, h1, (Array.getElem?_eq_some_iff.1 h2).1⟩
theorem srow_laid {w : World} {g : Nat} {bs : List ByteArray} {e : TypeId} {fz : Nat × Nat} {n cp : Nat} (h : w.heap[g]? = some (.cells (bs.map Value.string).toArray e fz)) (hn : n = bs.length) : SRow w (.slice (some ⟨g, 0, none⟩) n cp) bs := by
  subst hn
  refine ⟨_, cp, rfl, .inr ⟨g, 0, rfl, (Array.getElem?_eq_some_iff.1 h).1, fun j x hx => ?_⟩⟩
  simp [World.cell?, h, hx]
namespace Pl
def nn2 : Dk := ⟨[⟨[], 0⟩, ⟨[], 0⟩], [(nA, 0), (nB, 1)], [], [⟨1, nA, [], 0⟩, ⟨1, nB, [], 1⟩], [], 2, false⟩
def nn3 : Dk := ⟨[⟨[], 0⟩, ⟨[], 0⟩], [(nA, 0), (nB, 1)], [(nA, 0), (nB, 1)], [], [], 3, false⟩
end Pl
namespace Live
variable {w0 w : World} {b : Nat}
theorem nn_c2 (h : Live w0 w b 1 sw1) : Calls Try.prog 26 #[.pointer (some ⟨b, 0, none⟩), .string ⟨#[98]⟩] w (LEnd w0 b 2 nn2 (.int .i64 0)) := by
  have h2 := h.create (by omega) nB (by decide)
  rw [show sw1.createS nB = nn2 from rfl, show sw1.createE nB = 0 from rfl] at h2
  exact h2
theorem nn_c3 (h : Live w0 w b 2 nn2) : Calls Try.prog 27 #[.pointer (some ⟨b, 0, none⟩)] w (LEnd w0 b 3 nn3 (.int .i64 0)) := by
  have h2 := h.syncNames (by omega)
  rw [show nn2.namesS = nn3 from rfl, show nn2.namesE = 0 from rfl] at h2
  exact h2
def ABEnd (w : World) (e : Ending) (w' : World) : Prop := ∃ g c, e = .returned (.slice (some ⟨g, 0, none⟩) 2 c) ∧ w.heap.size ≤ g ∧ g < w'.heap.size ∧ ZRow w.heap.size w' (.slice (some ⟨g, 0, none⟩) 2 c) (textsB [nA, nB]) ∧ Below w.heap.size w w'
theorem ABEnd.of {e : Ending} {w w' : World} (h : ToldEnd [(nA, 0), (nB, 1)] w e w') : ABEnd w e w' := by
  obtain ⟨v, rfl, z, b⟩ := h
  obtain ⟨g, c, rfl, h1, h2⟩ := ZRow.some_ z 2 rfl (by decide)
  exact ⟨g, c, rfl, h1, h2, z, b⟩
theorem nn_names (h : Live w0 w b 3 nn3) : Calls Try.prog 13 #[.pointer (some ⟨b, 0, none⟩)] w (ABEnd w) := (h.names (by omega)).mono fun e w' he => ABEnd.of he
theorem nn_lasting (h : Live w0 w b 3 nn3) : Calls Try.prog 19 #[.pointer (some ⟨b, 0, none⟩)] w (ABEnd w) := (h.lasting (by omega)).mono fun e w' he => ABEnd.of he
end Live
theorem texts_ab {w : World} {v1 v2 : Value} (h1 : SRow w v1 (textsB [nA, nB])) (h2 : SRow w v2 (textsB [nA, nB])) : Calls Try.prog 18 #[v1, v2] w fun e w' => e = .returned (.bool true) ∧ Below w.heap.size w w' :=
  (texts_any [nA, nB] [nA, nB] v1 v2 (by decide) w h1 h2).mono fun e w' ⟨he, n, hn⟩ => ⟨he, by rw [hn]; exact below_drewN (Below.refl _ _) n⟩
/-- Two rows that grow. -/
structure TwoZ (B gx gp : Nat) (w15 w : World) (vx vp : Value) (n : Nat) : Prop where
  wr : Wr (fun k => k = gx ∨ k = gp) w15 w
  x : Zat B w vx n
  p : Zat B w vp n
  ox : ∀ g, vx.ownBlock = some g → g = gx ∨ w15.heap.size ≤ g
  op : ∀ g, vp.ownBlock = some g → g = gp ∨ w15.heap.size ≤ g
  ne : ∀ g, vx.ownBlock = some g → vp.ownBlock ≠ some g
  lx : ∀ g, vx.ownBlock = some g → g < w.heap.size
  lp : ∀ g, vp.ownBlock = some g → g < w.heap.size
theorem Zat.lt {B : Nat} {w : World} {v : Value} {n : Nat} (h : Zat B w v n) : ∀ g, v.ownBlock = some g → g < w.heap.size := fun g hg => by
  rcases h with ⟨rfl, _⟩ | ⟨g', cap, cur, rfl, h1, h2, _⟩
  · simp [Value.ownBlock] at hg
  · have : g' = g := by simpa [Value.ownBlock] using hg
    subst this
    exact (Array.getElem?_eq_some_iff.1 h2).1
/-- The first row takes one more. -/
theorem TwoZ.first {B gx gp n : Nat} {w15 w w' : World} {vx vp v' : Value} (T : TwoZ B gx gp w15 w vx vp n) (z : Zat B w' v' (n + 1)) (cl : ∀ (W : World) (F : Nat → Prop), Wr F W w → (∀ g, vx.ownBlock = some g → F g ∨ W.heap.size ≤ g) → Wr F W w') (ow : ∀ g, v'.ownBlock = some g → vx.ownBlock = some g ∨ w.heap.size ≤ g) :
    Wr (fun k => k = gx ∨ k = gp) w15 w' ∧ Zat B w' v' (n + 1) ∧ Zat B w' vp n ∧ (∀ g, v'.ownBlock = some g → g = gx ∨ w15.heap.size ≤ g) ∧ (∀ g, v'.ownBlock = some g → vp.ownBlock ≠ some g) ∧ w.heap.size ≤ w'.heap.size := by
  have hw := cl w15 _ T.wr (fun g hg => (T.ox g hg).elim (fun h => .inl (.inl h)) .inr)
  have hw2 := cl w (fun k => vx.ownBlock = some k) (Wr.refl _ _) (fun g hg => .inl hg)
  refine ⟨hw, z, T.p.wr hw2 (fun g hg hx => T.ne g hx hg), fun g hg => ?_, fun g hg hp => ?_, hw2.size⟩
  · rcases ow g hg with h | h
    · exact T.ox g h
    · exact .inr (Nat.le_trans T.wr.size h)
  · rcases ow g hg with h | h
    · exact T.ne g h hp
    · have := T.lp g hp; omega
/-- Then the second. -/
theorem TwoZ.second {B gx gp n : Nat} {w15 w w1 w' : World} {vx vp vx' v' : Value} (T : TwoZ B gx gp w15 w vx vp n)
    (H : Wr (fun k => k = gx ∨ k = gp) w15 w1 ∧ Zat B w1 vx' (n + 1) ∧ Zat B w1 vp n ∧ (∀ g, vx'.ownBlock = some g → g = gx ∨ w15.heap.size ≤ g) ∧ (∀ g, vx'.ownBlock = some g → vp.ownBlock ≠ some g) ∧ w.heap.size ≤ w1.heap.size)
    (z : Zat B w' v' (n + 1)) (cl : ∀ (W : World) (F : Nat → Prop), Wr F W w1 → (∀ g, vp.ownBlock = some g → F g ∨ W.heap.size ≤ g) → Wr F W w') (ow : ∀ g, v'.ownBlock = some g → vp.ownBlock = some g ∨ w1.heap.size ≤ g) : TwoZ B gx gp w15 w' vx' v' (n + 1) := by
  obtain ⟨hw, hx, hp, ox, ne, hs⟩ := H
  have hw' := cl w15 _ hw (fun g hg => (T.op g hg).elim (fun h => .inl (.inr h)) .inr)
  have hw2 := cl w1 (fun k => vp.ownBlock = some k) (Wr.refl _ _) (fun g hg => .inl hg)
  have hx2 := hx.wr hw2 (fun g hg h => ne g hg h)
  refine ⟨hw', hx2, z, ox, fun g hg => ?_, fun g hg h => ?_, hx2.lt, z.lt⟩
  · rcases ow g hg with h | h
    · exact T.op g h
    · exact .inr (Nat.le_trans hw.size h)
  · rcases ow g h with h2 | h2
    · exact ne g hg h2
    · have := hx.lt g hg; omega
set_option maxRecDepth 100000 in
set_option maxHeartbeats 6400000 in
theorem diskNone_walk0 (kd n k : Int) (A B : ByteArray) (fv bv : Value) (w : World) :
    Calls Try.prog 7 #[.agg #[.int .i64 kd, .string A, .string B, .int .i64 n, fv, .int .i64 k, bv]] w fun e w' => e = .returned (.bool true) ∧ Below w.heap.size w w' := by
  obtain ⟨W0, hW0⟩ : ∃ W0, W0 = w.alloc (.cells #[.int .i64 kd, .string A, .string B, .int .i64 n, fv, .int .i64 k, bv] 42) := ⟨_, rfl⟩
  have hw0 : W0.heap[w.heap.size]? = some (.cells #[.int .i64 kd, .string A, .string B, .int .i64 n, fv, .int .i64 k, bv] 42 (0, 0)) := by rw [hW0]; exact heap_alloc_new w _
  have HB := Lib.hid (show Below w.heap.size w W0 ∧ W0.heap.size = w.heap.size + 1 from by rw [hW0]; exact ⟨(Below.refl _ _).alloc (Nat.le_refl _) _, by simp⟩)
  have p1 : W0.cell? ⟨w.heap.size, 1, none⟩ = some (.string A) := by simp [World.cell?, hw0]
  have p2 : W0.cell? ⟨w.heap.size, 2, none⟩ = some (.string B) := by simp [World.cell?, hw0]
  have p3 : W0.cell? ⟨w.heap.size, 3, none⟩ = some (.int .i64 n) := by simp [World.cell?, hw0]
  have p4 : W0.cell? ⟨w.heap.size, 4, none⟩ = some fv := by simp [World.cell?, hw0]
  have p5 : W0.cell? ⟨w.heap.size, 5, none⟩ = some (.int .i64 k) := by simp [World.cell?, hw0]
  have p6 : W0.cell? ⟨w.heap.size, 6, none⟩ = some bv := by simp [World.cell?, hw0]
  clear hw0
  go_enter Try.func7, Try.ntmps7
  go_wp2_with fail
  rw [← hW0]
  clear hW0
  go_wp2_with fail
  ((with_reducible refine (none_append _ _ _).mono ?_); rintro e w1 ⟨rfl, rfl⟩)
  go_wp2_with fail
  ((with_reducible refine (none_read _ _).mono ?_); rintro e w1 ⟨rfl, rfl⟩)
  go_wp2_with fail
  ((with_reducible refine (none_synced _ _).mono ?_); rintro e w1 ⟨rfl, rfl⟩)
  go_wp2_with fail
  ((with_reducible refine (none_create _ _).mono ?_); rintro e w1 ⟨rfl, rfl⟩)
  go_wp2_with fail
  ((with_reducible refine (none_trunc _ _ _).mono ?_); rintro e w1 ⟨rfl, rfl⟩)
  go_wp2_with fail
  ((with_reducible refine (none_sync _ _).mono ?_); rintro e w1 ⟨rfl, rfl⟩)
  go_wp2_with fail
  ((with_reducible refine (none_rename _ _ _).mono ?_); rintro e w1 ⟨rfl, rfl⟩)
  go_wp2_with fail
  ((with_reducible refine (none_remove _ _).mono ?_); rintro e w1 ⟨rfl, rfl⟩)
  go_wp2_with fail
  ((with_reducible refine (none_syncNames _).mono ?_); rintro e w1 ⟨rfl, rfl⟩)
  go_wp2_with fail
  ((with_reducible refine (none_plan _ _).mono ?_); rintro e w1 ⟨rfl, rfl⟩)
  go_wp2_with fail
  ((with_reducible refine (none_down _).mono ?_); rintro e w1 ⟨rfl, rfl⟩)
  go_wp2_with fail
  ((with_reducible refine (none_steps _).mono ?_); rintro e w1 ⟨rfl, rfl⟩)
  go_wp2_with fail
  ((with_reducible refine (none_names _).mono ?_); rintro e w1 ⟨rfl, rfl⟩)
  go_wp2_with fail
  ((with_reducible refine (none_lasting _).mono ?_); rintro e w1 ⟨rfl, rfl⟩)
  go_wp2_with fail
  ((with_reducible refine (none_crash _ _ _).mono ?_); rintro e w1 ⟨rfl, b1⟩)
  have B1 := Lib.hid (HB.out.1.trans (b1.mono HB.out.1.size))
  have HN := Lib.hid (new_live (Below.refl w1.heap.size w1))
  clear b1 p1 p2 p3 p4 p5 p6
  go_wp2_with fail
  ((with_reducible refine HN.out.mono ?_); rintro e w2 ⟨b, rfl, l2, -⟩)
  have L2 := Lib.hid l2
  clear l2
  go_wp2_with fail
  ((with_reducible refine (L2.out.sw_c1 [] []).mono ?_); rintro e w3 ⟨rfl, l3⟩)
  have L3 := Lib.hid l3
  clear l3 L2
  go_wp2_with fail
  ((with_reducible refine L3.out.nn_c2.mono ?_); rintro e w4 ⟨rfl, l4⟩)
  have L4 := Lib.hid l4
  clear l4 L3
  go_wp2_with fail
  ((with_reducible refine L4.out.nn_c3.mono ?_); rintro e w5 ⟨rfl, l5⟩)
  have L5 := Lib.hid l5
  clear l5 L4
  go_wp2_with fail
  ((with_reducible refine L5.out.nn_names.mono ?_); rintro e w6 ⟨gx, cx, rfl, hx1, hx2, zx6, b6⟩)
  have L6 := Lib.hid (L5.out.below b6)
  have hz6 := b6.size
  go_wp2_with fail
  ((with_reducible refine L6.out.nn_names.mono ?_); rintro e w7 ⟨gy, cy, rfl, hy1, hy2, zy7, b7⟩)
  have L7 := Lib.hid (L6.out.below b7)
  have zx7 := zx6.later b7
  have hz7 := b7.size
  go_wp2_with fail
  ((with_reducible refine L7.out.nn_lasting.mono ?_); rintro e w8 ⟨gp, cp, rfl, hp1, hp2, zp8, b8⟩)
  have L8 := Lib.hid (L7.out.below b8)
  have zx8 := zx7.later b8
  have zy8 := zy7.later b8
  have hz8 := b8.size
  go_wp2_with fail
  ((with_reducible refine L8.out.nn_lasting.mono ?_); rintro e w9 ⟨gq, cq, rfl, hq1, hq2, zq9, b9⟩)
  have hz9 := b9.size
  have ZX9 := Lib.hid (zx8.later b9)
  have ZY9 := Lib.hid (zy8.later b9)
  have ZP9 := Lib.hid (zp8.later b9)
  have ZQ9 := Lib.hid zq9
  have B59 := Lib.hid (((b6.trans (b7.mono hz6)).trans (b8.mono (by omega))).trans (b9.mono (by omega)))
  clear b6 b7 b8 b9 zx6 zx7 zx8 zy7 zy8 zp8 zq9 L6 L7 L8
  have hne1 : gx ≠ gp := by omega
  obtain ⟨⟨ux, hux⟩, hfx⟩ := ZX9.out.zat.cell (g := gx) (k := 0) rfl (by decide)
  obtain ⟨⟨up, hup⟩, hfp⟩ := ZP9.out.zat.cell (g := gp) (k := 1) rfl (by decide)
  obtain ⟨wS, hwS⟩ : ∃ wS, (w9.setCell ⟨gx, 0, none⟩ (.string ⟨#[115, 112, 111, 105, 108, 116]⟩)).setCell ⟨gp, 1, none⟩ (.string ⟨#[115, 112, 111, 105, 108, 116, 32, 116, 111, 111]⟩) = wS := ⟨_, rfl⟩
  have TS := Lib.hid (show TwoZ w5.heap.size gx gp w9 wS (.slice (some ⟨gx, 0, none⟩) 2 cx) (.slice (some ⟨gp, 0, none⟩) 2 cp) 2 from by
    have h1 : Wr (fun k => k = gx ∨ k = gp) w9 wS := by rw [← hwS]; exact ((Wr.refl _ w9).setCell (p := ⟨gx, 0, none⟩) (.inl rfl) _).setCell (p := ⟨gp, 1, none⟩) (.inr rfl) _
    have h2 : Zat w5.heap.size wS (.slice (some ⟨gx, 0, none⟩) 2 cx) 2 := by
      rw [← hwS]
      exact (Zat.store (v := .slice (some ⟨gx, 0, none⟩) 2 cx) ((ZX9.out.mono (by omega)).zat) (g := gx) (k := 0) rfl _).wr (F := fun k => k = gp) (Wr.setCell (F := fun k => k = gp) (p := ⟨gp, 1, none⟩) (Wr.refl _ _) rfl _) (fun g hg e => by simp [Value.ownBlock] at hg; omega)
    have h3 : Zat w5.heap.size wS (.slice (some ⟨gp, 0, none⟩) 2 cp) 2 := by
      rw [← hwS]
      exact Zat.store (v := .slice (some ⟨gp, 0, none⟩) 2 cp) (((ZP9.out.mono (by omega)).zat).wr (F := fun k => k = gx) (Wr.setCell (F := fun k => k = gx) (p := ⟨gx, 0, none⟩) (Wr.refl _ _) rfl _) (fun g hg e => by simp [Value.ownBlock] at hg; omega)) (g := gp) (k := 1) rfl _
    exact ⟨h1, h2, h3, fun g hg => by simp [Value.ownBlock] at hg; omega, fun g hg => by simp [Value.ownBlock] at hg; omega, fun g hg h => by simp [Value.ownBlock] at hg h; omega, h2.lt, h3.lt⟩)
  have hzS : wS.heap.size = w9.heap.size := by rw [← hwS]; simp [World.setCell]
  go_wp2_with (at_builtin; refine wpList_append_z wS rfl (.tmp 165) (.tmp 166) rfl (.slice (some ⟨gx, 0, none⟩) 2 cx) 2 rfl TS.out.x (by omega) (.string ⟨#[98, 101, 104, 105, 110, 100]⟩) rfl (by simp [Act.eval]) (by omega) ?_)
  intro vx wA zxA clA owA
  have HA := Lib.hid (TS.out.first zxA clA (fun g hg => by rw [hzS]; exact owA g hg))
  have hzA := HA.out.2.2.2.2.2
  clear zxA clA owA hwS hux hfx hup hfp
  go_wp2_with (at_builtin; refine wpList_append_z wA rfl (.tmp 168) (.tmp 169) rfl (.slice (some ⟨gp, 0, none⟩) 2 cp) 2 rfl HA.out.2.2.1 (by omega) (.string ⟨#[98, 101, 104, 105, 110, 100]⟩) rfl (by simp [Act.eval]) (by omega) ?_)
  intro vp wB zpB clB owB
  have TB := Lib.hid (TS.out.second HA.out zpB clB owB)
  clear zpB clB owB
  go_wp2_with fail
  go_loopw [11, 13, 15] (fun x p i wr => ∃ (q : Nat) (vx vp : Value), q ≤ 9 ∧ vx = x ∧ vp = p ∧ i = .int .i64 q ∧ Hid (TwoZ w5.heap.size gx gp w9 wr vx vp (3 + q))) (fun _ _ i _ => 9 - (intOf i).toNat)
  case atStart => exact ⟨0, _, _, Nat.zero_le _, rfl, rfl, rfl, TB.out⟩
  case round =>
    obtain ⟨q, yx, yp, hq, rfl, rfl, rfl, hT⟩ := hrel
    obtain ⟨wk, hwk⟩ : ∃ wk, wk = wr := ⟨_, rfl⟩
    subst hwk
    have hzk := hT.out.wr.size
    by_cases hq9 : q < 9
    · have hqI : (q : Int) < 9 := by omega
      go_wp2_with (at_builtin; refine wpList_append_z wk rfl (.tmp 175) (.tmp 176) rfl yx (3 + q) rfl hT.out.x (by omega) (.string ⟨#[109, 111, 114, 101]⟩) rfl (by simp [Act.eval]) (by omega) ?_)
      intro zx wC zxC clC owC
      have HC := Lib.hid (hT.out.first zxC clC owC)
      have hzC := HC.out.2.2.2.2.2
      clear zxC clC owC
      go_wp2_with (at_builtin; refine wpList_append_z wC rfl (.tmp 178) (.tmp 179) rfl yp (3 + q) rfl HC.out.2.2.1 (by omega) (.string ⟨#[109, 111, 114, 101]⟩) rfl (by simp [Act.eval]) (by omega) ?_)
      intro zp wD zpD clD owD
      have TD := Lib.hid (hT.out.second HC.out zpD clD owD)
      clear zpD clD owD
      go_wp2
      go_roundw
      case rel => exact ⟨q + 1, _, _, by omega, rfl, rfl, by go_num, TD.out⟩
      case measure => simp [intOf]; omega
    · obtain rfl : q = 9 := by omega
      have hyk := ZY9.out.wr hT.out.wr (fun g hg h => by simp [Value.ownBlock] at hg; omega)
      have hqk := ZQ9.out.wr hT.out.wr (fun g hg h => by simp [Value.ownBlock] at hg; omega)
      have b5k : Below w5.heap.size w5 wk := B59.out.trans (hT.out.wr.below (fun k hk => by rcases hk with rfl | rfl <;> omega) B59.out.size)
      obtain ⟨wW, hwW⟩ : ∃ wW, wW = wk.alloc (.cells #[.string ⟨#[97]⟩, .string ⟨#[98]⟩] 9) := ⟨_, rfl⟩
      have hkW : Below wk.heap.size wk wW := by rw [hwW]; exact (Below.refl _ _).alloc (Nat.le_refl _) _
      have hsW : SRow wW (.slice (some ⟨wk.heap.size, 0, none⟩) 2 2) (textsB [nA, nB]) := by rw [hwW]; exact srow_laid (heap_alloc_new _ _) rfl
      have HY := Lib.hid (fun (w' : World) (h : Below wW.heap.size wW w') => (hyk.srow.kept hkW).kept h)
      have HQ := Lib.hid (fun (w' : World) (h : Below wW.heap.size wW w') => (hqk.srow.kept hkW).kept h)
      have HW := Lib.hid (fun (w' : World) (h : Below wW.heap.size wW w') => hsW.kept h)
      have HL := Lib.hid (fun (w' : World) (h : Below wW.heap.size wW w') => L5.out.below ((b5k.trans (hkW.mono b5k.size)).trans (h.mono (Nat.le_trans b5k.size hkW.size))))
      clear hyk hqk b5k hkW hsW hT L5
      go_wp2_with fail
      rw [← hwW]
      go_wp2_with fail
      ((refine (texts_ab (HY.out _ (Below.refl _ _)) (HW.out _ (Below.refl _ _))).mono ?_); rintro e wa ⟨rfl, ba⟩)
      go_wp2_with fail
      ((refine (texts_ab (HQ.out _ ba) (HW.out _ ba)).mono ?_); rintro e wb ⟨rfl, bb⟩)
      have BB := Lib.hid (ba.trans (bb.mono ba.size))
      clear ba bb
      go_wp2_with fail
      ((with_reducible refine (HL.out _ BB.out).nn_names.mono ?_); rintro e wc ⟨gc, cc, rfl, -, -, zc, bc⟩)
      have BC := Lib.hid (BB.out.trans (bc.mono BB.out.size))
      have ZC := Lib.hid zc.srow
      clear zc bc
      go_wp2_with fail
      ((refine (texts_ab ZC.out (HW.out _ BC.out)).mono ?_); rintro e wd ⟨rfl, bd⟩)
      have BD := Lib.hid (BC.out.trans (bd.mono BC.out.size))
      clear bd
      go_wp2_with fail
      ((with_reducible refine (HL.out _ BD.out).nn_lasting.mono ?_); rintro e we ⟨ge, ce, rfl, -, -, ze, be⟩)
      have BE := Lib.hid (BD.out.trans (be.mono BD.out.size))
      have ZE := Lib.hid ze.srow
      clear ze be
      go_wp2_with fail
      ((refine (texts_ab ZE.out (HW.out _ BE.out)).mono ?_); rintro e wf ⟨rfl, bf⟩)
      have BF := Lib.hid (BE.out.trans (bf.mono BE.out.size))
      clear bf
      go_wp2_with fail
      ((with_reducible refine (awake_any _).mono ?_); rintro e wg ⟨rfl, bg⟩)
      have BG := Lib.hid (BF.out.trans (bg.mono BF.out.size))
      clear bg
      go_wp2
      go_ret
      exact ⟨rfl, B1.out.trans ((HL.out _ BG.out).bel.mono B1.out.size)⟩
end Go.Proofs.Ytbjlffhnkcbnmaa
