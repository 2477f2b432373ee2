/- The walk of RespEncodes. -/
import Derived.Test.YtpngmbdchceikaaDoorDec
namespace Go.Proofs.YtpngmbdchceikaaDoor
open Go.ChangeShapes Go.WideShapes Go.ChangeAt Go.RowKit
open Pl (R Rd)
set_option linter.unusedVariables false

theorem env_pows {w : World} (h : Env w) : Pows w := h.1
theorem encV_form (r : R) : ∃ s c, encV r = .tuple #[.string s, .int .i64 c] := by
  unfold encV
  split
  · exact ⟨_, _, rfl⟩
  · exact ⟨_, _, rfl⟩
set_option maxRecDepth 100000 in
set_option maxHeartbeats 3200000 in
theorem respEncodes_walk (r : R) (lv : Value) (G : Nat → Prop) (w : World) (hok : OkR r) (hL : LIs G w lv r.l) (hE : Env w) (hlen : Pl.mayL 8 r = true → (Pl.encL 8 r).length ≤ 140737488355328) :
    Calls Tryd.prog 4 #[rv r lv] w fun e w' => e = .returned (.bool true) ∧ Below w.heap.size w w' := by
  obtain ⟨s, c, hv⟩ := encV_form r
  have hb0 : Below w.heap.size w (w.alloc (.cells #[.int .i64 r.k, .string (str r.t), .int .i64 r.n, lv] 24)) := (Below.refl _ _).alloc (Nat.le_refl _) _
  obtain ⟨ao, cp, rfl⟩ := hL.shape
  have HB0 := Lib.hid hb0
  have P0 := Lib.hid (Blk4.new (w := w) (a := .int .i64 r.k) (b := .string (str r.t)) (c := .int .i64 r.n) (d := .slice ao r.l.length cp) rfl)
  have HT := Lib.hid (twin_any r _ G _ hok (hL.later hb0))
  have HEn := Lib.hid (fun (lv : Value) (F : Nat → Prop) (W : World) (h : LIs F W lv r.l) (hp : Pows W) => encode_any r lv F W hok h hp hlen)
  have HRe := Lib.hid (fun (lv : Value) (F : Nat → Prop) (W : World) (h : LIs F W lv r.l) => refEncode_any r lv F W hok h hlen)
  rw [hv] at HEn HRe
  have HM := Lib.hid (fun (lv : Value) (F : Nat → Prop) (W : World) (h : LIs F W lv r.l) => may8_any r lv F W hok h)
  have HMR := Lib.hid (fun (lv : Value) (F : Nat → Prop) (W : World) (h : LIs F W lv r.l) => refMay8_any r lv F W hok h)
  unfold MayEnd at HM HMR
  have HS := Lib.hid (fun (lv lv' : Value) (F F' : Nat → Prop) (W : World) (h : LIs F W lv r.l) (h' : LIs F' W lv' r.l) => same_any r lv lv' F F' W hok h h')
  have HL := Lib.hid hL
  have HE := Lib.hid hE
  have HA := Lib.hid (fun W (h : Env W) => awake_any W h)
  clear hL hE hok hb0 hv hlen
  generalize Pl.mayL 8 r = bm at *
  go_enter Tryd.func4, Tryd.ntmps4
  go_wp2_with fail
  ((with_reducible refine HT.out.mono ?_); rintro e w2 ⟨v2, rfl, hr2, b2⟩)
  obtain ⟨a2, c2, rfl⟩ := hr2.shape
  have B2 := Lib.hid (HB0.out.trans (b2.mono HB0.out.size))
  have P2 := Lib.hid (P0.out.later b2)
  have B3 := Lib.hid (show Below w2.heap.size w2 (w2.alloc (.cells #[.int .i64 r.k, .string (str r.t), .int .i64 r.n, .slice a2 r.l.length c2] 24)) from (Below.refl _ _).alloc (Nat.le_refl _) _)
  have L3 := Lib.hid (hr2.lis.later B3.out)
  have P3 := Lib.hid (P2.out.later B3.out)
  have G3 := Lib.hid (Blk4.new (w := w2) (a := .int .i64 r.k) (b := .string (str r.t)) (c := .int .i64 r.n) (d := .slice a2 r.l.length c2) rfl)
  have B3w := Lib.hid (B2.out.trans (B3.out.mono B2.out.size))
  have hg := B2.out.size
  have hP2 := P2.out.lt
  clear hr2 b2
  go_wp2_with fail
  ((with_reducible refine (HEn.out _ _ _ L3.out (env_pows (HE.out.kept B3w.out))).mono ?_); rintro e w4 ⟨rfl, b4⟩)
  have L4 := Lib.hid (L3.out.later b4)
  have P4 := Lib.hid (P3.out.later b4)
  have G4 := Lib.hid (G3.out.later b4)
  have B4w := Lib.hid (B3w.out.trans (b4.mono B3w.out.size))
  obtain ⟨p0, p1, p2, p3⟩ := P4.out.cells
  clear b4
  go_wp2_with fail
  ((with_reducible refine (HRe.out _ _ _ (HL.out.later B4w.out)).mono ?_); rintro e w5 ⟨rfl, b5⟩)
  have L5 := Lib.hid (L4.out.later b5)
  have P5 := Lib.hid (P4.out.later b5)
  have G5 := Lib.hid (G4.out.later b5)
  have B5w := Lib.hid (B4w.out.trans (b5.mono B4w.out.size))
  clear b5 p0 p1 p2 p3
  have KC := Lib.hid (fun W (h : Below w5.heap.size w5 W) => And.intro (P5.out.later h).cells (G5.out.later h).cells)
  go_wp2_with fail
  refine wp_region_held_drew (S := (fun W => Below w5.heap.size w5 W ∧ (W.cell? ⟨w.heap.size, 0, none⟩ = some (.int .i64 r.k) ∧ W.cell? ⟨w.heap.size, 1, none⟩ = some (.string (str r.t)) ∧ W.cell? ⟨w.heap.size, 2, none⟩ = some (.int .i64 r.n) ∧ W.cell? ⟨w.heap.size, 3, none⟩ = some (.slice ao r.l.length cp)) ∧ (W.cell? ⟨w2.heap.size, 0, none⟩ = some (.int .i64 r.k) ∧ W.cell? ⟨w2.heap.size, 1, none⟩ = some (.string (str r.t)) ∧ W.cell? ⟨w2.heap.size, 2, none⟩ = some (.int .i64 r.n) ∧ W.cell? ⟨w2.heap.size, 3, none⟩ = some (.slice a2 r.l.length c2)))) (by kernel_rfl) ?_ (fun hHeld => ?_)
  · refine (fun h => And.intro h (KC.out _ h)) ?_; first | assumption | exact Below.refl _ _ | exact (Below.refl _ _).drew | exact hHeld.1.trans (bx.mono hHeld.1.size) | exact hHeld.1.trans ((bx.mono hHeld.1.size).drew) | exact Below.drew ‹_›
  refine wpAnyH_take (i := 0) (oi := (Go.Oper.mk (some 20) (Go.Op.load 24 (Go.Operand.tmp 3)) 24 _ #[] none)) (v := ?_) rfl (by kernel_rfl) (by kernel_rfl) (by kernel_rfl) (fun _ _ _ h => h) (Or.inl ⟨by rfl, ?_⟩) hHeld ?_
  rotate_left
  · intro w hSw; (try dsimp only at hSw); go_simp; (try with_reducible rfl)
  simp only [Act.put, List.setIfInBounds_toArray, List.set_cons_zero, List.set_cons_succ]
  refine wpAnyH_take (i := 2) (oi := (Go.Oper.mk (some 22) (Go.Op.load 24 (Go.Operand.tmp 1)) 24 _ #[] none)) (v := ?_) rfl (by kernel_rfl) (by kernel_rfl) (by kernel_rfl) (fun _ _ _ h => h) (Or.inl ⟨by rfl, ?_⟩) hHeld ?_
  rotate_left
  · intro w hSw; (try dsimp only at hSw); go_simp; (try with_reducible rfl)
  simp only [Act.put, List.setIfInBounds_toArray, List.set_cons_zero, List.set_cons_succ]
  refine wpAnyH_ready (rs := [1]) (by kernel_rfl) (by simp) ?_
  refine (AllReadyH.cons (o := (Go.Oper.mk (some 21) (Go.Op.call (Go.Call.mk (Go.Callee.value (Go.Operand.func 16)) #[Go.Operand.tmp 20] #[24])) 4 _ #[Go.Edge.mk 0 Go.Ground.data] none)) rfl (fun K hK => ?_) AllReadyH.nil)
  · skip
    go_simp
    (with_reducible refine (HM.out _ _ _ (L5.out.later hHeld.1)).mono ?_); rintro e wx ⟨rfl, bx⟩
    go_wp2_with fail
    refine hK.out _ _ ?_ (fun hHeld => ?_)
    · refine (fun h => And.intro h (KC.out _ h)) ?_; first | assumption | exact Below.refl _ _ | exact (Below.refl _ _).drew | exact hHeld.1.trans (bx.mono hHeld.1.size) | exact hHeld.1.trans ((bx.mono hHeld.1.size).drew) | exact Below.drew ‹_›
    clear hK K
    (try simp only [Act.put, List.setIfInBounds_toArray, List.set_cons_zero, List.set_cons_succ])
    refine wpAnyH_ready (rs := [3]) (by kernel_rfl) (by simp) ?_
    refine (AllReadyH.cons (o := (Go.Oper.mk (some 23) (Go.Op.call (Go.Call.mk (Go.Callee.value (Go.Operand.func 17)) #[Go.Operand.tmp 22] #[24])) 4 _ #[Go.Edge.mk 2 Go.Ground.data, Go.Edge.mk 1 Go.Ground.chain] none)) rfl (fun K hK => ?_) AllReadyH.nil)
    · skip
      go_simp
      (with_reducible refine (HMR.out _ _ _ (HL.out.later (B5w.out.trans (hHeld.1.mono B5w.out.size)))).mono ?_); rintro e wx ⟨rfl, bx⟩
      go_wp2_with fail
      refine hK.out _ _ ?_ (fun hHeld => ?_)
      · refine (fun h => And.intro h (KC.out _ h)) ?_; first | assumption | exact Below.refl _ _ | exact (Below.refl _ _).drew | exact hHeld.1.trans (bx.mono hHeld.1.size) | exact hHeld.1.trans ((bx.mono hHeld.1.size).drew) | exact Below.drew ‹_›
      clear hK K
      (try simp only [Act.put, List.setIfInBounds_toArray, List.set_cons_zero, List.set_cons_succ])
      refine wpAnyH_take (i := 4) (oi := (Go.Oper.mk (some 24) (Go.Op.binOp Go.BinOp.eql 4 (Go.Operand.tmp 21) (Go.Operand.tmp 23) 4) 4 _ #[Go.Edge.mk 1 Go.Ground.data, Go.Edge.mk 3 Go.Ground.data] none)) (v := ?_) rfl (by kernel_rfl) (by kernel_rfl) (by kernel_rfl) (fun _ _ _ h => h) (Or.inl ⟨by rfl, ?_⟩) hHeld ?_
      rotate_left
      · intro w hSw; (try dsimp only at hSw); go_simp; (try with_reducible rfl)
      simp only [Act.put, List.setIfInBounds_toArray, List.set_cons_zero, List.set_cons_succ]
      refine wpAnyH_take (i := 5) (oi := (Go.Oper.mk (some 25) (Go.Op.move (Go.Operand.tmp 24)) 4 _ #[Go.Edge.mk 4 Go.Ground.data, Go.Edge.mk 3 Go.Ground.chain] none)) (v := ?_) rfl (by kernel_rfl) (by kernel_rfl) (by kernel_rfl) (fun _ _ _ h => h) (Or.inl ⟨by rfl, ?_⟩) hHeld ?_
      rotate_left
      · intro w hSw; (try dsimp only at hSw); go_simp; (try with_reducible rfl)
      simp only [Act.put, List.setIfInBounds_toArray, List.set_cons_zero, List.set_cons_succ]
      refine wpAnyH_take (i := 6) (oi := (Go.Oper.mk (some 26) (Go.Op.move (Go.Operand.tmp 4)) 9 _ #[Go.Edge.mk 5 Go.Ground.guard] (some (5, true)))) (v := ?_) rfl (by kernel_rfl) (by kernel_rfl) (by kernel_rfl) (fun _ _ _ h => h) (Or.inl ⟨by rfl, ?_⟩) hHeld ?_
      rotate_left
      · intro w hSw; (try dsimp only at hSw); go_simp; (try with_reducible rfl)
      simp only [Act.put, List.setIfInBounds_toArray, List.set_cons_zero, List.set_cons_succ]
      refine wpAnyH_take (i := 7) (oi := (Go.Oper.mk (some 27) (Go.Op.move (Go.Operand.tmp 6)) 9 _ #[Go.Edge.mk 5 Go.Ground.guard] (some (5, true)))) (v := ?_) rfl (by kernel_rfl) (by kernel_rfl) (by kernel_rfl) (fun _ _ _ h => h) (Or.inl ⟨by rfl, ?_⟩) hHeld ?_
      rotate_left
      · intro w hSw; (try dsimp only at hSw); go_simp; (try with_reducible rfl)
      simp only [Act.put, List.setIfInBounds_toArray, List.set_cons_zero, List.set_cons_succ]
      refine wpAnyH_take (i := 8) (oi := (Go.Oper.mk (some 28) (Go.Op.binOp Go.BinOp.eql 9 (Go.Operand.tmp 26) (Go.Operand.tmp 27) 9) 4 _ #[Go.Edge.mk 6 Go.Ground.data, Go.Edge.mk 7 Go.Ground.data, Go.Edge.mk 5 Go.Ground.guard] (some (5, true)))) (v := ?_) rfl (by kernel_rfl) (by kernel_rfl) (by kernel_rfl) (fun _ _ _ h => h) (Or.inl ⟨by rfl, ?_⟩) hHeld ?_
      rotate_left
      · intro w hSw; (try dsimp only at hSw); go_simp; (try with_reducible rfl)
      simp only [Act.put, List.setIfInBounds_toArray, List.set_cons_zero, List.set_cons_succ]
      refine wpAnyH_take (i := 9) (oi := (Go.Oper.mk (some 29) (Go.Op.pick (Go.Operand.tmp 25) (Go.Operand.tmp 28) (Go.Operand.const (Go.Value.bool false))) 4 _ #[Go.Edge.mk 5 Go.Ground.data, Go.Edge.mk 8 Go.Ground.data] none)) (v := ?_) rfl (by kernel_rfl) (by kernel_rfl) (by kernel_rfl) (fun _ _ _ h => h) (Or.inl ⟨by rfl, ?_⟩) hHeld ?_
      rotate_left
      · intro w hSw; (try dsimp only at hSw); go_simp; (try with_reducible rfl)
      simp only [Act.put, List.setIfInBounds_toArray, List.set_cons_zero, List.set_cons_succ]
      refine wpAnyH_take (i := 10) (oi := (Go.Oper.mk (some 30) (Go.Op.move (Go.Operand.tmp 29)) 4 _ #[Go.Edge.mk 9 Go.Ground.data, Go.Edge.mk 5 Go.Ground.chain] none)) (v := ?_) rfl (by kernel_rfl) (by kernel_rfl) (by kernel_rfl) (fun _ _ _ h => h) (Or.inl ⟨by rfl, ?_⟩) hHeld ?_
      rotate_left
      · intro w hSw; (try dsimp only at hSw); go_simp; (try with_reducible rfl)
      simp only [Act.put, List.setIfInBounds_toArray, List.set_cons_zero, List.set_cons_succ]
      refine wpAnyH_take (i := 11) (oi := (Go.Oper.mk (some 31) (Go.Op.move (Go.Operand.tmp 5)) 28 _ #[Go.Edge.mk 10 Go.Ground.guard] (some (10, true)))) (v := ?_) rfl (by kernel_rfl) (by kernel_rfl) (by kernel_rfl) (fun _ _ _ h => h) (Or.inl ⟨by rfl, ?_⟩) hHeld ?_
      rotate_left
      · intro w hSw; (try dsimp only at hSw); go_simp; (try with_reducible rfl)
      simp only [Act.put, List.setIfInBounds_toArray, List.set_cons_zero, List.set_cons_succ]
      refine wpAnyH_take (i := 12) (oi := (Go.Oper.mk (some 32) (Go.Op.move (Go.Operand.tmp 7)) 3 _ #[Go.Edge.mk 10 Go.Ground.guard] (some (10, true)))) (v := ?_) rfl (by kernel_rfl) (by kernel_rfl) (by kernel_rfl) (fun _ _ _ h => h) (Or.inl ⟨by rfl, ?_⟩) hHeld ?_
      rotate_left
      · intro w hSw; (try dsimp only at hSw); go_simp; (try with_reducible rfl)
      simp only [Act.put, List.setIfInBounds_toArray, List.set_cons_zero, List.set_cons_succ]
      refine wpAnyH_take (i := 13) (oi := (Go.Oper.mk (some 33) (Go.Op.binOp Go.BinOp.eql 3 (Go.Operand.tmp 31) (Go.Operand.tmp 32) 3) 4 _ #[Go.Edge.mk 11 Go.Ground.data, Go.Edge.mk 12 Go.Ground.data, Go.Edge.mk 10 Go.Ground.guard] (some (10, true)))) (v := ?_) rfl (by kernel_rfl) (by kernel_rfl) (by kernel_rfl) (fun _ _ _ h => h) (Or.inl ⟨by rfl, ?_⟩) hHeld ?_
      rotate_left
      · intro w hSw; (try dsimp only at hSw); go_simp; (try with_reducible rfl)
      simp only [Act.put, List.setIfInBounds_toArray, List.set_cons_zero, List.set_cons_succ]
      refine wpAnyH_take (i := 14) (oi := (Go.Oper.mk (some 34) (Go.Op.pick (Go.Operand.tmp 30) (Go.Operand.tmp 33) (Go.Operand.const (Go.Value.bool false))) 4 _ #[Go.Edge.mk 10 Go.Ground.data, Go.Edge.mk 13 Go.Ground.data] none)) (v := ?_) rfl (by kernel_rfl) (by kernel_rfl) (by kernel_rfl) (fun _ _ _ h => h) (Or.inl ⟨by rfl, ?_⟩) hHeld ?_
      rotate_left
      · intro w hSw; (try dsimp only at hSw); go_simp; (try with_reducible rfl)
      simp only [Act.put, List.setIfInBounds_toArray, List.set_cons_zero, List.set_cons_succ]
      refine wpAnyH_take (i := 15) (oi := (Go.Oper.mk (some 35) (Go.Op.move (Go.Operand.tmp 34)) 4 _ #[Go.Edge.mk 14 Go.Ground.data, Go.Edge.mk 10 Go.Ground.chain] none)) (v := ?_) rfl (by kernel_rfl) (by kernel_rfl) (by kernel_rfl) (fun _ _ _ h => h) (Or.inl ⟨by rfl, ?_⟩) hHeld ?_
      rotate_left
      · intro w hSw; (try dsimp only at hSw); go_simp; (try with_reducible rfl)
      simp only [Act.put, List.setIfInBounds_toArray, List.set_cons_zero, List.set_cons_succ]
      refine wpAnyH_take (i := 16) (oi := (Go.Oper.mk (some 36) (Go.Op.load 24 (Go.Operand.tmp 3)) 24 _ #[Go.Edge.mk 15 Go.Ground.guard] (some (15, true)))) (v := ?_) rfl (by kernel_rfl) (by kernel_rfl) (by kernel_rfl) (fun _ _ _ h => h) (Or.inl ⟨by rfl, ?_⟩) hHeld ?_
      rotate_left
      · intro w hSw; (try dsimp only at hSw); go_simp; (try with_reducible rfl)
      simp only [Act.put, List.setIfInBounds_toArray, List.set_cons_zero, List.set_cons_succ]
      refine wpAnyH_take (i := 17) (oi := (Go.Oper.mk (some 37) (Go.Op.load 24 (Go.Operand.tmp 1)) 24 _ #[Go.Edge.mk 15 Go.Ground.guard] (some (15, true)))) (v := ?_) rfl (by kernel_rfl) (by kernel_rfl) (by kernel_rfl) (fun _ _ _ h => h) (Or.inl ⟨by rfl, ?_⟩) hHeld ?_
      rotate_left
      · intro w hSw; (try dsimp only at hSw); go_simp; (try with_reducible rfl)
      simp only [Act.put, List.setIfInBounds_toArray, List.set_cons_zero, List.set_cons_succ]
      refine wpAnyH_ready (rs := [18]) (by kernel_rfl) (by simp) ?_
      refine (AllReadyH.cons (o := (Go.Oper.mk (some 38) (Go.Op.call (Go.Call.mk (Go.Callee.value (Go.Operand.func 18)) #[Go.Operand.tmp 36, Go.Operand.tmp 37] #[24, 24])) 4 _ #[Go.Edge.mk 16 Go.Ground.data, Go.Edge.mk 17 Go.Ground.data, Go.Edge.mk 15 Go.Ground.chain, Go.Edge.mk 15 Go.Ground.guard] (some (15, true)))) rfl (fun K hK => ?_) AllReadyH.nil)
      · skip
        go_simp
        (with_reducible refine (HS.out _ _ _ _ _ (L5.out.later hHeld.1) (HL.out.later (B5w.out.trans (hHeld.1.mono B5w.out.size)))).mono ?_); rintro e wx ⟨rfl, bx⟩
        go_wp2_with fail
        refine hK.out _ _ ?_ (fun hHeld => ?_)
        · refine (fun h => And.intro h (KC.out _ h)) ?_; first | assumption | exact Below.refl _ _ | exact (Below.refl _ _).drew | exact hHeld.1.trans (bx.mono hHeld.1.size) | exact hHeld.1.trans ((bx.mono hHeld.1.size).drew) | exact Below.drew ‹_›
        clear hK K
        (try simp only [Act.put, List.setIfInBounds_toArray, List.set_cons_zero, List.set_cons_succ])
        refine wpAnyH_take (i := 19) (oi := (Go.Oper.mk (some 39) (Go.Op.pick (Go.Operand.tmp 35) (Go.Operand.tmp 38) (Go.Operand.const (Go.Value.bool false))) 4 _ #[Go.Edge.mk 15 Go.Ground.data, Go.Edge.mk 18 Go.Ground.data] none)) (v := ?_) rfl (by kernel_rfl) (by kernel_rfl) (by kernel_rfl) (fun _ _ _ h => h) (Or.inl ⟨by rfl, ?_⟩) hHeld ?_
        rotate_left
        · intro w hSw; (try dsimp only at hSw); go_simp; (try with_reducible rfl)
        simp only [Act.put, List.setIfInBounds_toArray, List.set_cons_zero, List.set_cons_succ]
        refine wpAnyH_take (i := 20) (oi := (Go.Oper.mk (some 40) (Go.Op.move (Go.Operand.tmp 39)) 4 _ #[Go.Edge.mk 19 Go.Ground.data, Go.Edge.mk 18 Go.Ground.chain] none)) (v := ?_) rfl (by kernel_rfl) (by kernel_rfl) (by kernel_rfl) (fun _ _ _ h => h) (Or.inl ⟨by rfl, ?_⟩) hHeld ?_
        rotate_left
        · intro w hSw; (try dsimp only at hSw); go_simp; (try with_reducible rfl)
        simp only [Act.put, List.setIfInBounds_toArray, List.set_cons_zero, List.set_cons_succ]
        refine wpAnyH_ready (rs := [21]) (by kernel_rfl) (by simp) ?_
        refine (AllReadyH.cons (o := (Go.Oper.mk (some 41) (Go.Op.call (Go.Call.mk (Go.Callee.value (Go.Operand.func 19)) #[] #[])) 4 _ #[Go.Edge.mk 20 Go.Ground.chain, Go.Edge.mk 20 Go.Ground.guard] (some (20, true)))) rfl (fun K hK => ?_) AllReadyH.nil)
        · skip
          go_simp
          (with_reducible refine (HA.out _ (HE.out.kept (B5w.out.trans (hHeld.1.mono B5w.out.size)))).mono ?_); rintro e wx ⟨rfl, bx⟩
          go_wp2_with fail
          refine hK.out _ _ ?_ (fun hHeld => ?_)
          · refine (fun h => And.intro h (KC.out _ h)) ?_; first | assumption | exact Below.refl _ _ | exact (Below.refl _ _).drew | exact hHeld.1.trans (bx.mono hHeld.1.size) | exact hHeld.1.trans ((bx.mono hHeld.1.size).drew) | exact Below.drew ‹_›
          clear hK K
          (try simp only [Act.put, List.setIfInBounds_toArray, List.set_cons_zero, List.set_cons_succ])
          refine wpAnyH_take (i := 22) (oi := (Go.Oper.mk (some 42) (Go.Op.pick (Go.Operand.tmp 40) (Go.Operand.tmp 41) (Go.Operand.const (Go.Value.bool false))) 4 _ #[Go.Edge.mk 20 Go.Ground.data, Go.Edge.mk 21 Go.Ground.data] none)) (v := ?_) rfl (by kernel_rfl) (by kernel_rfl) (by kernel_rfl) (fun _ _ _ h => h) (Or.inl ⟨by rfl, ?_⟩) hHeld ?_
          rotate_left
          · intro w hSw; (try dsimp only at hSw); go_simp; (try with_reducible rfl)
          simp only [Act.put, List.setIfInBounds_toArray, List.set_cons_zero, List.set_cons_succ]
          refine wpAnyH_take (i := 23) (oi := (Go.Oper.mk (some 2) (Go.Op.assign (Go.Operand.tmp 42)) 4 _ #[Go.Edge.mk 22 Go.Ground.data, Go.Edge.mk 21 Go.Ground.chain, Go.Edge.mk 0 Go.Ground.phase, Go.Edge.mk 1 Go.Ground.phase, Go.Edge.mk 2 Go.Ground.phase, Go.Edge.mk 3 Go.Ground.phase, Go.Edge.mk 4 Go.Ground.phase, Go.Edge.mk 5 Go.Ground.phase, Go.Edge.mk 6 Go.Ground.phase, Go.Edge.mk 7 Go.Ground.phase, Go.Edge.mk 8 Go.Ground.phase, Go.Edge.mk 9 Go.Ground.phase, Go.Edge.mk 10 Go.Ground.phase, Go.Edge.mk 11 Go.Ground.phase, Go.Edge.mk 12 Go.Ground.phase, Go.Edge.mk 13 Go.Ground.phase, Go.Edge.mk 14 Go.Ground.phase, Go.Edge.mk 15 Go.Ground.phase, Go.Edge.mk 16 Go.Ground.phase, Go.Edge.mk 17 Go.Ground.phase, Go.Edge.mk 18 Go.Ground.phase, Go.Edge.mk 19 Go.Ground.phase, Go.Edge.mk 20 Go.Ground.phase, Go.Edge.mk 21 Go.Ground.phase, Go.Edge.mk 22 Go.Ground.phase] none)) (v := ?_) rfl (by kernel_rfl) (by kernel_rfl) (by kernel_rfl) (fun _ _ _ h => h) (Or.inl ⟨by rfl, ?_⟩) hHeld ?_
          rotate_left
          · intro w hSw; (try dsimp only at hSw); go_simp; (try with_reducible rfl)
          simp only [Act.put, List.setIfInBounds_toArray, List.set_cons_zero, List.set_cons_succ]
          refine wpAnyH_done (by kernel_rfl) ?_ _
          go_wp2
          go_ret
          exact ⟨by simp, B5w.out.trans (hHeld.1.mono B5w.out.size)⟩
end Go.Proofs.YtpngmbdchceikaaDoor
