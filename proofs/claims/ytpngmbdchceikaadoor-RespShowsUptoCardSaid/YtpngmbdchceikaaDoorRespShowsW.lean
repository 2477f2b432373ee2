/- The walk of RespShows. -/
import Derived.Test.YtpngmbdchceikaaDoorShow2
namespace Go.Proofs.YtpngmbdchceikaaDoor
open Go.ChangeShapes Go.WideShapes Go.ChangeAt Go.RowKit
open Pl (R)
set_option linter.unusedVariables false

/-- Any reply for people. -/
def showV (r : R) : List UInt8 := if Pl.mayL 8 r = true then Pl.showL 8 r else [63]
set_option maxRecDepth 100000 in
set_option maxHeartbeats 3200000 in
theorem Show_any (r : R) (lv : Value) (F : Nat → Prop) (w : World) (hok : OkR r) (hL : LIs F w lv r.l) (hlen : Pl.mayL 8 r = true → (Pl.encL 8 r).length ≤ 1073741824) (hp : Pows w) :
    Calls Tryd.prog 11 #[rv r lv] w fun e w' => e = .returned (.string (str (showV r))) ∧ Below w.heap.size w w' := by
  have hb0 : Below w.heap.size w (w.alloc (.cells #[.int .i64 r.k, .string (str r.t), .int .i64 r.n, lv] 24)) := (Below.refl _ _).alloc (Nat.le_refl _) _
  obtain ⟨ao, cp, rfl⟩ := hL.shape
  have HB0 := Lib.hid hb0
  have P0 := Lib.hid (Blk4.new (w := w) (a := .int .i64 r.k) (b := .string (str r.t)) (c := .int .i64 r.n) (d := .slice ao r.l.length cp) rfl)
  have H := Lib.hid (may8_any r (.slice ao r.l.length cp) F (w.alloc (.cells #[.int .i64 r.k, .string (str r.t), .int .i64 r.n, .slice ao r.l.length cp] 24)) hok (hL.later hb0))
  unfold MayEnd at H
  have HL := Lib.hid hL
  have HP := Lib.hid hp
  have HI := Lib.hid (fun W (h : LIs F W (.slice ao r.l.length cp) r.l) (hp : Pows W) (hm : Pl.mayL 8 r = true) => show_any 8 (Nat.le_refl _) r (.slice ao r.l.length cp) F W hok h hm (hlen hm) hp)
  unfold ShowEnd at HI
  clear hb0 hok hL hp hlen
  by_cases hm : Pl.mayL 8 r = true
  · rw [hm] at H
    have HM := Lib.hid hm
    have HV := Lib.hid (show showV r = Pl.showL 8 r by unfold showV; rw [if_pos hm])
    clear hm
    go_enter Tryd.func11, Tryd.ntmps11
    go_wp2_with fail
    ((with_reducible refine H.out.mono ?_); rintro e w1 ⟨rfl, b1⟩)
    have HB1 := Lib.hid (HB0.out.trans (b1.mono HB0.out.size))
    have P1 := Lib.hid (P0.out.later b1)
    obtain ⟨p0, p1, p2, p3⟩ := P1.out.cells
    clear b1
    go_wp2_with fail
    ((with_reducible refine (HI.out _ (HL.out.later HB1.out) (HP.out.kept (B := 0) HB1.out) HM.out).mono ?_); rintro e w2 ⟨rfl, b2⟩)
    go_wp2
    go_ret
    exact ⟨by rw [HV.out]; rfl, HB1.out.trans (b2.mono HB1.out.size)⟩
  · have HV := Lib.hid (show showV r = [63] by unfold showV; rw [if_neg hm])
    rw [Bool.not_eq_true] at hm
    rw [hm] at H
    clear hm
    go_enter Tryd.func11, Tryd.ntmps11
    go_wp2_with fail
    ((with_reducible refine H.out.mono ?_); rintro e w1 ⟨rfl, b1⟩)
    go_wp2
    go_ret
    exact ⟨by rw [HV.out]; rfl, HB0.out.trans (b1.mono HB0.out.size)⟩
set_option maxRecDepth 100000 in
set_option maxHeartbeats 3200000 in
theorem refShow_any (r : R) (lv : Value) (F : Nat → Prop) (w : World) (hok : OkR r) (hL : LIs F w lv r.l) (hlen : Pl.mayL 8 r = true → (Pl.encL 8 r).length ≤ 1073741824) (hp : Pows w) :
    Calls Tryd.prog 12 #[rv r lv] w fun e w' => e = .returned (.string (str (showV r))) ∧ Below w.heap.size w w' := by
  by_cases hm : Pl.mayL 8 r = true
  · have := rshow_any 8 (Nat.le_refl _) r lv F w hok hL hm (hlen hm) hp
    unfold ShowEnd at this
    have hv : showV r = Pl.showL 8 r := by unfold showV; rw [if_pos hm]
    rw [← hv] at this
    exact this
  · have hb0 : Below w.heap.size w (w.alloc (.cells #[.int .i64 r.k, .string (str r.t), .int .i64 r.n, lv] 24)) := (Below.refl _ _).alloc (Nat.le_refl _) _
    obtain ⟨ao, cp, rfl⟩ := hL.shape
    have HB0 := Lib.hid hb0
    have H := Lib.hid (refMay8_any r (.slice ao r.l.length cp) F (w.alloc (.cells #[.int .i64 r.k, .string (str r.t), .int .i64 r.n, .slice ao r.l.length cp] 24)) hok (hL.later hb0))
    unfold MayEnd at H
    have HV := Lib.hid (show showV r = [63] by unfold showV; rw [if_neg hm])
    rw [Bool.not_eq_true] at hm
    rw [hm] at H
    clear hm hb0 hok hL hp hlen
    go_enter Tryd.func12, Tryd.ntmps12
    go_wp2_with fail
    ((with_reducible refine H.out.mono ?_); rintro e w1 ⟨rfl, b1⟩)
    go_wp2
    go_ret
    exact ⟨by rw [HV.out]; rfl, HB0.out.trans (b1.mono HB0.out.size)⟩
set_option maxRecDepth 100000 in
set_option maxHeartbeats 3200000 in
theorem respShows_walk (r : R) (lv : Value) (G : Nat → Prop) (w : World) (hok : OkR r) (hL : LIs G w lv r.l) (hp : Pows w) (hlen : (Pl.encL 8 r).length ≤ 1073741824) :
    Calls Tryd.prog 3 #[rv r lv] w fun e w' => e = .returned (.bool true) ∧ Below w.heap.size w w' := by
  have hb0 : Below w.heap.size w (w.alloc (.cells #[.int .i64 r.k, .string (str r.t), .int .i64 r.n, lv] 24)) := (Below.refl _ _).alloc (Nat.le_refl _) _
  obtain ⟨ao, cp, rfl⟩ := hL.shape
  have P0 := Lib.hid (Blk4.new (w := w) (a := .int .i64 r.k) (b := .string (str r.t)) (c := .int .i64 r.n) (d := .slice ao r.l.length cp) rfl)
  obtain ⟨X, hX⟩ : ∃ X, str (showV r) = X := ⟨_, rfl⟩
  have H1 := Lib.hid (fun W (h : LIs G W (.slice ao r.l.length cp) r.l) (hp : Pows W) => by have := Show_any r (.slice ao r.l.length cp) G W hok h (fun _ => hlen) hp; rw [hX] at this; exact this)
  have H2 := Lib.hid (fun W (h : LIs G W (.slice ao r.l.length cp) r.l) (hp : Pows W) => by have := refShow_any r (.slice ao r.l.length cp) G W hok h (fun _ => hlen) hp; rw [hX] at this; exact this)
  have H3 := Lib.hid (fun W (hp : Pows W) => show Calls Tryd.prog 11 #[.agg #[.int .i64 5, .string ⟨#[]⟩, .int .i64 0, .slice none 0 0]] W fun e w' => e = .returned (.string ⟨#[40, 110, 105, 108, 41]⟩) ∧ Below W.heap.size W w' from by
    have := Show_any (.mk 5 [] 0 []) (.slice none 0 0) (fun _ => True) W (by simp [OkR, R.n, R.t, R.l]) (.nil _ _) (fun _ => by rw [enc_5]; simp) hp
    have hv : showV (.mk 5 [] 0 []) = [40, 110, 105, 108, 41] := by unfold showV; rw [if_pos (Pl.flat_may 8 rfl), Pl.show_5]
    rw [hv] at this
    exact this)
  have HL := Lib.hid (hL.later hb0)
  have HP := Lib.hid (hp.kept (B := 0) hb0)
  obtain ⟨w1, hw1⟩ : ∃ w1, w.alloc (.cells #[.int .i64 r.k, .string (str r.t), .int .i64 r.n, .slice ao r.l.length cp] 24) = w1 := ⟨_, rfl⟩
  rw [hw1] at hb0 P0 HL HP
  have HB := Lib.hid hb0
  have KC := Lib.hid (fun W (h : Below w1.heap.size w1 W) => (P0.out.later h).cells)
  clear hb0 hok hL hp hlen hX
  go_enter Tryd.func3, Tryd.ntmps3
  go_wp2_with fail
  refine wp_region_held_drew (S := (fun W => Below w1.heap.size w1 W ∧ (W.cell? ⟨w.heap.size, 0, none⟩ = some (.int .i64 r.k) ∧ W.cell? ⟨w.heap.size, 1, none⟩ = some (.string (str r.t)) ∧ W.cell? ⟨w.heap.size, 2, none⟩ = some (.int .i64 r.n) ∧ W.cell? ⟨w.heap.size, 3, none⟩ = some (.slice ao r.l.length cp)))) (by kernel_rfl) ?_ (fun hHeld => ?_)
  · refine (fun h => And.intro h (KC.out _ h)) ?_; first | assumption | exact Below.refl _ _ | exact (Below.refl _ _).drew | exact hHeld.1.trans (bx.mono hHeld.1.size) | exact hHeld.1.trans ((bx.mono hHeld.1.size).drew) | exact Below.drew ‹_›
  refine wpAnyH_take (i := 0) (oi := (Go.Oper.mk (some 3) (Go.Op.load 24 (Go.Operand.tmp 1)) 24 _ #[] none)) (v := ?_) rfl (by kernel_rfl) (by kernel_rfl) (by kernel_rfl) (fun _ _ _ h => h) (Or.inl ⟨by rfl, ?_⟩) hHeld ?_
  rotate_left
  · intro w hSw; (try dsimp only at hSw); go_simp; (try with_reducible rfl)
  simp only [Act.put, List.setIfInBounds_toArray, List.set_cons_zero, List.set_cons_succ]
  refine wpAnyH_take (i := 2) (oi := (Go.Oper.mk (some 5) (Go.Op.load 24 (Go.Operand.tmp 1)) 24 _ #[] none)) (v := ?_) rfl (by kernel_rfl) (by kernel_rfl) (by kernel_rfl) (fun _ _ _ h => h) (Or.inl ⟨by rfl, ?_⟩) hHeld ?_
  rotate_left
  · intro w hSw; (try dsimp only at hSw); go_simp; (try with_reducible rfl)
  simp only [Act.put, List.setIfInBounds_toArray, List.set_cons_zero, List.set_cons_succ]
  refine wpAnyH_ready (rs := [1]) (by kernel_rfl) (by simp) ?_
  refine (AllReadyH.cons (o := (Go.Oper.mk (some 4) (Go.Op.call (Go.Call.mk (Go.Callee.value (Go.Operand.func 11)) #[Go.Operand.tmp 3] #[24])) 9 _ #[Go.Edge.mk 0 Go.Ground.data] none)) rfl (fun K hK => ?_) AllReadyH.nil)
  · skip
    go_simp
    (with_reducible refine (H1.out _ (HL.out.later hHeld.1) (HP.out.kept (B := 0) hHeld.1)).mono ?_); rintro e wx ⟨rfl, bx⟩
    go_wp2_with fail
    refine hK.out _ _ ?_ (fun hHeld => ?_)
    · refine (fun h => And.intro h (KC.out _ h)) ?_; first | assumption | exact Below.refl _ _ | exact (Below.refl _ _).drew | exact hHeld.1.trans (bx.mono hHeld.1.size) | exact hHeld.1.trans ((bx.mono hHeld.1.size).drew) | exact Below.drew ‹_›
    clear hK K
    (try simp only [Act.put, List.setIfInBounds_toArray, List.set_cons_zero, List.set_cons_succ])
    refine wpAnyH_ready (rs := [3]) (by kernel_rfl) (by simp) ?_
    refine (AllReadyH.cons (o := (Go.Oper.mk (some 6) (Go.Op.call (Go.Call.mk (Go.Callee.value (Go.Operand.func 12)) #[Go.Operand.tmp 5] #[24])) 9 _ #[Go.Edge.mk 2 Go.Ground.data, Go.Edge.mk 1 Go.Ground.chain] none)) rfl (fun K hK => ?_) AllReadyH.nil)
    · skip
      go_simp
      (with_reducible refine (H2.out _ (HL.out.later hHeld.1) (HP.out.kept (B := 0) hHeld.1)).mono ?_); rintro e wx ⟨rfl, bx⟩
      go_wp2_with fail
      refine hK.out _ _ ?_ (fun hHeld => ?_)
      · refine (fun h => And.intro h (KC.out _ h)) ?_; first | assumption | exact Below.refl _ _ | exact (Below.refl _ _).drew | exact hHeld.1.trans (bx.mono hHeld.1.size) | exact hHeld.1.trans ((bx.mono hHeld.1.size).drew) | exact Below.drew ‹_›
      clear hK K
      (try simp only [Act.put, List.setIfInBounds_toArray, List.set_cons_zero, List.set_cons_succ])
      refine wpAnyH_take (i := 4) (oi := (Go.Oper.mk (some 7) (Go.Op.binOp Go.BinOp.eql 9 (Go.Operand.tmp 4) (Go.Operand.tmp 6) 9) 4 _ #[Go.Edge.mk 1 Go.Ground.data, Go.Edge.mk 3 Go.Ground.data] none)) (v := ?_) rfl (by kernel_rfl) (by kernel_rfl) (by kernel_rfl) (fun _ _ _ h => h) (Or.inl ⟨by rfl, ?_⟩) hHeld ?_
      rotate_left
      · intro w hSw; (try dsimp only at hSw); go_simp; (try with_reducible rfl)
      simp only [Act.put, List.setIfInBounds_toArray, List.set_cons_zero, List.set_cons_succ]
      refine wpAnyH_take (i := 5) (oi := (Go.Oper.mk (some 8) (Go.Op.move (Go.Operand.tmp 7)) 4 _ #[Go.Edge.mk 4 Go.Ground.data, Go.Edge.mk 3 Go.Ground.chain] none)) (v := ?_) rfl (by kernel_rfl) (by kernel_rfl) (by kernel_rfl) (fun _ _ _ h => h) (Or.inl ⟨by rfl, ?_⟩) hHeld ?_
      rotate_left
      · intro w hSw; (try dsimp only at hSw); go_simp; (try with_reducible rfl)
      simp only [Act.put, List.setIfInBounds_toArray, List.set_cons_zero, List.set_cons_succ]
      refine wpAnyH_take (i := 6) (oi := (Go.Oper.mk (some 9) (Go.Op.build 24 #[(0, Go.Operand.const (Go.Value.int Go.IntKind.i64 5))]) 24 _ #[Go.Edge.mk 5 Go.Ground.guard] (some (5, true)))) (v := ?_) rfl (by kernel_rfl) (by kernel_rfl) (by kernel_rfl) (fun _ _ _ h => h) (Or.inl ⟨by rfl, ?_⟩) hHeld ?_
      rotate_left
      · intro w hSw; (try dsimp only at hSw); go_simp; (try with_reducible rfl)
      simp only [Act.put, List.setIfInBounds_toArray, List.set_cons_zero, List.set_cons_succ]
      refine wpAnyH_ready (rs := [7]) (by kernel_rfl) (by simp) ?_
      refine (AllReadyH.cons (o := (Go.Oper.mk (some 10) (Go.Op.call (Go.Call.mk (Go.Callee.value (Go.Operand.func 11)) #[Go.Operand.tmp 9] #[24])) 9 _ #[Go.Edge.mk 6 Go.Ground.data, Go.Edge.mk 5 Go.Ground.chain, Go.Edge.mk 5 Go.Ground.guard] (some (5, true)))) rfl (fun K hK => ?_) AllReadyH.nil)
      · skip
        go_simp
        (with_reducible refine (H3.out _ (HP.out.kept (B := 0) hHeld.1)).mono ?_); rintro e wx ⟨rfl, bx⟩
        go_wp2_with fail
        refine hK.out _ _ ?_ (fun hHeld => ?_)
        · refine (fun h => And.intro h (KC.out _ h)) ?_; first | assumption | exact Below.refl _ _ | exact (Below.refl _ _).drew | exact hHeld.1.trans (bx.mono hHeld.1.size) | exact hHeld.1.trans ((bx.mono hHeld.1.size).drew) | exact Below.drew ‹_›
        clear hK K
        (try simp only [Act.put, List.setIfInBounds_toArray, List.set_cons_zero, List.set_cons_succ])
        refine wpAnyH_take (i := 8) (oi := (Go.Oper.mk (some 11) (Go.Op.binOp Go.BinOp.eql 9 (Go.Operand.tmp 10) (Go.Operand.const (Go.Value.string (ByteArray.mk #[40, 110, 105, 108, 41]))) 9) 4 _ #[Go.Edge.mk 7 Go.Ground.data, Go.Edge.mk 5 Go.Ground.guard] (some (5, true)))) (v := ?_) rfl (by kernel_rfl) (by kernel_rfl) (by kernel_rfl) (fun _ _ _ h => h) (Or.inl ⟨by rfl, ?_⟩) hHeld ?_
        rotate_left
        · intro w hSw; (try dsimp only at hSw); go_simp; (try with_reducible rfl)
        simp only [Act.put, List.setIfInBounds_toArray, List.set_cons_zero, List.set_cons_succ]
        refine wpAnyH_take (i := 9) (oi := (Go.Oper.mk (some 12) (Go.Op.pick (Go.Operand.tmp 8) (Go.Operand.tmp 11) (Go.Operand.const (Go.Value.bool false))) 4 _ #[Go.Edge.mk 5 Go.Ground.data, Go.Edge.mk 8 Go.Ground.data] none)) (v := ?_) rfl (by kernel_rfl) (by kernel_rfl) (by kernel_rfl) (fun _ _ _ h => h) (Or.inl ⟨by rfl, ?_⟩) hHeld ?_
        rotate_left
        · intro w hSw; (try dsimp only at hSw); go_simp; (try with_reducible rfl)
        simp only [Act.put, List.setIfInBounds_toArray, List.set_cons_zero, List.set_cons_succ]
        refine wpAnyH_take (i := 10) (oi := (Go.Oper.mk (some 2) (Go.Op.assign (Go.Operand.tmp 12)) 4 _ #[Go.Edge.mk 9 Go.Ground.data, Go.Edge.mk 7 Go.Ground.chain, Go.Edge.mk 0 Go.Ground.phase, Go.Edge.mk 1 Go.Ground.phase, Go.Edge.mk 2 Go.Ground.phase, Go.Edge.mk 3 Go.Ground.phase, Go.Edge.mk 4 Go.Ground.phase, Go.Edge.mk 5 Go.Ground.phase, Go.Edge.mk 6 Go.Ground.phase, Go.Edge.mk 7 Go.Ground.phase, Go.Edge.mk 8 Go.Ground.phase, Go.Edge.mk 9 Go.Ground.phase] none)) (v := ?_) rfl (by kernel_rfl) (by kernel_rfl) (by kernel_rfl) (fun _ _ _ h => h) (Or.inl ⟨by rfl, ?_⟩) hHeld ?_
        rotate_left
        · intro w hSw; (try dsimp only at hSw); go_simp; (try with_reducible rfl)
        simp only [Act.put, List.setIfInBounds_toArray, List.set_cons_zero, List.set_cons_succ]
        refine wpAnyH_done (by kernel_rfl) ?_ _
        go_wp2
        go_ret
        exact ⟨by simp, HB.out.trans (hHeld.1.mono HB.out.size)⟩
end Go.Proofs.YtpngmbdchceikaaDoor
