/- Like: the program's session is as the document's. -/
import Derived.Test.YtflhcffpfiameaaSess16
namespace Go.Proofs.Ytflhcffpfiameaa
open Go.ChangeShapes Go.WideShapes Go.ChangeAt Go.RowKit Go.Maps
set_option linter.unusedVariables false

set_option maxRecDepth 100000 in
set_option maxHeartbeats 6400000 in
theorem like_any {w : World} {b x : Nat} {F G : Nat → Prop} {S : SessM} (h : Sess w b F S) (hx : RSess w x G S) (hq : ∀ r ∈ S.queue, r.length ≤ 8796093022208) (hql : S.queue.length ≤ 1024) (hkl : S.keys.length ≤ 1024) :
    Calls Try.prog 23 #[.pointer (some ⟨b, 0, none⟩), .pointer (some ⟨x, 0, none⟩)] w fun e w' => e = .returned (.bool true) ∧ Below w.heap.size w w' := by
  obtain ⟨qv, wv, hx⟩ := hx
  obtain ⟨c0, c1, c2, c3, c4, c5⟩ := hx.cells
  have hlt := hx.lt x hx.own
  have HS := Lib.hid (fun W (hb : Below w.heap.size w W) => h.below hb)
  have HX := Lib.hid (fun W (hb : Below w.heap.size w W) => hx.below hb)
  have HQ := Lib.hid hq
  have KC := Lib.hid (show ∀ W, Below w.heap.size w W → W.cell? ⟨x, 1, none⟩ = some (.bool S.multi) ∧ W.cell? ⟨x, 2, none⟩ = some qv ∧ W.cell? ⟨x, 3, none⟩ = some (.bool S.refused) ∧ W.cell? ⟨x, 4, none⟩ = some wv ∧ W.cell? ⟨x, 5, none⟩ = some (.bool S.dirty) from
    fun W hb => ⟨(hb.cell (p := ⟨x, 1, none⟩) hlt).trans c1, (hb.cell (p := ⟨x, 2, none⟩) hlt).trans c2, (hb.cell (p := ⟨x, 3, none⟩) hlt).trans c3, (hb.cell (p := ⟨x, 4, none⟩) hlt).trans c4, (hb.cell (p := ⟨x, 5, none⟩) hlt).trans c5⟩)
  have HB0 := Lib.hid (show Below w.heap.size w w.drew from (Below.refl _ _).drew)
  clear h hx hq c0 c1 c2 c3 c4 c5
  go_enter Try.func23, Try.ntmps23
  go_wp2_with fail
  refine wp_region_held_drew (S := (fun W => Below w.heap.size w W ∧ W.cell? ⟨x, 1, none⟩ = some (.bool S.multi) ∧ W.cell? ⟨x, 2, none⟩ = some qv ∧ W.cell? ⟨x, 3, none⟩ = some (.bool S.refused) ∧ W.cell? ⟨x, 4, none⟩ = some wv ∧ W.cell? ⟨x, 5, none⟩ = some (.bool S.dirty))) (by kernel_rfl) ?_ (fun hHeld => ?_)
  · refine (fun h => And.intro h (KC.out _ h)) ?_; exact HB0.out
  refine wpAnyH_take (i := 0) (oi := (Go.Oper.mk (some 5) (Go.Op.move (Go.Operand.tmp 0)) 24 _ #[] none)) (v := ?_) rfl (by kernel_rfl) (by kernel_rfl) (by kernel_rfl) (fun _ _ _ h => h) (Or.inl ⟨by rfl, ?_⟩) hHeld ?_
  rotate_left
  · intro w hSw; (try dsimp only at hSw); go_simp; (try with_reducible rfl)
  simp only [Act.put, List.setIfInBounds_toArray, List.set_cons_zero, List.set_cons_succ]
  refine wpAnyH_take (i := 2) (oi := (Go.Oper.mk (some 7) (Go.Op.move (Go.Operand.tmp 1)) 39 _ #[] none)) (v := ?_) rfl (by kernel_rfl) (by kernel_rfl) (by kernel_rfl) (fun _ _ _ h => h) (Or.inl ⟨by rfl, ?_⟩) hHeld ?_
  rotate_left
  · intro w hSw; (try dsimp only at hSw); go_simp; (try with_reducible rfl)
  simp only [Act.put, List.setIfInBounds_toArray, List.set_cons_zero, List.set_cons_succ]
  refine wpAnyH_take (i := 3) (oi := (Go.Oper.mk (some 8) (Go.Op.nilCheck (Go.Operand.tmp 7)) 0 _ #[Go.Edge.mk 2 Go.Ground.data] none)) (v := ?_) rfl (by kernel_rfl) (by kernel_rfl) (by kernel_rfl) (fun _ _ _ h => h) (Or.inl ⟨by rfl, ?_⟩) hHeld ?_
  rotate_left
  · intro w hSw; (try dsimp only at hSw); go_simp; (try with_reducible rfl)
  simp only [Act.put, List.setIfInBounds_toArray, List.set_cons_zero, List.set_cons_succ]
  refine wpAnyH_take (i := 4) (oi := (Go.Oper.mk (some 9) (Go.Op.fieldAddr 64 (Go.Operand.tmp 8) 1) 0 _ #[Go.Edge.mk 3 Go.Ground.data] none)) (v := ?_) rfl (by kernel_rfl) (by kernel_rfl) (by kernel_rfl) (fun _ _ _ h => h) (Or.inl ⟨by rfl, ?_⟩) hHeld ?_
  rotate_left
  · intro w hSw; (try dsimp only at hSw); go_simp; (try with_reducible rfl)
  simp only [Act.put, List.setIfInBounds_toArray, List.set_cons_zero, List.set_cons_succ]
  refine wpAnyH_take (i := 5) (oi := (Go.Oper.mk (some 10) (Go.Op.load 4 (Go.Operand.tmp 9)) 4 _ #[Go.Edge.mk 4 Go.Ground.data] none)) (v := ?_) rfl (by kernel_rfl) (by kernel_rfl) (by kernel_rfl) (fun _ _ _ h => h) (Or.inl ⟨by rfl, ?_⟩) hHeld ?_
  rotate_left
  · intro w hSw; (try dsimp only at hSw); go_simp; (try with_reducible rfl)
  simp only [Act.put, List.setIfInBounds_toArray, List.set_cons_zero, List.set_cons_succ]
  refine wpAnyH_ready (rs := [1]) (by kernel_rfl) (by simp) ?_
  refine (AllReadyH.cons (o := (Go.Oper.mk (some 6) (Go.Op.call (Go.Call.mk (Go.Callee.value (Go.Operand.func 17)) #[Go.Operand.tmp 5] #[24])) 4 _ #[Go.Edge.mk 0 Go.Ground.data] none)) rfl (fun K hK => ?_) AllReadyH.nil)
  · skip
    go_simp
    ((with_reducible refine (multi_any (HS.out _ HB0.out)).mono ?_); rintro e w1 ⟨rfl, rfl⟩)
    go_wp2_with fail
    refine hK.out _ _ ?_ (fun hHeld => ?_)
    · refine (fun h => And.intro h (KC.out _ h)) ?_; exact HB0.out
    clear hK K
    (try simp only [Act.put, List.setIfInBounds_toArray, List.set_cons_zero, List.set_cons_succ])
    refine wpAnyH_take (i := 6) (oi := (Go.Oper.mk (some 11) (Go.Op.binOp Go.BinOp.eql 4 (Go.Operand.tmp 6) (Go.Operand.tmp 10) 4) 4 _ #[Go.Edge.mk 1 Go.Ground.data, Go.Edge.mk 5 Go.Ground.data] none)) (v := ?_) rfl (by kernel_rfl) (by kernel_rfl) (by kernel_rfl) (fun _ _ _ h => h) (Or.inl ⟨by rfl, ?_⟩) hHeld ?_
    rotate_left
    · intro w hSw; (try dsimp only at hSw); go_simp; (try with_reducible rfl)
    simp only [Act.put, List.setIfInBounds_toArray, List.set_cons_zero, List.set_cons_succ]
    refine wpAnyH_take (i := 7) (oi := (Go.Oper.mk (some 12) (Go.Op.move (Go.Operand.tmp 11)) 4 _ #[Go.Edge.mk 6 Go.Ground.data, Go.Edge.mk 1 Go.Ground.chain] none)) (v := ?_) rfl (by kernel_rfl) (by kernel_rfl) (by kernel_rfl) (fun _ _ _ h => h) (Or.inl ⟨by rfl, ?_⟩) hHeld ?_
    rotate_left
    · intro w hSw; (try dsimp only at hSw); go_simp; (try with_reducible rfl)
    simp only [Act.put, List.setIfInBounds_toArray, List.set_cons_zero, List.set_cons_succ]
    refine wpAnyH_take (i := 8) (oi := (Go.Oper.mk (some 13) (Go.Op.move (Go.Operand.tmp 0)) 24 _ #[Go.Edge.mk 7 Go.Ground.guard] (some (7, true)))) (v := ?_) rfl (by kernel_rfl) (by kernel_rfl) (by kernel_rfl) (fun _ _ _ h => h) (Or.inl ⟨by rfl, ?_⟩) hHeld ?_
    rotate_left
    · intro w hSw; (try dsimp only at hSw); go_simp; (try with_reducible rfl)
    simp only [Act.put, List.setIfInBounds_toArray, List.set_cons_zero, List.set_cons_succ]
    refine wpAnyH_take (i := 10) (oi := (Go.Oper.mk (some 15) (Go.Op.move (Go.Operand.tmp 1)) 39 _ #[Go.Edge.mk 7 Go.Ground.guard] (some (7, true)))) (v := ?_) rfl (by kernel_rfl) (by kernel_rfl) (by kernel_rfl) (fun _ _ _ h => h) (Or.inl ⟨by rfl, ?_⟩) hHeld ?_
    rotate_left
    · intro w hSw; (try dsimp only at hSw); go_simp; (try with_reducible rfl)
    simp only [Act.put, List.setIfInBounds_toArray, List.set_cons_zero, List.set_cons_succ]
    refine wpAnyH_take (i := 11) (oi := (Go.Oper.mk (some 16) (Go.Op.nilCheck (Go.Operand.tmp 15)) 0 _ #[Go.Edge.mk 10 Go.Ground.data, Go.Edge.mk 7 Go.Ground.guard] (some (7, true)))) (v := ?_) rfl (by kernel_rfl) (by kernel_rfl) (by kernel_rfl) (fun _ _ _ h => h) (Or.inl ⟨by rfl, ?_⟩) hHeld ?_
    rotate_left
    · intro w hSw; (try dsimp only at hSw); go_simp; (try with_reducible rfl)
    simp only [Act.put, List.setIfInBounds_toArray, List.set_cons_zero, List.set_cons_succ]
    refine wpAnyH_take (i := 12) (oi := (Go.Oper.mk (some 17) (Go.Op.fieldAddr 64 (Go.Operand.tmp 16) 3) 0 _ #[Go.Edge.mk 11 Go.Ground.data, Go.Edge.mk 7 Go.Ground.guard] (some (7, true)))) (v := ?_) rfl (by kernel_rfl) (by kernel_rfl) (by kernel_rfl) (fun _ _ _ h => h) (Or.inl ⟨by rfl, ?_⟩) hHeld ?_
    rotate_left
    · intro w hSw; (try dsimp only at hSw); go_simp; (try with_reducible rfl)
    simp only [Act.put, List.setIfInBounds_toArray, List.set_cons_zero, List.set_cons_succ]
    refine wpAnyH_take (i := 13) (oi := (Go.Oper.mk (some 18) (Go.Op.load 4 (Go.Operand.tmp 17)) 4 _ #[Go.Edge.mk 12 Go.Ground.data, Go.Edge.mk 7 Go.Ground.guard] (some (7, true)))) (v := ?_) rfl (by kernel_rfl) (by kernel_rfl) (by kernel_rfl) (fun _ _ _ h => h) (Or.inl ⟨by rfl, ?_⟩) hHeld ?_
    rotate_left
    · intro w hSw; (try dsimp only at hSw); go_simp; (try with_reducible rfl)
    simp only [Act.put, List.setIfInBounds_toArray, List.set_cons_zero, List.set_cons_succ]
    refine wpAnyH_ready (rs := [9]) (by kernel_rfl) (by simp) ?_
    refine (AllReadyH.cons (o := (Go.Oper.mk (some 14) (Go.Op.call (Go.Call.mk (Go.Callee.value (Go.Operand.func 13)) #[Go.Operand.tmp 13] #[24])) 4 _ #[Go.Edge.mk 8 Go.Ground.data, Go.Edge.mk 7 Go.Ground.chain, Go.Edge.mk 7 Go.Ground.guard] (some (7, true)))) rfl (fun K hK => ?_) AllReadyH.nil)
    · skip
      go_simp
      ((with_reducible refine (refused_any (HS.out _ HB0.out)).mono ?_); rintro e w1 ⟨rfl, rfl⟩)
      go_wp2_with fail
      refine hK.out _ _ ?_ (fun hHeld => ?_)
      · refine (fun h => And.intro h (KC.out _ h)) ?_; exact HB0.out
      clear hK K
      (try simp only [Act.put, List.setIfInBounds_toArray, List.set_cons_zero, List.set_cons_succ])
      refine wpAnyH_take (i := 14) (oi := (Go.Oper.mk (some 19) (Go.Op.binOp Go.BinOp.eql 4 (Go.Operand.tmp 14) (Go.Operand.tmp 18) 4) 4 _ #[Go.Edge.mk 9 Go.Ground.data, Go.Edge.mk 13 Go.Ground.data, Go.Edge.mk 7 Go.Ground.guard] (some (7, true)))) (v := ?_) rfl (by kernel_rfl) (by kernel_rfl) (by kernel_rfl) (fun _ _ _ h => h) (Or.inl ⟨by rfl, ?_⟩) hHeld ?_
      rotate_left
      · intro w hSw; (try dsimp only at hSw); go_simp; (try with_reducible rfl)
      simp only [Act.put, List.setIfInBounds_toArray, List.set_cons_zero, List.set_cons_succ]
      refine wpAnyH_take (i := 15) (oi := (Go.Oper.mk (some 20) (Go.Op.pick (Go.Operand.tmp 12) (Go.Operand.tmp 19) (Go.Operand.const (Go.Value.bool false))) 4 _ #[Go.Edge.mk 7 Go.Ground.data, Go.Edge.mk 14 Go.Ground.data] none)) (v := ?_) rfl (by kernel_rfl) (by kernel_rfl) (by kernel_rfl) (fun _ _ _ h => h) (Or.inl ⟨by rfl, ?_⟩) hHeld ?_
      rotate_left
      · intro w hSw; (try dsimp only at hSw); go_simp; (try with_reducible rfl)
      simp only [Act.put, List.setIfInBounds_toArray, List.set_cons_zero, List.set_cons_succ]
      refine wpAnyH_take (i := 16) (oi := (Go.Oper.mk (some 21) (Go.Op.move (Go.Operand.tmp 20)) 4 _ #[Go.Edge.mk 15 Go.Ground.data, Go.Edge.mk 9 Go.Ground.chain] none)) (v := ?_) rfl (by kernel_rfl) (by kernel_rfl) (by kernel_rfl) (fun _ _ _ h => h) (Or.inl ⟨by rfl, ?_⟩) hHeld ?_
      rotate_left
      · intro w hSw; (try dsimp only at hSw); go_simp; (try with_reducible rfl)
      simp only [Act.put, List.setIfInBounds_toArray, List.set_cons_zero, List.set_cons_succ]
      refine wpAnyH_take (i := 17) (oi := (Go.Oper.mk (some 22) (Go.Op.move (Go.Operand.tmp 0)) 24 _ #[Go.Edge.mk 16 Go.Ground.guard] (some (16, true)))) (v := ?_) rfl (by kernel_rfl) (by kernel_rfl) (by kernel_rfl) (fun _ _ _ h => h) (Or.inl ⟨by rfl, ?_⟩) hHeld ?_
      rotate_left
      · intro w hSw; (try dsimp only at hSw); go_simp; (try with_reducible rfl)
      simp only [Act.put, List.setIfInBounds_toArray, List.set_cons_zero, List.set_cons_succ]
      refine wpAnyH_take (i := 19) (oi := (Go.Oper.mk (some 24) (Go.Op.move (Go.Operand.tmp 1)) 39 _ #[Go.Edge.mk 16 Go.Ground.guard] (some (16, true)))) (v := ?_) rfl (by kernel_rfl) (by kernel_rfl) (by kernel_rfl) (fun _ _ _ h => h) (Or.inl ⟨by rfl, ?_⟩) hHeld ?_
      rotate_left
      · intro w hSw; (try dsimp only at hSw); go_simp; (try with_reducible rfl)
      simp only [Act.put, List.setIfInBounds_toArray, List.set_cons_zero, List.set_cons_succ]
      refine wpAnyH_take (i := 20) (oi := (Go.Oper.mk (some 25) (Go.Op.nilCheck (Go.Operand.tmp 24)) 0 _ #[Go.Edge.mk 19 Go.Ground.data, Go.Edge.mk 16 Go.Ground.guard] (some (16, true)))) (v := ?_) rfl (by kernel_rfl) (by kernel_rfl) (by kernel_rfl) (fun _ _ _ h => h) (Or.inl ⟨by rfl, ?_⟩) hHeld ?_
      rotate_left
      · intro w hSw; (try dsimp only at hSw); go_simp; (try with_reducible rfl)
      simp only [Act.put, List.setIfInBounds_toArray, List.set_cons_zero, List.set_cons_succ]
      refine wpAnyH_take (i := 21) (oi := (Go.Oper.mk (some 26) (Go.Op.fieldAddr 64 (Go.Operand.tmp 25) 5) 0 _ #[Go.Edge.mk 20 Go.Ground.data, Go.Edge.mk 16 Go.Ground.guard] (some (16, true)))) (v := ?_) rfl (by kernel_rfl) (by kernel_rfl) (by kernel_rfl) (fun _ _ _ h => h) (Or.inl ⟨by rfl, ?_⟩) hHeld ?_
      rotate_left
      · intro w hSw; (try dsimp only at hSw); go_simp; (try with_reducible rfl)
      simp only [Act.put, List.setIfInBounds_toArray, List.set_cons_zero, List.set_cons_succ]
      refine wpAnyH_take (i := 22) (oi := (Go.Oper.mk (some 27) (Go.Op.load 4 (Go.Operand.tmp 26)) 4 _ #[Go.Edge.mk 21 Go.Ground.data, Go.Edge.mk 16 Go.Ground.guard] (some (16, true)))) (v := ?_) rfl (by kernel_rfl) (by kernel_rfl) (by kernel_rfl) (fun _ _ _ h => h) (Or.inl ⟨by rfl, ?_⟩) hHeld ?_
      rotate_left
      · intro w hSw; (try dsimp only at hSw); go_simp; (try with_reducible rfl)
      simp only [Act.put, List.setIfInBounds_toArray, List.set_cons_zero, List.set_cons_succ]
      refine wpAnyH_ready (rs := [18]) (by kernel_rfl) (by simp) ?_
      refine (AllReadyH.cons (o := (Go.Oper.mk (some 23) (Go.Op.call (Go.Call.mk (Go.Callee.value (Go.Operand.func 25)) #[Go.Operand.tmp 22] #[24])) 4 _ #[Go.Edge.mk 17 Go.Ground.data, Go.Edge.mk 16 Go.Ground.chain, Go.Edge.mk 16 Go.Ground.guard] (some (16, true)))) rfl (fun K hK => ?_) AllReadyH.nil)
      · skip
        go_simp
        ((with_reducible refine (dirty_any (HS.out _ HB0.out)).mono ?_); rintro e w1 ⟨rfl, rfl⟩)
        go_wp2_with fail
        refine hK.out _ _ ?_ (fun hHeld => ?_)
        · refine (fun h => And.intro h (KC.out _ h)) ?_; exact HB0.out
        clear hK K
        (try simp only [Act.put, List.setIfInBounds_toArray, List.set_cons_zero, List.set_cons_succ])
        refine wpAnyH_take (i := 23) (oi := (Go.Oper.mk (some 28) (Go.Op.binOp Go.BinOp.eql 4 (Go.Operand.tmp 23) (Go.Operand.tmp 27) 4) 4 _ #[Go.Edge.mk 18 Go.Ground.data, Go.Edge.mk 22 Go.Ground.data, Go.Edge.mk 16 Go.Ground.guard] (some (16, true)))) (v := ?_) rfl (by kernel_rfl) (by kernel_rfl) (by kernel_rfl) (fun _ _ _ h => h) (Or.inl ⟨by rfl, ?_⟩) hHeld ?_
        rotate_left
        · intro w hSw; (try dsimp only at hSw); go_simp; (try with_reducible rfl)
        simp only [Act.put, List.setIfInBounds_toArray, List.set_cons_zero, List.set_cons_succ]
        refine wpAnyH_take (i := 24) (oi := (Go.Oper.mk (some 29) (Go.Op.pick (Go.Operand.tmp 21) (Go.Operand.tmp 28) (Go.Operand.const (Go.Value.bool false))) 4 _ #[Go.Edge.mk 16 Go.Ground.data, Go.Edge.mk 23 Go.Ground.data] none)) (v := ?_) rfl (by kernel_rfl) (by kernel_rfl) (by kernel_rfl) (fun _ _ _ h => h) (Or.inl ⟨by rfl, ?_⟩) hHeld ?_
        rotate_left
        · intro w hSw; (try dsimp only at hSw); go_simp; (try with_reducible rfl)
        simp only [Act.put, List.setIfInBounds_toArray, List.set_cons_zero, List.set_cons_succ]
        refine wpAnyH_take (i := 25) (oi := (Go.Oper.mk (some 30) (Go.Op.move (Go.Operand.tmp 29)) 4 _ #[Go.Edge.mk 24 Go.Ground.data, Go.Edge.mk 18 Go.Ground.chain] none)) (v := ?_) rfl (by kernel_rfl) (by kernel_rfl) (by kernel_rfl) (fun _ _ _ h => h) (Or.inl ⟨by rfl, ?_⟩) hHeld ?_
        rotate_left
        · intro w hSw; (try dsimp only at hSw); go_simp; (try with_reducible rfl)
        simp only [Act.put, List.setIfInBounds_toArray, List.set_cons_zero, List.set_cons_succ]
        refine wpAnyH_take (i := 26) (oi := (Go.Oper.mk (some 31) (Go.Op.move (Go.Operand.tmp 0)) 24 _ #[Go.Edge.mk 25 Go.Ground.guard] (some (25, true)))) (v := ?_) rfl (by kernel_rfl) (by kernel_rfl) (by kernel_rfl) (fun _ _ _ h => h) (Or.inl ⟨by rfl, ?_⟩) hHeld ?_
        rotate_left
        · intro w hSw; (try dsimp only at hSw); go_simp; (try with_reducible rfl)
        simp only [Act.put, List.setIfInBounds_toArray, List.set_cons_zero, List.set_cons_succ]
        refine wpAnyH_take (i := 28) (oi := (Go.Oper.mk (some 33) (Go.Op.move (Go.Operand.tmp 1)) 39 _ #[Go.Edge.mk 25 Go.Ground.guard] (some (25, true)))) (v := ?_) rfl (by kernel_rfl) (by kernel_rfl) (by kernel_rfl) (fun _ _ _ h => h) (Or.inl ⟨by rfl, ?_⟩) hHeld ?_
        rotate_left
        · intro w hSw; (try dsimp only at hSw); go_simp; (try with_reducible rfl)
        simp only [Act.put, List.setIfInBounds_toArray, List.set_cons_zero, List.set_cons_succ]
        refine wpAnyH_take (i := 29) (oi := (Go.Oper.mk (some 34) (Go.Op.nilCheck (Go.Operand.tmp 33)) 0 _ #[Go.Edge.mk 28 Go.Ground.data, Go.Edge.mk 25 Go.Ground.guard] (some (25, true)))) (v := ?_) rfl (by kernel_rfl) (by kernel_rfl) (by kernel_rfl) (fun _ _ _ h => h) (Or.inl ⟨by rfl, ?_⟩) hHeld ?_
        rotate_left
        · intro w hSw; (try dsimp only at hSw); go_simp; (try with_reducible rfl)
        simp only [Act.put, List.setIfInBounds_toArray, List.set_cons_zero, List.set_cons_succ]
        refine wpAnyH_take (i := 30) (oi := (Go.Oper.mk (some 35) (Go.Op.fieldAddr 64 (Go.Operand.tmp 34) 2) 0 _ #[Go.Edge.mk 29 Go.Ground.data, Go.Edge.mk 25 Go.Ground.guard] (some (25, true)))) (v := ?_) rfl (by kernel_rfl) (by kernel_rfl) (by kernel_rfl) (fun _ _ _ h => h) (Or.inl ⟨by rfl, ?_⟩) hHeld ?_
        rotate_left
        · intro w hSw; (try dsimp only at hSw); go_simp; (try with_reducible rfl)
        simp only [Act.put, List.setIfInBounds_toArray, List.set_cons_zero, List.set_cons_succ]
        refine wpAnyH_take (i := 31) (oi := (Go.Oper.mk (some 36) (Go.Op.load 22 (Go.Operand.tmp 35)) 22 _ #[Go.Edge.mk 30 Go.Ground.data, Go.Edge.mk 25 Go.Ground.guard] (some (25, true)))) (v := ?_) rfl (by kernel_rfl) (by kernel_rfl) (by kernel_rfl) (fun _ _ _ h => h) (Or.inl ⟨by rfl, ?_⟩) hHeld ?_
        rotate_left
        · intro w hSw; (try dsimp only at hSw); go_simp; (try with_reducible rfl)
        simp only [Act.put, List.setIfInBounds_toArray, List.set_cons_zero, List.set_cons_succ]
        refine wpAnyH_ready (rs := [27]) (by kernel_rfl) (by simp) ?_
        refine (AllReadyH.cons (o := (Go.Oper.mk (some 32) (Go.Op.call (Go.Call.mk (Go.Callee.value (Go.Operand.func 20)) #[Go.Operand.tmp 31] #[24])) 22 _ #[Go.Edge.mk 26 Go.Ground.data, Go.Edge.mk 25 Go.Ground.chain, Go.Edge.mk 25 Go.Ground.guard] (some (25, true)))) rfl (fun K hK => ?_) AllReadyH.nil)
        · skip
          go_simp
          ((with_reducible refine (queued_any (HS.out _ HB0.out) HQ.out).mono ?_); rintro e w4 ⟨v4, rfl, q4, b4⟩; have B4 := Lib.hid (HB0.out.trans (b4.mono HB0.out.size)); have L4 := Lib.hid (q4.lrow); have M4 := Lib.hid ((HX.out _ (HB0.out.trans (b4.mono HB0.out.size))).rows.lrow); clear q4 b4)
          go_wp2_with fail
          refine hK.out _ _ ?_ (fun hHeld => ?_)
          · refine (fun h => And.intro h (KC.out _ h)) ?_; exact B4.out
          clear hK K
          (try simp only [Act.put, List.setIfInBounds_toArray, List.set_cons_zero, List.set_cons_succ])
          refine wpAnyH_ready (rs := [32]) (by kernel_rfl) (by simp) ?_
          refine (AllReadyH.cons (o := (Go.Oper.mk (some 37) (Go.Op.call (Go.Call.mk (Go.Callee.value (Go.Operand.func 27)) #[Go.Operand.tmp 32, Go.Operand.tmp 36] #[22, 22])) 4 _ #[Go.Edge.mk 27 Go.Ground.data, Go.Edge.mk 31 Go.Ground.data, Go.Edge.mk 27 Go.Ground.chain, Go.Edge.mk 25 Go.Ground.guard] (some (25, true)))) rfl (fun K hK => ?_) AllReadyH.nil)
          · skip
            go_simp
            ((with_reducible refine (sameQ_any _ _ _ (by rw [List.length_map]; omega) (fun r hr => by obtain ⟨t, ht, rfl⟩ := List.mem_map.1 hr; have := HQ.out t ht; rw [textsB_length]; omega) _ L4.out M4.out).mono ?_); rintro e w5 ⟨rfl, n5, rfl⟩; have B5 := Lib.hid (below_drewN B4.out n5))
            go_wp2_with fail
            refine hK.out _ _ ?_ (fun hHeld => ?_)
            · refine (fun h => And.intro h (KC.out _ h)) ?_; exact B5.out
            clear hK K
            (try simp only [Act.put, List.setIfInBounds_toArray, List.set_cons_zero, List.set_cons_succ])
            refine wpAnyH_take (i := 33) (oi := (Go.Oper.mk (some 38) (Go.Op.pick (Go.Operand.tmp 30) (Go.Operand.tmp 37) (Go.Operand.const (Go.Value.bool false))) 4 _ #[Go.Edge.mk 25 Go.Ground.data, Go.Edge.mk 32 Go.Ground.data] none)) (v := ?_) rfl (by kernel_rfl) (by kernel_rfl) (by kernel_rfl) (fun _ _ _ h => h) (Or.inl ⟨by rfl, ?_⟩) hHeld ?_
            rotate_left
            · intro w hSw; (try dsimp only at hSw); go_simp; (try with_reducible rfl)
            simp only [Act.put, List.setIfInBounds_toArray, List.set_cons_zero, List.set_cons_succ]
            refine wpAnyH_take (i := 34) (oi := (Go.Oper.mk (some 39) (Go.Op.move (Go.Operand.tmp 38)) 4 _ #[Go.Edge.mk 33 Go.Ground.data, Go.Edge.mk 32 Go.Ground.chain] none)) (v := ?_) rfl (by kernel_rfl) (by kernel_rfl) (by kernel_rfl) (fun _ _ _ h => h) (Or.inl ⟨by rfl, ?_⟩) hHeld ?_
            rotate_left
            · intro w hSw; (try dsimp only at hSw); go_simp; (try with_reducible rfl)
            simp only [Act.put, List.setIfInBounds_toArray, List.set_cons_zero, List.set_cons_succ]
            refine wpAnyH_take (i := 35) (oi := (Go.Oper.mk (some 40) (Go.Op.move (Go.Operand.tmp 0)) 24 _ #[Go.Edge.mk 34 Go.Ground.guard] (some (34, true)))) (v := ?_) rfl (by kernel_rfl) (by kernel_rfl) (by kernel_rfl) (fun _ _ _ h => h) (Or.inl ⟨by rfl, ?_⟩) hHeld ?_
            rotate_left
            · intro w hSw; (try dsimp only at hSw); go_simp; (try with_reducible rfl)
            simp only [Act.put, List.setIfInBounds_toArray, List.set_cons_zero, List.set_cons_succ]
            refine wpAnyH_take (i := 37) (oi := (Go.Oper.mk (some 42) (Go.Op.move (Go.Operand.tmp 1)) 39 _ #[Go.Edge.mk 34 Go.Ground.guard] (some (34, true)))) (v := ?_) rfl (by kernel_rfl) (by kernel_rfl) (by kernel_rfl) (fun _ _ _ h => h) (Or.inl ⟨by rfl, ?_⟩) hHeld ?_
            rotate_left
            · intro w hSw; (try dsimp only at hSw); go_simp; (try with_reducible rfl)
            simp only [Act.put, List.setIfInBounds_toArray, List.set_cons_zero, List.set_cons_succ]
            refine wpAnyH_take (i := 38) (oi := (Go.Oper.mk (some 43) (Go.Op.nilCheck (Go.Operand.tmp 42)) 0 _ #[Go.Edge.mk 37 Go.Ground.data, Go.Edge.mk 34 Go.Ground.guard] (some (34, true)))) (v := ?_) rfl (by kernel_rfl) (by kernel_rfl) (by kernel_rfl) (fun _ _ _ h => h) (Or.inl ⟨by rfl, ?_⟩) hHeld ?_
            rotate_left
            · intro w hSw; (try dsimp only at hSw); go_simp; (try with_reducible rfl)
            simp only [Act.put, List.setIfInBounds_toArray, List.set_cons_zero, List.set_cons_succ]
            refine wpAnyH_take (i := 39) (oi := (Go.Oper.mk (some 44) (Go.Op.fieldAddr 64 (Go.Operand.tmp 43) 4) 0 _ #[Go.Edge.mk 38 Go.Ground.data, Go.Edge.mk 34 Go.Ground.guard] (some (34, true)))) (v := ?_) rfl (by kernel_rfl) (by kernel_rfl) (by kernel_rfl) (fun _ _ _ h => h) (Or.inl ⟨by rfl, ?_⟩) hHeld ?_
            rotate_left
            · intro w hSw; (try dsimp only at hSw); go_simp; (try with_reducible rfl)
            simp only [Act.put, List.setIfInBounds_toArray, List.set_cons_zero, List.set_cons_succ]
            refine wpAnyH_take (i := 40) (oi := (Go.Oper.mk (some 45) (Go.Op.load 23 (Go.Operand.tmp 44)) 23 _ #[Go.Edge.mk 39 Go.Ground.data, Go.Edge.mk 34 Go.Ground.guard] (some (34, true)))) (v := ?_) rfl (by kernel_rfl) (by kernel_rfl) (by kernel_rfl) (fun _ _ _ h => h) (Or.inl ⟨by rfl, ?_⟩) hHeld ?_
            rotate_left
            · intro w hSw; (try dsimp only at hSw); go_simp; (try with_reducible rfl)
            simp only [Act.put, List.setIfInBounds_toArray, List.set_cons_zero, List.set_cons_succ]
            refine wpAnyH_ready (rs := [36]) (by kernel_rfl) (by simp) ?_
            refine (AllReadyH.cons (o := (Go.Oper.mk (some 41) (Go.Op.call (Go.Call.mk (Go.Callee.value (Go.Operand.func 21)) #[Go.Operand.tmp 40] #[24])) 23 _ #[Go.Edge.mk 35 Go.Ground.data, Go.Edge.mk 34 Go.Ground.chain, Go.Edge.mk 34 Go.Ground.guard] (some (34, true)))) rfl (fun K hK => ?_) AllReadyH.nil)
            · skip
              go_simp
              ((with_reducible refine (watched_any (HS.out _ B5.out)).mono ?_); rintro e w6 ⟨v6, rfl, z6, b6⟩; have B6 := Lib.hid (B5.out.trans (b6.mono B5.out.size)); have T6 := Lib.hid (show TRow w6 v6 (sortK S.keys) from z6.srow); have U6 := Lib.hid ((HX.out _ (B5.out.trans (b6.mono B5.out.size))).trow); clear z6 b6)
              go_wp2_with fail
              refine hK.out _ _ ?_ (fun hHeld => ?_)
              · refine (fun h => And.intro h (KC.out _ h)) ?_; exact B6.out
              clear hK K
              (try simp only [Act.put, List.setIfInBounds_toArray, List.set_cons_zero, List.set_cons_succ])
              refine wpAnyH_ready (rs := [41]) (by kernel_rfl) (by simp) ?_
              refine (AllReadyH.cons (o := (Go.Oper.mk (some 46) (Go.Op.call (Go.Call.mk (Go.Callee.value (Go.Operand.func 29)) #[Go.Operand.tmp 41, Go.Operand.tmp 45] #[23, 23])) 4 _ #[Go.Edge.mk 36 Go.Ground.data, Go.Edge.mk 40 Go.Ground.data, Go.Edge.mk 36 Go.Ground.chain, Go.Edge.mk 34 Go.Ground.guard] (some (34, true)))) rfl (fun K hK => ?_) AllReadyH.nil)
              · skip
                go_simp
                ((with_reducible refine (same_true _ _ _ (by rw [sortK_length]; omega) _ T6.out U6.out).mono ?_); rintro e w7 ⟨rfl, n7, rfl⟩; have B7 := Lib.hid (below_drewN B6.out n7))
                go_wp2_with fail
                refine hK.out _ _ ?_ (fun hHeld => ?_)
                · refine (fun h => And.intro h (KC.out _ h)) ?_; exact B7.out
                clear hK K
                (try simp only [Act.put, List.setIfInBounds_toArray, List.set_cons_zero, List.set_cons_succ])
                refine wpAnyH_take (i := 42) (oi := (Go.Oper.mk (some 47) (Go.Op.pick (Go.Operand.tmp 39) (Go.Operand.tmp 46) (Go.Operand.const (Go.Value.bool false))) 4 _ #[Go.Edge.mk 34 Go.Ground.data, Go.Edge.mk 41 Go.Ground.data] none)) (v := ?_) rfl (by kernel_rfl) (by kernel_rfl) (by kernel_rfl) (fun _ _ _ h => h) (Or.inl ⟨by rfl, ?_⟩) hHeld ?_
                rotate_left
                · intro w hSw; (try dsimp only at hSw); go_simp; (try with_reducible rfl)
                simp only [Act.put, List.setIfInBounds_toArray, List.set_cons_zero, List.set_cons_succ]
                refine wpAnyH_take (i := 43) (oi := (Go.Oper.mk (some 4) (Go.Op.assign (Go.Operand.tmp 47)) 4 _ #[Go.Edge.mk 42 Go.Ground.data, Go.Edge.mk 41 Go.Ground.chain, Go.Edge.mk 0 Go.Ground.phase, Go.Edge.mk 1 Go.Ground.phase, Go.Edge.mk 2 Go.Ground.phase, Go.Edge.mk 3 Go.Ground.phase, Go.Edge.mk 4 Go.Ground.phase, Go.Edge.mk 5 Go.Ground.phase, Go.Edge.mk 6 Go.Ground.phase, Go.Edge.mk 7 Go.Ground.phase, Go.Edge.mk 8 Go.Ground.phase, Go.Edge.mk 9 Go.Ground.phase, Go.Edge.mk 10 Go.Ground.phase, Go.Edge.mk 11 Go.Ground.phase, Go.Edge.mk 12 Go.Ground.phase, Go.Edge.mk 13 Go.Ground.phase, Go.Edge.mk 14 Go.Ground.phase, Go.Edge.mk 15 Go.Ground.phase, Go.Edge.mk 16 Go.Ground.phase, Go.Edge.mk 17 Go.Ground.phase, Go.Edge.mk 18 Go.Ground.phase, Go.Edge.mk 19 Go.Ground.phase, Go.Edge.mk 20 Go.Ground.phase, Go.Edge.mk 21 Go.Ground.phase, Go.Edge.mk 22 Go.Ground.phase, Go.Edge.mk 23 Go.Ground.phase, Go.Edge.mk 24 Go.Ground.phase, Go.Edge.mk 25 Go.Ground.phase, Go.Edge.mk 26 Go.Ground.phase, Go.Edge.mk 27 Go.Ground.phase, Go.Edge.mk 28 Go.Ground.phase, Go.Edge.mk 29 Go.Ground.phase, Go.Edge.mk 30 Go.Ground.phase, Go.Edge.mk 31 Go.Ground.phase, Go.Edge.mk 32 Go.Ground.phase, Go.Edge.mk 33 Go.Ground.phase, Go.Edge.mk 34 Go.Ground.phase, Go.Edge.mk 35 Go.Ground.phase, Go.Edge.mk 36 Go.Ground.phase, Go.Edge.mk 37 Go.Ground.phase, Go.Edge.mk 38 Go.Ground.phase, Go.Edge.mk 39 Go.Ground.phase, Go.Edge.mk 40 Go.Ground.phase, Go.Edge.mk 41 Go.Ground.phase, Go.Edge.mk 42 Go.Ground.phase] none)) (v := ?_) rfl (by kernel_rfl) (by kernel_rfl) (by kernel_rfl) (fun _ _ _ h => h) (Or.inl ⟨by rfl, ?_⟩) hHeld ?_
                rotate_left
                · intro w hSw; (try dsimp only at hSw); go_simp; (try with_reducible rfl)
                simp only [Act.put, List.setIfInBounds_toArray, List.set_cons_zero, List.set_cons_succ]
                refine wpAnyH_done (by kernel_rfl) ?_ _
                go_wp2
                go_ret
                exact ⟨rfl, B7.out⟩
end Go.Proofs.Ytflhcffpfiameaa
