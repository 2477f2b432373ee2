/- The document's touched keys, WATCH. -/
import Derived.Test.YtflhcffpfiameaaSess12
namespace Go.Proofs.Ytflhcffpfiameaa
open Go.ChangeShapes Go.WideShapes Go.ChangeAt Go.RowKit Go.Maps
set_option linter.unusedVariables false

theorem RSessAt.trow {w : World} {b : Nat} {F : Nat → Prop} {S : SessM} {qv wv : Value} (h : RSessAt w b F S qv wv) : TRow w wv (sortK S.keys) := h.told.srow
set_option maxRecDepth 100000 in
set_option maxHeartbeats 3200000 in
theorem rtouch_any {w : World} {b : Nat} {F : Nat → Prop} {S : SessM} (h : RSess w b F S) (hfew : S.keys.length ≤ 1024) (v : Value) (bs : List ByteArray) (hs : SRow w v bs) (hlen : bs.length ≤ 8796093022208) :
    Calls Try.prog 42 #[.pointer (some ⟨b, 0, none⟩), v] w fun e w' => e = .returned (.tuple #[]) ∧ RSess w' b F (S.touch bs) ∧ Wr F w w' := by
  obtain ⟨qv, wv, h⟩ := h
  have hlt := h.lt b h.own
  have H := Lib.hid h
  obtain ⟨ao, cp, rfl, hs2⟩ := hs
  have HS := Lib.hid hs2
  have hkl : (sortK S.keys).length ≤ 9223372036854775807 := by rw [sortK_length]; omega
  clear hs2 h
  go_enter Try.func42, Try.ntmps42
  go_wp2_with fail
  go_loopw [4] (fun i wr => ∃ k : Nat, k ≤ bs.length ∧ i = .int .i64 k ∧ Hid (RSessAt wr b F (S.touch (bs.take k)) qv wv ∧ Wr F w wr ∧ ∀ x, x ≠ b → wr.heap[x]? = w.heap[x]?)) (fun i _ => bs.length - (intOf i).toNat)
  case atStart => exact ⟨0, Nat.zero_le _, rfl, by simpa [SessM.touch] using H.out, Wr.refl _ _, fun _ _ => rfl⟩
  case round =>
    obtain ⟨k, hk, rfl, hp⟩ := hrel
    by_cases hlt2 : k < bs.length
    · obtain ⟨x, hx⟩ : ∃ x, bs[k]? = some x := ⟨bs[k], List.getElem?_eq_getElem hlt2⟩
      rcases HS.out with rfl | ⟨g, off, rfl, hg, hcell⟩
      · simp at hlt2
      have hgb : g ≠ b := by
        rintro rfl
        have := hcell k x hx
        rw [World.cell?, H.out.block] at this
        obtain ⟨a1, c1, e1⟩ := H.out.rows.shape
        obtain ⟨a2, c2, e2⟩ := H.out.told.shape
        rw [e1, e2] at this
        simp at this
        rcases hi : off + k with _ | _ | _ | _ | _ | _ | n <;> rw [hi] at this <;> simp at this
      have hc1 : wr.cell? ⟨g, off + k, none⟩ = some (.string x) := (World.cell?_of_block (w := w) (a := ⟨g, off + k, none⟩) (hp.out.2.2 g hgb)).trans (hcell k x hx)
      obtain ⟨c0, c1, c2, c3, c4, c5⟩ := hp.out.1.cells
      have f5 := hp.out.1.free 5
      have hblt : b < wr.heap.size := hp.out.1.lt b hp.out.1.own
      have HX := Lib.hid hx
      have HD := Lib.hid (show RSessAt wr.drew b F (S.touch (bs.take k)) qv wv from hp.out.1.below (Below.refl _ _).drew)
      have HT := Lib.hid (show TRow wr.drew wv (sortK S.keys) from HD.out.trow)
      have hkI : (k : Int) < (bs.length : Int) := by omega
      have hk0 : (0 : Int) ≤ (k : Int) := by omega
      obtain ⟨d, hd⟩ : ∃ d, (S.touch (bs.take k)).dirty = d := ⟨_, rfl⟩
      rw [hd] at c5
      clear hcell hx c0 c1 c2 c3
      rcases d with _ | _
      · have HH := Lib.hid (fun W (h : TRow W wv (sortK S.keys)) => has_any (sortK S.keys) wv x hkl W h)
        have HST := Lib.hid (show RSessAt (wr.drew.setCell ⟨b, 5, none⟩ (.bool (decide (x.data.toList ∈ sortK S.keys)))) b F { S.touch (bs.take k) with dirty := (S.touch (bs.take k)).dirty || decide (x.data.toList ∈ S.keys) } qv wv from by
          have := HD.out.setD (decide (x.data.toList ∈ sortK S.keys))
          rw [hd, Bool.false_or]
          simpa only [mem_sortK] using this)
        clear hd
        go_wp2_with fail
        refine wp_region_held_drew (S := (fun W => W.cell? ⟨b, 4, none⟩ = some wv ∧ W.cell? ⟨g, off + k, none⟩ = some (.string x) ∧ W.frozen? ⟨b, 5, none⟩ = false)) (by kernel_rfl) ?_ (fun hHeld => ?_)
        · exact ⟨c4, hc1, f5⟩
        refine wpAnyH_take (i := 0) (oi := (Go.Oper.mk (some 11) (Go.Op.move (Go.Operand.tmp 0)) 39 _ #[] none)) (v := ?_) rfl (by kernel_rfl) (by kernel_rfl) (by kernel_rfl) (fun _ _ _ h => h) (Or.inl ⟨by rfl, ?_⟩) hHeld ?_
        rotate_left
        · intro w hSw; (try dsimp only at hSw); go_simp; (try with_reducible rfl)
        simp only [Act.put, List.setIfInBounds_toArray, List.set_cons_zero, List.set_cons_succ]
        refine wpAnyH_take (i := 1) (oi := (Go.Oper.mk (some 12) (Go.Op.move (Go.Operand.tmp 0)) 39 _ #[] none)) (v := ?_) rfl (by kernel_rfl) (by kernel_rfl) (by kernel_rfl) (fun _ _ _ h => h) (Or.inl ⟨by rfl, ?_⟩) hHeld ?_
        rotate_left
        · intro w hSw; (try dsimp only at hSw); go_simp; (try with_reducible rfl)
        simp only [Act.put, List.setIfInBounds_toArray, List.set_cons_zero, List.set_cons_succ]
        refine wpAnyH_take (i := 2) (oi := (Go.Oper.mk (some 13) (Go.Op.nilCheck (Go.Operand.tmp 12)) 0 _ #[Go.Edge.mk 1 Go.Ground.data] none)) (v := ?_) rfl (by kernel_rfl) (by kernel_rfl) (by kernel_rfl) (fun _ _ _ h => h) (Or.inl ⟨by rfl, ?_⟩) hHeld ?_
        rotate_left
        · intro w hSw; (try dsimp only at hSw); go_simp; (try with_reducible rfl)
        simp only [Act.put, List.setIfInBounds_toArray, List.set_cons_zero, List.set_cons_succ]
        refine wpAnyH_take (i := 3) (oi := (Go.Oper.mk (some 14) (Go.Op.fieldAddr 64 (Go.Operand.tmp 13) 5) 0 _ #[Go.Edge.mk 2 Go.Ground.data] none)) (v := ?_) rfl (by kernel_rfl) (by kernel_rfl) (by kernel_rfl) (fun _ _ _ h => h) (Or.inl ⟨by rfl, ?_⟩) hHeld ?_
        rotate_left
        · intro w hSw; (try dsimp only at hSw); go_simp; (try with_reducible rfl)
        simp only [Act.put, List.setIfInBounds_toArray, List.set_cons_zero, List.set_cons_succ]
        refine wpAnyH_ready (rs := [4]) (by kernel_rfl) (by simp) ?_
        refine (AllReadyH.cons (o := (Go.Oper.mk (some 15) (Go.Op.load 4 (Go.Operand.tmp 14)) 4 _ #[Go.Edge.mk 3 Go.Ground.data] none)) rfl (fun K hK => ?_) AllReadyH.nil)
        · skip
          go_simp
          refine hK.out _ _ ?_ (fun hHeld => ?_)
          · exact ⟨c4, hc1, f5⟩
          clear hK K
          (try simp only [Act.put, List.setIfInBounds_toArray, List.set_cons_zero, List.set_cons_succ])
          refine wpAnyH_take (i := 5) (oi := (Go.Oper.mk (some 16) (Go.Op.move (Go.Operand.tmp 15)) 4 _ #[Go.Edge.mk 4 Go.Ground.data] none)) (v := ?_) rfl (by kernel_rfl) (by kernel_rfl) (by kernel_rfl) (fun _ _ _ h => h) (Or.inl ⟨by rfl, ?_⟩) hHeld ?_
          rotate_left
          · intro w hSw; (try dsimp only at hSw); go_simp; (try with_reducible rfl)
          simp only [Act.put, List.setIfInBounds_toArray, List.set_cons_zero, List.set_cons_succ]
          refine wpAnyH_take (i := 6) (oi := (Go.Oper.mk (some 17) (Go.Op.move (Go.Operand.tmp 0)) 39 _ #[Go.Edge.mk 5 Go.Ground.guard] (some (5, false)))) (v := ?_) rfl (by kernel_rfl) (by kernel_rfl) (by kernel_rfl) (fun _ _ _ h => h) (Or.inl ⟨by rfl, ?_⟩) hHeld ?_
          rotate_left
          · intro w hSw; (try dsimp only at hSw); go_simp; (try with_reducible rfl)
          simp only [Act.put, List.setIfInBounds_toArray, List.set_cons_zero, List.set_cons_succ]
          refine wpAnyH_take (i := 7) (oi := (Go.Oper.mk (some 18) (Go.Op.nilCheck (Go.Operand.tmp 17)) 0 _ #[Go.Edge.mk 6 Go.Ground.data, Go.Edge.mk 5 Go.Ground.guard] (some (5, false)))) (v := ?_) rfl (by kernel_rfl) (by kernel_rfl) (by kernel_rfl) (fun _ _ _ h => h) (Or.inl ⟨by rfl, ?_⟩) hHeld ?_
          rotate_left
          · intro w hSw; (try dsimp only at hSw); go_simp; (try with_reducible rfl)
          simp only [Act.put, List.setIfInBounds_toArray, List.set_cons_zero, List.set_cons_succ]
          refine wpAnyH_take (i := 8) (oi := (Go.Oper.mk (some 19) (Go.Op.fieldAddr 64 (Go.Operand.tmp 18) 4) 0 _ #[Go.Edge.mk 7 Go.Ground.data, Go.Edge.mk 5 Go.Ground.guard] (some (5, false)))) (v := ?_) rfl (by kernel_rfl) (by kernel_rfl) (by kernel_rfl) (fun _ _ _ h => h) (Or.inl ⟨by rfl, ?_⟩) hHeld ?_
          rotate_left
          · intro w hSw; (try dsimp only at hSw); go_simp; (try with_reducible rfl)
          simp only [Act.put, List.setIfInBounds_toArray, List.set_cons_zero, List.set_cons_succ]
          refine wpAnyH_take (i := 9) (oi := (Go.Oper.mk (some 20) (Go.Op.load 23 (Go.Operand.tmp 19)) 23 _ #[Go.Edge.mk 8 Go.Ground.data, Go.Edge.mk 5 Go.Ground.guard] (some (5, false)))) (v := ?_) rfl (by kernel_rfl) (by kernel_rfl) (by kernel_rfl) (fun _ _ _ h => h) (Or.inl ⟨by rfl, ?_⟩) hHeld ?_
          rotate_left
          · intro w hSw; (try dsimp only at hSw); go_simp; (try with_reducible rfl)
          simp only [Act.put, List.setIfInBounds_toArray, List.set_cons_zero, List.set_cons_succ]
          refine wpAnyH_take (i := 10) (oi := (Go.Oper.mk (some 21) (Go.Op.move (Go.Operand.tmp 1)) 23 _ #[Go.Edge.mk 5 Go.Ground.guard] (some (5, false)))) (v := ?_) rfl (by kernel_rfl) (by kernel_rfl) (by kernel_rfl) (fun _ _ _ h => h) (Or.inl ⟨by rfl, ?_⟩) hHeld ?_
          rotate_left
          · intro w hSw; (try dsimp only at hSw); go_simp; (try with_reducible rfl)
          simp only [Act.put, List.setIfInBounds_toArray, List.set_cons_zero, List.set_cons_succ]
          refine wpAnyH_take (i := 11) (oi := (Go.Oper.mk (some 22) (Go.Op.move (Go.Operand.tmp 4)) 3 _ #[Go.Edge.mk 5 Go.Ground.guard] (some (5, false)))) (v := ?_) rfl (by kernel_rfl) (by kernel_rfl) (by kernel_rfl) (fun _ _ _ h => h) (Or.inl ⟨by rfl, ?_⟩) hHeld ?_
          rotate_left
          · intro w hSw; (try dsimp only at hSw); go_simp; (try with_reducible rfl)
          simp only [Act.put, List.setIfInBounds_toArray, List.set_cons_zero, List.set_cons_succ]
          refine wpAnyH_take (i := 12) (oi := (Go.Oper.mk (some 23) (Go.Op.indexAddr 23 (Go.Operand.tmp 21) (Go.Operand.tmp 22)) 0 _ #[Go.Edge.mk 10 Go.Ground.data, Go.Edge.mk 11 Go.Ground.data, Go.Edge.mk 5 Go.Ground.guard] (some (5, false)))) (v := ?_) rfl (by kernel_rfl) (by kernel_rfl) (by kernel_rfl) (fun _ _ _ h => h) (Or.inl ⟨by rfl, ?_⟩) hHeld ?_
          rotate_left
          · intro w hSw; (try dsimp only at hSw); go_simp; (try with_reducible rfl)
          simp only [Act.put, List.setIfInBounds_toArray, List.set_cons_zero, List.set_cons_succ]
          refine wpAnyH_take (i := 13) (oi := (Go.Oper.mk (some 24) (Go.Op.load 9 (Go.Operand.tmp 23)) 9 _ #[Go.Edge.mk 12 Go.Ground.data, Go.Edge.mk 5 Go.Ground.guard] (some (5, false)))) (v := ?_) rfl (by kernel_rfl) (by kernel_rfl) (by kernel_rfl) (fun _ _ _ h => h) (Or.inl ⟨by rfl, ?_⟩) hHeld ?_
          rotate_left
          · intro w hSw; (try dsimp only at hSw); go_simp; (try with_reducible rfl)
          simp only [Act.put, List.setIfInBounds_toArray, List.set_cons_zero, List.set_cons_succ]
          refine wpAnyH_ready (rs := [14]) (by kernel_rfl) (by simp) ?_
          refine (AllReadyH.cons (o := (Go.Oper.mk (some 25) (Go.Op.call (Go.Call.mk (Go.Callee.value (Go.Operand.func 26)) #[Go.Operand.tmp 20, Go.Operand.tmp 24] #[23, 9])) 4 _ #[Go.Edge.mk 9 Go.Ground.data, Go.Edge.mk 13 Go.Ground.data, Go.Edge.mk 5 Go.Ground.chain, Go.Edge.mk 5 Go.Ground.guard] (some (5, false)))) rfl (fun K hK => ?_) AllReadyH.nil)
          · skip
            go_simp
            ((with_reducible refine (HH.out _ HT.out).mono ?_); rintro e wx ⟨rfl, rfl⟩)
            go_wp2_with fail
            refine hK.out _ _ ?_ (fun hHeld => ?_)
            · exact ⟨c4, hc1, f5⟩
            clear hK K
            (try simp only [Act.put, List.setIfInBounds_toArray, List.set_cons_zero, List.set_cons_succ])
            refine wpAnyH_take (i := 15) (oi := (Go.Oper.mk (some 26) (Go.Op.pick (Go.Operand.tmp 16) (Go.Operand.const (Go.Value.bool true)) (Go.Operand.tmp 25)) 4 _ #[Go.Edge.mk 5 Go.Ground.data, Go.Edge.mk 14 Go.Ground.data] none)) (v := ?_) rfl (by kernel_rfl) (by kernel_rfl) (by kernel_rfl) (fun _ _ _ h => h) (Or.inl ⟨by rfl, ?_⟩) hHeld ?_
            rotate_left
            · intro w hSw; (try dsimp only at hSw); go_simp; (try with_reducible rfl)
            simp only [Act.put, List.setIfInBounds_toArray, List.set_cons_zero, List.set_cons_succ]
            refine wpAnyH_take (i := 16) (oi := (Go.Oper.mk (some 27) (Go.Op.nilCheck (Go.Operand.tmp 11)) 0 _ #[Go.Edge.mk 0 Go.Ground.data, Go.Edge.mk 0 Go.Ground.phase, Go.Edge.mk 1 Go.Ground.phase, Go.Edge.mk 2 Go.Ground.phase, Go.Edge.mk 3 Go.Ground.phase, Go.Edge.mk 4 Go.Ground.phase, Go.Edge.mk 5 Go.Ground.phase, Go.Edge.mk 6 Go.Ground.phase, Go.Edge.mk 7 Go.Ground.phase, Go.Edge.mk 8 Go.Ground.phase, Go.Edge.mk 9 Go.Ground.phase, Go.Edge.mk 10 Go.Ground.phase, Go.Edge.mk 11 Go.Ground.phase, Go.Edge.mk 12 Go.Ground.phase, Go.Edge.mk 13 Go.Ground.phase, Go.Edge.mk 14 Go.Ground.phase, Go.Edge.mk 15 Go.Ground.phase] none)) (v := ?_) rfl (by kernel_rfl) (by kernel_rfl) (by kernel_rfl) (fun _ _ _ h => h) (Or.inl ⟨by rfl, ?_⟩) hHeld ?_
            rotate_left
            · intro w hSw; (try dsimp only at hSw); go_simp; (try with_reducible rfl)
            simp only [Act.put, List.setIfInBounds_toArray, List.set_cons_zero, List.set_cons_succ]
            refine wpAnyH_take (i := 17) (oi := (Go.Oper.mk (some 28) (Go.Op.fieldAddr 64 (Go.Operand.tmp 27) 5) 0 _ #[Go.Edge.mk 16 Go.Ground.data, Go.Edge.mk 0 Go.Ground.phase, Go.Edge.mk 1 Go.Ground.phase, Go.Edge.mk 2 Go.Ground.phase, Go.Edge.mk 3 Go.Ground.phase, Go.Edge.mk 4 Go.Ground.phase, Go.Edge.mk 5 Go.Ground.phase, Go.Edge.mk 6 Go.Ground.phase, Go.Edge.mk 7 Go.Ground.phase, Go.Edge.mk 8 Go.Ground.phase, Go.Edge.mk 9 Go.Ground.phase, Go.Edge.mk 10 Go.Ground.phase, Go.Edge.mk 11 Go.Ground.phase, Go.Edge.mk 12 Go.Ground.phase, Go.Edge.mk 13 Go.Ground.phase, Go.Edge.mk 14 Go.Ground.phase, Go.Edge.mk 15 Go.Ground.phase] none)) (v := ?_) rfl (by kernel_rfl) (by kernel_rfl) (by kernel_rfl) (fun _ _ _ h => h) (Or.inl ⟨by rfl, ?_⟩) hHeld ?_
            rotate_left
            · intro w hSw; (try dsimp only at hSw); go_simp; (try with_reducible rfl)
            simp only [Act.put, List.setIfInBounds_toArray, List.set_cons_zero, List.set_cons_succ]
            refine wpAnyH_ready (rs := [18]) (by kernel_rfl) (by simp) ?_
            refine (AllReadyH.cons (o := (Go.Oper.mk none (Go.Op.store 4 (Go.Operand.tmp 28) (Go.Operand.tmp 26)) 0 _ #[Go.Edge.mk 17 Go.Ground.data, Go.Edge.mk 15 Go.Ground.data, Go.Edge.mk 14 Go.Ground.chain, Go.Edge.mk 0 Go.Ground.phase, Go.Edge.mk 1 Go.Ground.phase, Go.Edge.mk 2 Go.Ground.phase, Go.Edge.mk 3 Go.Ground.phase, Go.Edge.mk 4 Go.Ground.phase, Go.Edge.mk 5 Go.Ground.phase, Go.Edge.mk 6 Go.Ground.phase, Go.Edge.mk 7 Go.Ground.phase, Go.Edge.mk 8 Go.Ground.phase, Go.Edge.mk 9 Go.Ground.phase, Go.Edge.mk 10 Go.Ground.phase, Go.Edge.mk 11 Go.Ground.phase, Go.Edge.mk 12 Go.Ground.phase, Go.Edge.mk 13 Go.Ground.phase, Go.Edge.mk 14 Go.Ground.phase, Go.Edge.mk 15 Go.Ground.phase] none)) rfl (fun K hK => ?_) AllReadyH.nil)
            · skip
              go_simp
              refine hK.out _ _ ?_ (fun hHeld => ?_)
              · exact ⟨HST.out.cells.2.2.2.2.1, (World.cell?_of_block (w := wr) (a := ⟨g, off + k, none⟩) (Below.heap_setCell _ _ _ _ hgb)).trans hc1, HST.out.free 5⟩
              clear hK K
              (try simp only [Act.put, List.setIfInBounds_toArray, List.set_cons_zero, List.set_cons_succ])
              refine wpAnyH_done (by kernel_rfl) ?_ _
              go_wp2
              go_roundw
              case rel =>
                refine ⟨k + 1, by omega, by go_num, ?_, (Wr.setCell (p := ⟨b, 5, none⟩) hp.out.2.1 H.out.own _).drewN 1, fun y hy => (Below.heap_setCell _ _ _ _ hy).trans (hp.out.2.2 y hy)⟩
                rw [take_one HX.out, SessM.touch_snoc]
                exact HST.out
              case measure => simp [intOf]; omega
      · have HST := Lib.hid (show RSessAt (wr.drew.setCell ⟨b, 5, none⟩ (.bool true)) b F { S.touch (bs.take k) with dirty := (S.touch (bs.take k)).dirty || decide (x.data.toList ∈ S.keys) } qv wv from by
          have := HD.out.setD true
          rw [hd, Bool.true_or]
          exact this)
        clear hd
        go_wp2_with fail
        refine wp_region_held_drew (S := (fun W => W.cell? ⟨b, 4, none⟩ = some wv ∧ W.cell? ⟨g, off + k, none⟩ = some (.string x) ∧ W.frozen? ⟨b, 5, none⟩ = false)) (by kernel_rfl) ?_ (fun hHeld => ?_)
        · exact ⟨c4, hc1, f5⟩
        refine wpAnyH_take (i := 0) (oi := (Go.Oper.mk (some 11) (Go.Op.move (Go.Operand.tmp 0)) 39 _ #[] none)) (v := ?_) rfl (by kernel_rfl) (by kernel_rfl) (by kernel_rfl) (fun _ _ _ h => h) (Or.inl ⟨by rfl, ?_⟩) hHeld ?_
        rotate_left
        · intro w hSw; (try dsimp only at hSw); go_simp; (try with_reducible rfl)
        simp only [Act.put, List.setIfInBounds_toArray, List.set_cons_zero, List.set_cons_succ]
        refine wpAnyH_take (i := 1) (oi := (Go.Oper.mk (some 12) (Go.Op.move (Go.Operand.tmp 0)) 39 _ #[] none)) (v := ?_) rfl (by kernel_rfl) (by kernel_rfl) (by kernel_rfl) (fun _ _ _ h => h) (Or.inl ⟨by rfl, ?_⟩) hHeld ?_
        rotate_left
        · intro w hSw; (try dsimp only at hSw); go_simp; (try with_reducible rfl)
        simp only [Act.put, List.setIfInBounds_toArray, List.set_cons_zero, List.set_cons_succ]
        refine wpAnyH_take (i := 2) (oi := (Go.Oper.mk (some 13) (Go.Op.nilCheck (Go.Operand.tmp 12)) 0 _ #[Go.Edge.mk 1 Go.Ground.data] none)) (v := ?_) rfl (by kernel_rfl) (by kernel_rfl) (by kernel_rfl) (fun _ _ _ h => h) (Or.inl ⟨by rfl, ?_⟩) hHeld ?_
        rotate_left
        · intro w hSw; (try dsimp only at hSw); go_simp; (try with_reducible rfl)
        simp only [Act.put, List.setIfInBounds_toArray, List.set_cons_zero, List.set_cons_succ]
        refine wpAnyH_take (i := 3) (oi := (Go.Oper.mk (some 14) (Go.Op.fieldAddr 64 (Go.Operand.tmp 13) 5) 0 _ #[Go.Edge.mk 2 Go.Ground.data] none)) (v := ?_) rfl (by kernel_rfl) (by kernel_rfl) (by kernel_rfl) (fun _ _ _ h => h) (Or.inl ⟨by rfl, ?_⟩) hHeld ?_
        rotate_left
        · intro w hSw; (try dsimp only at hSw); go_simp; (try with_reducible rfl)
        simp only [Act.put, List.setIfInBounds_toArray, List.set_cons_zero, List.set_cons_succ]
        refine wpAnyH_ready (rs := [4]) (by kernel_rfl) (by simp) ?_
        refine (AllReadyH.cons (o := (Go.Oper.mk (some 15) (Go.Op.load 4 (Go.Operand.tmp 14)) 4 _ #[Go.Edge.mk 3 Go.Ground.data] none)) rfl (fun K hK => ?_) AllReadyH.nil)
        · skip
          go_simp
          refine hK.out _ _ ?_ (fun hHeld => ?_)
          · exact ⟨c4, hc1, f5⟩
          clear hK K
          (try simp only [Act.put, List.setIfInBounds_toArray, List.set_cons_zero, List.set_cons_succ])
          refine wpAnyH_take (i := 5) (oi := (Go.Oper.mk (some 16) (Go.Op.move (Go.Operand.tmp 15)) 4 _ #[Go.Edge.mk 4 Go.Ground.data] none)) (v := ?_) rfl (by kernel_rfl) (by kernel_rfl) (by kernel_rfl) (fun _ _ _ h => h) (Or.inl ⟨by rfl, ?_⟩) hHeld ?_
          rotate_left
          · intro w hSw; (try dsimp only at hSw); go_simp; (try with_reducible rfl)
          simp only [Act.put, List.setIfInBounds_toArray, List.set_cons_zero, List.set_cons_succ]
          refine wpAnyH_take (i := 6) (oi := (Go.Oper.mk (some 17) (Go.Op.move (Go.Operand.tmp 0)) 39 _ #[Go.Edge.mk 5 Go.Ground.guard] (some (5, false)))) (v := undef) rfl (by kernel_rfl) (by kernel_rfl) (by kernel_rfl) (fun _ _ _ h => h) (Or.inr ⟨by rfl, rfl⟩) hHeld ?_
          simp only [Act.put, List.setIfInBounds_toArray, List.set_cons_zero, List.set_cons_succ]
          refine wpAnyH_take (i := 7) (oi := (Go.Oper.mk (some 18) (Go.Op.nilCheck (Go.Operand.tmp 17)) 0 _ #[Go.Edge.mk 6 Go.Ground.data, Go.Edge.mk 5 Go.Ground.guard] (some (5, false)))) (v := undef) rfl (by kernel_rfl) (by kernel_rfl) (by kernel_rfl) (fun _ _ _ h => h) (Or.inr ⟨by rfl, rfl⟩) hHeld ?_
          simp only [Act.put, List.setIfInBounds_toArray, List.set_cons_zero, List.set_cons_succ]
          refine wpAnyH_take (i := 8) (oi := (Go.Oper.mk (some 19) (Go.Op.fieldAddr 64 (Go.Operand.tmp 18) 4) 0 _ #[Go.Edge.mk 7 Go.Ground.data, Go.Edge.mk 5 Go.Ground.guard] (some (5, false)))) (v := undef) rfl (by kernel_rfl) (by kernel_rfl) (by kernel_rfl) (fun _ _ _ h => h) (Or.inr ⟨by rfl, rfl⟩) hHeld ?_
          simp only [Act.put, List.setIfInBounds_toArray, List.set_cons_zero, List.set_cons_succ]
          refine wpAnyH_take (i := 9) (oi := (Go.Oper.mk (some 20) (Go.Op.load 23 (Go.Operand.tmp 19)) 23 _ #[Go.Edge.mk 8 Go.Ground.data, Go.Edge.mk 5 Go.Ground.guard] (some (5, false)))) (v := undef) rfl (by kernel_rfl) (by kernel_rfl) (by kernel_rfl) (fun _ _ _ h => h) (Or.inr ⟨by rfl, rfl⟩) hHeld ?_
          simp only [Act.put, List.setIfInBounds_toArray, List.set_cons_zero, List.set_cons_succ]
          refine wpAnyH_take (i := 10) (oi := (Go.Oper.mk (some 21) (Go.Op.move (Go.Operand.tmp 1)) 23 _ #[Go.Edge.mk 5 Go.Ground.guard] (some (5, false)))) (v := undef) rfl (by kernel_rfl) (by kernel_rfl) (by kernel_rfl) (fun _ _ _ h => h) (Or.inr ⟨by rfl, rfl⟩) hHeld ?_
          simp only [Act.put, List.setIfInBounds_toArray, List.set_cons_zero, List.set_cons_succ]
          refine wpAnyH_take (i := 11) (oi := (Go.Oper.mk (some 22) (Go.Op.move (Go.Operand.tmp 4)) 3 _ #[Go.Edge.mk 5 Go.Ground.guard] (some (5, false)))) (v := undef) rfl (by kernel_rfl) (by kernel_rfl) (by kernel_rfl) (fun _ _ _ h => h) (Or.inr ⟨by rfl, rfl⟩) hHeld ?_
          simp only [Act.put, List.setIfInBounds_toArray, List.set_cons_zero, List.set_cons_succ]
          refine wpAnyH_take (i := 12) (oi := (Go.Oper.mk (some 23) (Go.Op.indexAddr 23 (Go.Operand.tmp 21) (Go.Operand.tmp 22)) 0 _ #[Go.Edge.mk 10 Go.Ground.data, Go.Edge.mk 11 Go.Ground.data, Go.Edge.mk 5 Go.Ground.guard] (some (5, false)))) (v := undef) rfl (by kernel_rfl) (by kernel_rfl) (by kernel_rfl) (fun _ _ _ h => h) (Or.inr ⟨by rfl, rfl⟩) hHeld ?_
          simp only [Act.put, List.setIfInBounds_toArray, List.set_cons_zero, List.set_cons_succ]
          refine wpAnyH_take (i := 13) (oi := (Go.Oper.mk (some 24) (Go.Op.load 9 (Go.Operand.tmp 23)) 9 _ #[Go.Edge.mk 12 Go.Ground.data, Go.Edge.mk 5 Go.Ground.guard] (some (5, false)))) (v := undef) rfl (by kernel_rfl) (by kernel_rfl) (by kernel_rfl) (fun _ _ _ h => h) (Or.inr ⟨by rfl, rfl⟩) hHeld ?_
          simp only [Act.put, List.setIfInBounds_toArray, List.set_cons_zero, List.set_cons_succ]
          refine wpAnyH_take (i := 14) (oi := (Go.Oper.mk (some 25) (Go.Op.call (Go.Call.mk (Go.Callee.value (Go.Operand.func 26)) #[Go.Operand.tmp 20, Go.Operand.tmp 24] #[23, 9])) 4 _ #[Go.Edge.mk 9 Go.Ground.data, Go.Edge.mk 13 Go.Ground.data, Go.Edge.mk 5 Go.Ground.chain, Go.Edge.mk 5 Go.Ground.guard] (some (5, false)))) (v := undef) rfl (by kernel_rfl) (by kernel_rfl) (by kernel_rfl) (fun _ _ _ h => h) (Or.inr ⟨by rfl, rfl⟩) hHeld ?_
          simp only [Act.put, List.setIfInBounds_toArray, List.set_cons_zero, List.set_cons_succ]
          refine wpAnyH_take (i := 15) (oi := (Go.Oper.mk (some 26) (Go.Op.pick (Go.Operand.tmp 16) (Go.Operand.const (Go.Value.bool true)) (Go.Operand.tmp 25)) 4 _ #[Go.Edge.mk 5 Go.Ground.data, Go.Edge.mk 14 Go.Ground.data] none)) (v := ?_) rfl (by kernel_rfl) (by kernel_rfl) (by kernel_rfl) (fun _ _ _ h => h) (Or.inl ⟨by rfl, ?_⟩) hHeld ?_
          rotate_left
          · intro w hSw; (try dsimp only at hSw); go_simp; (try with_reducible rfl)
          simp only [Act.put, List.setIfInBounds_toArray, List.set_cons_zero, List.set_cons_succ]
          refine wpAnyH_take (i := 16) (oi := (Go.Oper.mk (some 27) (Go.Op.nilCheck (Go.Operand.tmp 11)) 0 _ #[Go.Edge.mk 0 Go.Ground.data, Go.Edge.mk 0 Go.Ground.phase, Go.Edge.mk 1 Go.Ground.phase, Go.Edge.mk 2 Go.Ground.phase, Go.Edge.mk 3 Go.Ground.phase, Go.Edge.mk 4 Go.Ground.phase, Go.Edge.mk 5 Go.Ground.phase, Go.Edge.mk 6 Go.Ground.phase, Go.Edge.mk 7 Go.Ground.phase, Go.Edge.mk 8 Go.Ground.phase, Go.Edge.mk 9 Go.Ground.phase, Go.Edge.mk 10 Go.Ground.phase, Go.Edge.mk 11 Go.Ground.phase, Go.Edge.mk 12 Go.Ground.phase, Go.Edge.mk 13 Go.Ground.phase, Go.Edge.mk 14 Go.Ground.phase, Go.Edge.mk 15 Go.Ground.phase] none)) (v := ?_) rfl (by kernel_rfl) (by kernel_rfl) (by kernel_rfl) (fun _ _ _ h => h) (Or.inl ⟨by rfl, ?_⟩) hHeld ?_
          rotate_left
          · intro w hSw; (try dsimp only at hSw); go_simp; (try with_reducible rfl)
          simp only [Act.put, List.setIfInBounds_toArray, List.set_cons_zero, List.set_cons_succ]
          refine wpAnyH_take (i := 17) (oi := (Go.Oper.mk (some 28) (Go.Op.fieldAddr 64 (Go.Operand.tmp 27) 5) 0 _ #[Go.Edge.mk 16 Go.Ground.data, Go.Edge.mk 0 Go.Ground.phase, Go.Edge.mk 1 Go.Ground.phase, Go.Edge.mk 2 Go.Ground.phase, Go.Edge.mk 3 Go.Ground.phase, Go.Edge.mk 4 Go.Ground.phase, Go.Edge.mk 5 Go.Ground.phase, Go.Edge.mk 6 Go.Ground.phase, Go.Edge.mk 7 Go.Ground.phase, Go.Edge.mk 8 Go.Ground.phase, Go.Edge.mk 9 Go.Ground.phase, Go.Edge.mk 10 Go.Ground.phase, Go.Edge.mk 11 Go.Ground.phase, Go.Edge.mk 12 Go.Ground.phase, Go.Edge.mk 13 Go.Ground.phase, Go.Edge.mk 14 Go.Ground.phase, Go.Edge.mk 15 Go.Ground.phase] none)) (v := ?_) rfl (by kernel_rfl) (by kernel_rfl) (by kernel_rfl) (fun _ _ _ h => h) (Or.inl ⟨by rfl, ?_⟩) hHeld ?_
          rotate_left
          · intro w hSw; (try dsimp only at hSw); go_simp; (try with_reducible rfl)
          simp only [Act.put, List.setIfInBounds_toArray, List.set_cons_zero, List.set_cons_succ]
          refine wpAnyH_ready (rs := [18]) (by kernel_rfl) (by simp) ?_
          refine (AllReadyH.cons (o := (Go.Oper.mk none (Go.Op.store 4 (Go.Operand.tmp 28) (Go.Operand.tmp 26)) 0 _ #[Go.Edge.mk 17 Go.Ground.data, Go.Edge.mk 15 Go.Ground.data, Go.Edge.mk 14 Go.Ground.chain, Go.Edge.mk 0 Go.Ground.phase, Go.Edge.mk 1 Go.Ground.phase, Go.Edge.mk 2 Go.Ground.phase, Go.Edge.mk 3 Go.Ground.phase, Go.Edge.mk 4 Go.Ground.phase, Go.Edge.mk 5 Go.Ground.phase, Go.Edge.mk 6 Go.Ground.phase, Go.Edge.mk 7 Go.Ground.phase, Go.Edge.mk 8 Go.Ground.phase, Go.Edge.mk 9 Go.Ground.phase, Go.Edge.mk 10 Go.Ground.phase, Go.Edge.mk 11 Go.Ground.phase, Go.Edge.mk 12 Go.Ground.phase, Go.Edge.mk 13 Go.Ground.phase, Go.Edge.mk 14 Go.Ground.phase, Go.Edge.mk 15 Go.Ground.phase] none)) rfl (fun K hK => ?_) AllReadyH.nil)
          · skip
            go_simp
            refine hK.out _ _ ?_ (fun hHeld => ?_)
            · exact ⟨HST.out.cells.2.2.2.2.1, (World.cell?_of_block (w := wr) (a := ⟨g, off + k, none⟩) (Below.heap_setCell _ _ _ _ hgb)).trans hc1, HST.out.free 5⟩
            clear hK K
            (try simp only [Act.put, List.setIfInBounds_toArray, List.set_cons_zero, List.set_cons_succ])
            refine wpAnyH_done (by kernel_rfl) ?_ _
            go_wp2
            go_roundw
            case rel =>
              refine ⟨k + 1, by omega, by go_num, ?_, (Wr.setCell (p := ⟨b, 5, none⟩) hp.out.2.1 H.out.own _).drewN 1, fun y hy => (Below.heap_setCell _ _ _ _ hy).trans (hp.out.2.2 y hy)⟩
              rw [take_one HX.out, SessM.touch_snoc]
              exact HST.out
            case measure => simp [intOf]; omega
    · go_wp2
      go_end0
      obtain rfl : bs.length = k := by omega
      rw [List.take_length] at hp
      exact ⟨rfl, RSessAt.sess hp.out.1, hp.out.2.1⟩
end Go.Proofs.Ytflhcffpfiameaa
